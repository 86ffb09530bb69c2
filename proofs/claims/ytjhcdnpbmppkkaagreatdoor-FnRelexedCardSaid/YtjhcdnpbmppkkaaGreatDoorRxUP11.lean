/-
 Plain lemmas on the models, part 11.
-/
import Derived.Test.YtjhcdnpbmppkkaaGreatDoorRxUP10
namespace Go.Proofs.Tryz
open Go.Av
set_option maxRecDepth 100000
set_option linter.unusedSimpArgs false
set_option linter.unusedVariables false

section
set_option linter.unusedSectionVars false
variable (b : List UInt8) (hb : b.length ≤ 1048576) (N : Nat) (hN : 2100000 ≤ N)
include hb hN
theorem text_l (r2 : Int × Int × Int) : ∀ (n c : Nat) (i h : Int) (acc : List UInt8), c < n → acc.length + c ≤ 10 → 0 ≤ i → i ≤ (b.length : Int) → Dr b (TL 10) (ms_l1Text_l1 N b n (r2, (c : Int), i, h, acc)) := by
 intro n
 induction n with
 | zero => intro c i h acc hc; omega
 | succ n ih =>
  intro c i h acc hc ha h0 h1
  rw [ms_l1Text_l1]
  refine Dr.cond (fun hx => ?_) fun hx => ?_
  ·have hx := of_decide_eq_true hx
   obtain ⟨c, rfl⟩ : ∃ k, c = k + 1 := ⟨c - 1, by omega⟩
   refine Dr.bind (byte_dr b hb i h h0 h1) fun x i h hx h0 h1 => ?_
   have k3 : ∀ z, Dr b (TL 10) (ms_l1Text_k3 N b (ms_l1Text_l1 N b n) (r2, ((c + 1 : Nat) : Int), (x, i, h), acc, z)) := fun z => by
    unfold ms_l1Text_k3
    dsimp only
    rw [app_some (by simp; omega), Option.bind_some, wrap64 (by omega) (by omega), show ((c + 1 : Nat) : Int) - 1 = (c : Int) by omega]
    exact ih c i h _ (by omega) (by simp; omega) h0 h1
   have k2 : ∀ z, Dr b (TL 10) (ms_l1Text_k2 N b (ms_l1Text_l1 N b n) (r2, ((c + 1 : Nat) : Int), (x, i, h), acc, z)) := fun z => Dr.cond (fun _ => k3 _) fun _ => k3 _
   exact Dr.cond (fun _ => k2 _) fun _ => k2 _
  ·exact Dr.some (show acc.length ≤ _ by omega) h0 h1
theorem text_dr (i h : Int) (h0 : 0 ≤ i) (h1 : i ≤ (b.length : Int)) : Dr b (TL 10) (ms_l1Text N 3 b i h) := by
 unfold ms_l1Text
 refine Dr.bind (below_dr b hb _ i h h0 h1) fun r i h hr h0 h1 => Dr.bind (below_dr b hb _ i h h0 h1) fun q i h hq h0 h1 => ?_
 dsimp only
 obtain ⟨c, rfl⟩ := Int.eq_ofNat_of_zero_le hq.1
 have hw : IntKind.wrap .i64 (3 + 1) = 4 := rfl
 rw [hw] at hq
 have hc : c ≤ 3 := by rcases hq.2 with h | h <;> omega
 exact text_l b hb N hN _ N c i h [] (by omega) (by simp; omega) h0 h1
omit hb hN in
theorem cut_ex {l : List UInt8} {x y : Int} (h0 : 0 ≤ x) (h1 : x ≤ y) (h2 : y ≤ (l.length : Int)) : ∃ r, cut l x y = some r ∧ (r.length : Int) = y - x := by
 obtain ⟨m, rfl⟩ := Int.eq_ofNat_of_zero_le h0
 obtain ⟨n, rfl⟩ := Int.eq_ofNat_of_zero_le (show 0 ≤ y by omega)
 have e : cut l (m : Int) (n : Int) = some ((l.drop m).take (n - m)) := cut_nat (by omega) (by omega)
 refine ⟨_, e, ?_⟩
 rw [List.length_take, List.length_drop]
 omega
theorem spoil_dr (s : List UInt8) (m : Nat) (hs : s.length ≤ m) (hm : m ≤ 100000000000000) (i h : Int) (h0 : 0 ≤ i) (h1 : i ≤ (b.length : Int)) : Dr b (TL (m + 10)) (ms_l1Spoil N s b i h) := by
 unfold ms_l1Spoil
 refine Dr.cond (fun _ => Dr.id3 ((text_dr b hb N hN i h h0 h1).imp fun x (hx : x.length ≤ 10) => by show x.length ≤ _; omega)) fun hc => ?_
 have hpos : 0 < s.length := by
  have : ¬ (s.length : Int) = 0 := by simpa using hc
  omega
 refine Dr.bind (below_dr b hb _ i h h0 h1) fun r i h hr h0 h1 => Dr.bind (below_dr b hb _ i h h0 h1) fun q i h hq h0 h1 => ?_
 dsimp only
 have hr1 : 0 ≤ r := hr.1
 have hr2 : r < (s.length : Int) := by rcases hr.2 with h | h <;> omega
 have hw : IntKind.wrap .i64 (r + 1) = r + 1 := wrap64 (by omega) (by omega)
 obtain ⟨u, u1, u2⟩ := cut_ex (l := s) (x := 0) (y := r) (by omega) (by omega) (by omega)
 obtain ⟨v, v1, v2⟩ := cut_ex (l := s) (x := r + 1) (y := (s.length : Int)) (by omega) (by omega) (by omega)
 obtain ⟨w, w1, w2⟩ := cut_ex (l := s) (x := r) (y := (s.length : Int)) (by omega) (by omega) (by omega)
 simp only [hw, u1, v1, w1, Option.bind_some]
 refine Dr.cond (fun _ => ?_) fun _ => Dr.cond (fun _ => ?_) fun _ => Dr.cond (fun _ => ?_) fun _ => ?_
 ·exact Dr.cat (by omega) fun e => Dr.some (show _ ≤ m + 10 by omega) h0 h1
 ·refine Dr.bind (byte_dr b hb i h h0 h1) fun x i h hx h0 h1 => ?_
  dsimp only
  refine Dr.cat (by simp only [List.length_singleton]; omega) fun e => ?_
  simp only [List.length_singleton] at e
  exact Dr.cat (by omega) fun e2 => Dr.some (show _ ≤ m + 10 by omega) h0 h1
 ·exact Dr.some (show u.length ≤ m + 10 by omega) h0 h1
 ·obtain ⟨rn, rfl⟩ := Int.eq_ofNat_of_zero_le hr1
  have hrn : rn < s.length := by omega
  have e : ix s (rn : Int) = some s[rn] := ix_nat hrn
  rw [e, Option.bind_some]
  refine Dr.bind (below_dr b hb _ i h h0 h1) fun x i h hx h0 h1 => ?_
  dsimp only
  refine Dr.cat (by simp only [List.length_singleton]; omega) fun e => ?_
  simp only [List.length_singleton] at e
  exact Dr.cat (by omega) fun e2 => Dr.some (show _ ≤ m + 10 by omega) h0 h1

def TK (t : SToken) : Prop := t.Text.length ≤ 20
theorem token_dr (i h : Int) (h0 : 0 ≤ i) (h1 : i ≤ (b.length : Int)) : Dr b TK (ms_l5Token b i h) := by
 have k1 : ∀ (r i h : Int) (c : Bool), 0 ≤ i → i ≤ (b.length : Int) → Dr b TK (ms_l5Token_k1 b ((r, i, h), c)) := fun r i h c h0 h1 => by
  unfold ms_l5Token_k1
  dsimp only
  refine Dr.cond (fun _ => ?_) fun _ => Dr.cond (fun _ => ?_) fun _ => Dr.cond (fun _ => ?_) fun _ => ?_
  ·exact Dr.bind (word_dr b hb i h h0 h1) fun x i h hx h0 h1 => Dr.some (show x.length ≤ 20 from hx) h0 h1
  ·rw [builtins_is, Option.bind_some]
   exact Dr.bind (pick_le b hb 20 _ i h h0 h1 (by decide) (by decide)) fun x i h hx h0 h1 => Dr.some (show x.length ≤ 20 from hx) h0 h1
  ·refine Dr.bind (below_dr b hb _ i h h0 h1) fun x i h hx h0 h1 => ?_
   dsimp only
   rw [spl_is, Option.bind_some]
   exact Dr.some (show (spl _).length ≤ 20 from spl_len _) h0 h1
  ·refine Dr.bind (below_dr b hb _ i h h0 h1) fun x i h hx h0 h1 => ?_
   dsimp only
   rw [spl_is, Option.bind_some]
   exact Dr.some (show (spl _).length ≤ 20 from spl_len _) h0 h1
 unfold ms_l5Token
 refine Dr.bind (below_dr b hb _ i h h0 h1) fun r i h hr h0 h1 => ?_
 exact Dr.cond (fun _ => Dr.bind (num_dr b hb i h h0 h1) fun x i h hx h0 h1 => Dr.some (show x.length ≤ 20 from hx) h0 h1) fun _ => Dr.cond (fun _ => Dr.bind (str_dr b hb i h h0 h1) fun x i h hx h0 h1 => Dr.some (show x.length ≤ 20 from hx) h0 h1) fun _ => Dr.cond (fun _ => Dr.bind (ere_dr b hb i h h0 h1) fun x i h hx h0 h1 => Dr.some (show x.length ≤ 20 from hx) h0 h1) fun _ => Dr.cond (fun _ => k1 r i h _ h0 h1) fun _ => k1 r i h _ h0 h1
def TKs (m : Nat) (l : List SToken) : Prop := l.length ≤ m ∧ ∀ t, t ∈ l → TK t
omit hb hN in
theorem endsS_ex (k : Int) : ∃ v, ms_EndsOperand k = some v := by
 have h1 : ∀ c, ∃ v, ms_EndsOperand_k1 c = some v := fun c => tot_bif ⟨_, rfl⟩ ⟨_, rfl⟩
 exact tot_bif (h1 _) (tot_bif (h1 _) (tot_bif (h1 _) (tot_bif (h1 _) (tot_bif (h1 _) (tot_bif (h1 _) (tot_bif (h1 _) (tot_bif (h1 _) (h1 _))))))))
omit hb hN in
theorem tks_app {m : Nat} {l : List SToken} (h : TKs m l) {t : SToken} (ht : TK t) : TKs (m + 1) (l ++ [t]) := ⟨by rw [List.length_append]; have := h.1; simp only [List.length_singleton]; omega, fun u hu => by
 rcases List.mem_append.1 hu with g | g
 ·exact h.2 u g
 ·rw [List.mem_singleton.1 g]; exact ht⟩
theorem tokens_l : ∀ (n c m : Nat) (i h : Int) (l : List SToken), c < n → TKs m l → m + 2 * c ≤ 40 → 0 ≤ i → i ≤ (b.length : Int) → Dr b (TKs 40) (ms_l5Tokens_l1 N b n ((c : Int), i, h, l)) := by
 intro n
 induction n with
 | zero => intro c m i h l hc; omega
 | succ n ih =>
  intro c m i h l hc hl hm h0 h1
  rw [ms_l5Tokens_l1]
  refine Dr.cond (fun hx => ?_) fun hx => ?_
  ·have hx := of_decide_eq_true hx
   obtain ⟨c, rfl⟩ : ∃ k, c = k + 1 := ⟨c - 1, by omega⟩
   have k3 : ∀ (i h : Int) (l : List SToken) (k : Int) (x : List UInt8) (a : Int), TKs (m + 1) l → x.length ≤ 20 → 0 ≤ i → i ≤ (b.length : Int) → Dr b (TKs 40) (ms_l5Tokens_k3 N b (ms_l5Tokens_l1 N b n) (((c + 1 : Nat) : Int), i, h, l, k, x, a)) := fun i h l k x a hl hx h0 h1 => by
    unfold ms_l5Tokens_k3
    dsimp only
    have := hl.1
    rw [app_some (by simp only [List.length_singleton]; omega), Option.bind_some, wrap64 (by omega) (by omega), show ((c + 1 : Nat) : Int) - 1 = (c : Int) by omega]
    exact ih c (m + 2) i h _ (by omega) (tks_app hl hx) (by omega) h0 h1
   have up : ∀ {l : List SToken}, TKs m l → TKs (m + 1) l := fun h => ⟨by have := h.1; omega, h.2⟩
   have k2 : ∀ last : Int, Dr b (TKs 40) (ms_l5Tokens_k2 N b (ms_l5Tokens_l1 N b n) (((c + 1 : Nat) : Int), i, h, l, last)) := fun last => by
    unfold ms_l5Tokens_k2
    dsimp only
    refine Dr.bind (token_dr b hb N hN i h h0 h1) fun t i h ht h0 h1 => ?_
    dsimp only
    obtain ⟨en, hen⟩ := endsS_ex last
    simp only [hen, Option.bind_some]
    obtain ⟨v, hv⟩ : ∃ v, (bif (t.Kind == 5) then bif en then some true else (bif (t.Kind == 58) then some (!en) else (bif (t.Kind == 41) then some (!en) else (some false))) else (bif (t.Kind == 58) then some (!en) else (bif (t.Kind == 41) then some (!en) else (some false)))) = some v := tot_bif (tot_bif ⟨_, rfl⟩ (tot_bif ⟨_, rfl⟩ (tot_bif ⟨_, rfl⟩ ⟨_, rfl⟩))) (tot_bif ⟨_, rfl⟩ (tot_bif ⟨_, rfl⟩ ⟨_, rfl⟩))
    rw [hv, Option.bind_some]
    refine Dr.cond (fun _ => k3 i h l _ _ _ (up hl) (by simp) h0 h1) fun _ => ?_
    refine Dr.bind (P := fun _ => True) (Dr.cond (fun _ => Dr.id3 (once_dr b hb _ i h h0 h1)) fun _ => Dr.some trivial h0 h1) fun y i h _ h0 h1 => ?_
    dsimp only
    have hl1 := hl.1
    refine Dr.cond (fun _ => ?_) fun _ => ?_
    ·rw [app_some (by simp only [List.length_singleton]; omega), Option.bind_some]
     exact k3 i h _ _ _ _ (tks_app hl ht) (by simp) h0 h1
    ·refine Dr.bind (once_dr b hb _ i h h0 h1) fun y i h _ h0 h1 => ?_
     dsimp only
     refine Dr.cond (fun _ => ?_) fun _ => k3 i h l _ _ _ (up hl) ht h0 h1
     refine Dr.bind (pick_le b hb 20 _ i h h0 h1 (by decide) (by decide)) fun x i h hx h0 h1 => ?_
     dsimp only
     rw [app_some (by simp only [List.length_singleton]; omega), Option.bind_some]
     exact k3 i h _ _ _ _ (tks_app hl (show TK ⟨2, x, 0⟩ from hx)) (by simp) h0 h1
   refine Dr.cond (fun hp => ?_) fun _ => k2 0
   have hp := of_decide_eq_true hp
   have hlen := hl.1
   rw [wrap64 (by omega) (by omega), show (l.length : Int) - 1 = ((l.length - 1 : Nat) : Int) by omega]
   have e : ix l ((l.length - 1 : Nat) : Int) = some (l[l.length - 1]'(by omega)) := ix_nat (by omega)
   rw [e, Option.bind_some]
   exact k2 _
  ·refine Dr.bind (P := fun y => y = true → 0 < l.length) (Dr.cond (fun hp => ?_) fun _ => Dr.some (fun h => by cases h) h0 h1) fun y i h hy h0 h1 => ?_
   ·have hp := of_decide_eq_true hp
    exact Dr.id3 ((once_dr b hb _ i h h0 h1).imp fun _ _ _ => by omega)
   ·dsimp only
    have l40 : TKs 40 l := ⟨by have := hl.1; omega, hl.2⟩
    refine Dr.cond (fun hyt => ?_) fun _ => Dr.some l40 h0 h1
    have hpos := hy hyt
    refine Dr.bind (below_dr b hb _ i h h0 h1) fun r i h hr h0 h1 => Dr.bind (token_dr b hb N hN i h h0 h1) fun t i h ht h0 h1 => ?_
    dsimp only
    obtain ⟨rn, rfl⟩ := Int.eq_ofNat_of_zero_le hr.1
    have hrn : rn < l.length := by rcases hr.2 with h | h <;> omega
    have e : ix l (rn : Int) = some l[rn] := ix_nat hrn
    have e2 : upd l (rn : Int) t = some (l.set rn t) := upd_nat hrn
    simp only [e, e2, Option.bind_some]
    refine Dr.some ⟨by rw [List.length_set]; exact l40.1, fun u hu => ?_⟩ h0 h1
    rcases List.mem_or_eq_of_mem_set hu with g | g
    ·exact l40.2 u g
    ·rw [g]; exact ht
theorem tokens_dr (i h : Int) (h0 : 0 ≤ i) (h1 : i ≤ (b.length : Int)) : Dr b (TKs 40) (ms_l5Tokens N 14 b i h) := by
 unfold ms_l5Tokens
 refine Dr.bind (below_dr b hb _ i h h0 h1) fun r i h hr h0 h1 => ?_
 obtain ⟨c, rfl⟩ := Int.eq_ofNat_of_zero_le hr.1
 have hw : IntKind.wrap .i64 (14 + 1) = 15 := rfl
 rw [hw] at hr
 have hc : c ≤ 14 := by rcases hr.2 with h | h <;> omega
 exact tokens_l b hb N hN N c 0 i h [] (by omega) ⟨by simp, fun t ht => by cases ht⟩ (by omega) h0 h1
omit hb in
theorem spell_l (l : List SToken) (hl : TKs 40 l) : ∀ (n j : Nat) (acc : List UInt8), l.length - j < n → j ≤ l.length → acc.length ≤ 30 * j → ∃ s, ms_Spell_l1 N n (l, acc, (j : Int)) = some s ∧ s.length ≤ 1200 := by
 intro n
 induction n with
 | zero => intro j acc h; omega
 | succ n ih =>
  intro j acc hn hj ha
  have hlen := hl.1
  rw [ms_Spell_l1]
  by_cases hlt : j < l.length
  ·have e : ix l (j : Int) = some l[j] := ix_nat hlt
   have htx : l[j].Text.length ≤ 20 := hl.2 _ (List.getElem_mem hlt)
   have k2 : ∀ acc' : List UInt8, acc'.length ≤ 30 * j + 1 → ∃ s, ms_Spell_k2 N (ms_Spell_l1 N n) (l, (j : Int), acc') = some s ∧ s.length ≤ 1200 := fun acc' h' => by
    unfold ms_Spell_k2
    simp only [e, Option.bind_some]
    rw [cat_some (by simp only [maxLen]; omega), Option.bind_some, wrap64 (by omega) (by omega), show (j : Int) + 1 = ((j + 1 : Nat) : Int) by omega]
    exact ih (j + 1) _ (by omega) (by omega) (by rw [List.length_append]; omega)
   simp only [lt_true hlt, cond_true]
   obtain ⟨g, hg⟩ : ∃ g, (bif (decide ((j : Int) > 0)) then (ix l (IntKind.wrap .i64 ((j : Int) - 1))).bind fun e204 => (ix l (j : Int)).bind fun e205 => (ms_NeedsGap N e204 e205).bind fun r206 => some r206 else (some false)) = some g := by
    cases hd : decide ((j : Int) > 0) with
    | false => exact ⟨_, rfl⟩
    | true =>
     have hd := of_decide_eq_true hd
     rw [wrap64 (by omega) (by omega), show (j : Int) - 1 = ((j - 1 : Nat) : Int) by omega]
     have hlt1 : j - 1 < l.length := by omega
     have e1 : ix l ((j - 1 : Nat) : Int) = some l[j - 1] := ix_nat hlt1
     have ht1 : l[j - 1].Text.length ≤ 20 := hl.2 _ (List.getElem_mem hlt1)
     rw [cond_true, e1, Option.bind_some, e, Option.bind_some, gapS_is _ _ (by omega) (by omega) N (by omega)]
     exact ⟨_, rfl⟩
   rw [hg, Option.bind_some]
   cases g with
   | true =>
    rw [cond_true, cat_some (by simp only [maxLen, List.length_singleton]; omega), Option.bind_some]
    exact k2 _ (by rw [List.length_append, List.length_singleton]; omega)
   | false => exact k2 _ (by omega)
  ·simp only [lt_false hlt, cond_false]
   exact ⟨acc, rfl, by omega⟩
theorem l5source_dr (i h : Int) (h0 : 0 ≤ i) (h1 : i ≤ (b.length : Int)) : Dr b (TL 2000) (ms_l5Source N b i h) := by
 unfold ms_l5Source
 refine Dr.bind (tokens_dr b hb N hN i h h0 h1) fun l i h hl h0 h1 => ?_
 dsimp only
 obtain ⟨s, s1, s2⟩ := spell_l N hN l hl N 0 [] (by have := hl.1; omega) (by omega) (by simp)
 have s1' : ms_Spell N l = some s := s1
 rw [s1', Option.bind_some]
 refine Dr.bind (below_dr b hb _ i h h0 h1) fun r i h hr h0 h1 => ?_
 dsimp only
 refine Dr.cond (fun _ => Dr.id3 ((spoil_dr b hb N hN s 1200 s2 (by omega) i h h0 h1).imp fun x (hx : x.length ≤ 1210) => by show x.length ≤ _; omega)) fun _ => Dr.cond (fun _ => ?_) fun _ => Dr.some (show s.length ≤ 2000 by omega) h0 h1
 refine Dr.bind (pick_le b hb 20 _ i h h0 h1 (by decide) (by decide)) fun x i h hx h0 h1 => ?_
 dsimp only
 refine Dr.cat (by omega) fun e => Dr.bind (pick_le b hb 20 _ i h h0 h1 (by decide) (by decide)) fun y i h hy h0 h1 => ?_
 dsimp only
 exact Dr.cat (by omega) fun e2 => Dr.some (show _ ≤ 2000 by omega) h0 h1
theorem any_dr (i h : Int) (h0 : 0 ≤ i) (h1 : i ≤ (b.length : Int)) : Dr b (TL 900000) (ms_l14Any N b i h) := by
 unfold ms_l14Any
 refine Dr.bind (below_dr b hb _ i h h0 h1) fun r i h hr h0 h1 => ?_
 dsimp only
 refine Dr.cond (fun _ => ?_) fun _ => Dr.cond (fun _ => ?_) fun _ => ?_
 ·refine Dr.bind (source_dr b hb N hN i h h0 h1) fun s i h hs h0 h1 => ?_
  dsimp only
  exact Dr.id3 ((spoil_dr b hb N hN s 880000 hs (by omega) i h h0 h1).imp fun x (hx : x.length ≤ 880010) => by show x.length ≤ _; omega)
 ·exact Dr.id3 ((l5source_dr b hb N hN i h h0 h1).imp fun x (hx : x.length ≤ 2000) => by show x.length ≤ _; omega)
 ·exact Dr.id3 ((source_dr b hb N hN i h h0 h1).imp fun x (hx : x.length ≤ 880000) => by show x.length ≤ _; omega)
omit hN in
theorem new_l : ∀ (n j : Nat) (h : Int), b.length - j < n → j ≤ b.length → ∃ r, ms_l1New_l1 N n (b, h, (j : Int)) = some (b, 0, r) := by
 intro n
 induction n with
 | zero => intro j h hn; omega
 | succ n ih =>
  intro j h hn hj
  rw [ms_l1New_l1]
  by_cases hlt : j < b.length
  ·have e : ix b (j : Int) = some b[j] := ix_nat hlt
   simp only [lt_true hlt, cond_true, Option.bind_some]
   cases decide ((j : Int) < 4000) with
   | true =>
    rw [cond_true, e, Option.bind_some, wrap64 (n := (j : Int) + 1) (by omega) (by omega), show (j : Int) + 1 = ((j + 1 : Nat) : Int) by omega]
    exact ih (j + 1) _ (by omega) (by omega)
   | false => exact ⟨_, rfl⟩
  ·simp only [lt_false hlt, cond_false, Option.bind_some]
   exact ⟨_, rfl⟩
theorem new_dr : ∃ h, ms_l1New N b = some (b, 0, h) := new_l b hb N N 0 _ (by omega) (by omega)
end

end Go.Proofs.Tryz

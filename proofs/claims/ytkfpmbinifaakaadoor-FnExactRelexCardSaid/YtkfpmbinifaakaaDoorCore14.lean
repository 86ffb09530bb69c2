/-
  Core14: indexes, cuts, strings; reading an element of a slice of one's own.
-/
import Derived.Test.YtkfpmbinifaakaaDoorCore13
namespace Go.Av

section
variable {P : Program} {G : Nat → Option (List V)}

theorem slice_ty {D : Tab} (hD : TabOk P D) {t el : TypeId} {it : Ty} (ht : D.at t = some it) (hit : it.d = .slice el) : P.underlying t = some (.slice el) := by
  obtain ⟨_, ⟨d, u1, u2⟩, _⟩ := hD _ _ ht
  rw [hit] at u2
  have hd : d = .slice el := by cases d <;> simp_all [TD.is]
  subst hd
  exact u1

theorem arr_ty {D : Tab} (hD : TabOk P D) {t el : TypeId} {n : Nat} {it : Ty} (ht : D.at t = some it) (hit : it.d = .arr n el) : P.underlying t = some (.array n el) := by
  obtain ⟨_, ⟨d, u1, u2⟩, _⟩ := hD _ _ ht
  rw [hit] at u2
  have hd : d = .array n el := by cases d <;> simp_all [TD.is]
  subst hd
  exact u1

theorem str_ty {D : Tab} (hD : TabOk P D) {t : TypeId} {it : Ty} (ht : D.at t = some it) (hit : it.d = .str) : P.underlying t = some .string := by
  obtain ⟨_, ⟨d, u1, u2⟩, _⟩ := hD _ _ ht
  rw [hit] at u2
  have hd : d = .string := by cases d <;> simp_all [TD.is]
  subst hd
  exact u1

theorem OpOk.indexSl {D : Tab} (hD : TabOk P D) {o : Oper} {e : Operand → V} {H : Hp} {t el : TypeId} {x ix : Operand} {it ie : Ty} {nn b : Bool} {rows : List (List V)} {k : IntKind} {n : Int} (m : Nat) {row : List V}
    (ho : o.op = .indexAddr t x ix) (ht : D.at t = some it) (hit : it.d = .slice el) (hel : D.at el = some ie) (hx : e x = .sl nn b rows) (hix : e ix = .c (.int k n)) (hn : n = m) (hrow : rows[m]? = some row) (hsz : row.length = ie.size) :
    OpOk P G o e H (.el row) H [] := by
  refine OpOk.pure fun ρ S F η w hη hH => ?_
  have h1 := hη x (by simp [ho, Op.operands])
  have h2 := hη ix (by simp [ho, Op.operands])
  rw [hx] at h1
  rw [hix] at h2
  have hlt : m < rows.length := (List.getElem?_eq_some_iff.1 hrow).1
  have hd := h1.sl_inv
  unfold execOp
  simp only [ho, h2.c_inv]
  generalize η x = u at *
  cases hd with
  | nils => simp at hlt
  | shr a cap _ _ k' cs hlen hcap hk hc hr =>
    have hkk : k' = ie.size := by rw [← hk m row hrow]; exact hsz
    subst hkk
    refine ⟨.pointer (some (a.add (m * ie.size))), ?_, .el (a.add (m * ie.size)) row (fun j => cs m j) (fun j y hy => ?_) (fun j y hy => hr m j row y hrow hy)⟩
    · have hn' : 0 ≤ n ∧ n < (rows.length : Int) := by omega
      simp only [Instr.indexAt, Sem.run_bind, asIntOf, Sem.run_pure, Result.andThen_ok, run_underlying (slice_ty hD ht hit), Sem.run_ite, if_pos hn', (hD _ _ hel).sizeOf w]
      subst hn
      rfl
    · obtain ⟨hs, hcell⟩ := hc m j row y hrow hy
      refine ⟨?_, by rw [Addr.add_add]; exact hcell⟩
      have : (a.add (m * ie.size)).block = a.block := by unfold Addr.add; split <;> rfl
      rw [this]; exact hs

theorem OpOk.indexOwn {D : Tab} (hD : TabOk P D) {o : Oper} {e : Operand → V} {H : Hp} {t el : TypeId} {x ix : Operand} {it ie : Ty} {i : Nat} {nn : Bool} {ety : TypeId} {rows : List (List V)} {k : IntKind} {n : Int} (m : Nat)
    (ho : o.op = .indexAddr t x ix) (ht : D.at t = some it) (hit : it.d = .slice el) (hel : D.at el = some ie) (hx : e x = .own i) (hi : look H i = some (.vec nn ety ie.size rows)) (hix : e ix = .c (.int k n)) (hn : n = m) (hm : m < rows.length) :
    OpOk P G o e H (.vp i ie.size m 0) H [] := by
  refine OpOk.pure fun ρ S F η w hη hH => ?_
  have h1 := hη x (by simp [ho, Op.operands])
  have h2 := hη ix (by simp [ho, Op.operands])
  rw [hx] at h1
  rw [hix] at h2
  obtain ⟨r, hr, hob⟩ := hH.obj i _ hi
  have hxr := h1.own_inv r hr
  unfold execOp
  simp only [ho, h2.c_inv, hxr]
  generalize F i = Fi at hob
  cases hob with
  | vnil => simp at hm
  | vec g cap arr _ _ _ _ cs Fs hh hcap =>
    refine ⟨.pointer (some ⟨g, m * ie.size, none⟩), ?_, .vp _ i ie.size m 0 fun r' hr' => ⟨g, rows.length, cap, ?_, rfl⟩⟩
    · have hn' : 0 ≤ n ∧ n < (rows.length : Int) := by omega
      simp only [Instr.indexAt, Sem.run_bind, asIntOf, Sem.run_pure, Result.andThen_ok, run_underlying (slice_ty hD ht hit), Sem.run_ite, if_pos hn', (hD _ _ hel).sizeOf w, Addr.add_lit, Nat.zero_add]
      subst hn
      rfl
    · rw [hr] at hr'; cases hr'; rfl

/-- an element of an array variable (a table of the program's) -/
theorem OpOk.indexArr {D : Tab} (hD : TabOk P D) {o : Oper} {e : Operand → V} {H : Hp} {t el : TypeId} {x ix : Operand} {it ie : Ty} {len : Nat} {k : IntKind} {n : Int} (m : Nat) {v : V}
    (ho : o.op = .indexAddr t x ix) (ht : D.at t = some it) (hit : it.d = .arr len el) (hel : D.at el = some ie) (hx : ptrAdd H (m * ie.size) (e x) = some v) (hix : e ix = .c (.int k n)) (hn : n = m) (hm : m < len) :
    OpOk P G o e H v H [] := by
  refine OpOk.pure fun ρ S F η w hη hH => ?_
  have h1 := hη x (by simp [ho, Op.operands])
  have h2 := hη ix (by simp [ho, Op.operands])
  rw [hix] at h2
  obtain ⟨a, ha, hv⟩ := ptrAdd_sound hx hH h1
  unfold execOp
  simp only [ho, h2.c_inv, ha]
  refine ⟨_, ?_, hv⟩
  have hn' : 0 ≤ n ∧ n < (len : Int) := by omega
  simp only [Instr.indexAt, Sem.run_bind, asIntOf, Sem.run_pure, Result.andThen_ok, run_underlying (arr_ty hD ht hit), Instr.sureAddr, Sem.run_ite, if_pos hn', (hD _ _ hel).sizeOf w]
  subst hn
  rfl

/-- a byte of a string -/
theorem OpOk.indexStr {D : Tab} (hD : TabOk P D) {o : Oper} {e : Operand → V} {H : Hp} {t : TypeId} {x ix : Operand} {it : Ty} {s : List UInt8} {k : IntKind} {n : Int} (m : Nat) {c : UInt8}
    (ho : o.op = .index t x ix) (ht : D.at t = some it) (hit : it.d = .str) (hx : e x = V.str s) (hix : e ix = .c (.int k n)) (hn : n = m) (hc : s[m]? = some c) : OpOk P G o e H (.c (.int .u8 c.toNat)) H [] := by
  refine OpOk.pure fun ρ S F η w hη hH => ?_
  have h1 := hη x (by simp [ho, Op.operands])
  have h2 := hη ix (by simp [ho, Op.operands])
  rw [hx] at h1
  rw [hix] at h2
  unfold execOp
  simp only [ho, h2.c_inv, h1.c_inv]
  refine ⟨_, ?_, .c _⟩
  subst hn
  have hlt : m < s.length := (List.getElem?_eq_some_iff.1 hc).1
  have hb : (⟨⟨s⟩⟩ : ByteArray)[((m : Nat) : Int).toNat]? = some c := by
    have h : (⟨⟨s⟩⟩ : ByteArray).size = s.length := rfl
    rw [Int.toNat_natCast, getElem?_pos (⟨⟨s⟩⟩ : ByteArray) m (by rw [h]; exact hlt)]
    have := (List.getElem?_eq_some_iff.1 hc).2
    rw [← this]; rfl
  simp only [Instr.index, Sem.run_bind, asIntOf, Sem.run_pure, Result.andThen_ok, run_underlying (str_ty hD ht hit), if_pos (Int.natCast_nonneg m), hb]

/-- an element of an array value, of one cell -/
theorem OpOk.indexAgg {D : Tab} (hD : TabOk P D) {o : Oper} {e : Operand → V} {H : Hp} {t el : TypeId} {x ix : Operand} {it ie : Ty} {len : Nat} {cs : List V} {k : IntKind} {n : Int} (m : Nat) {v : V}
    (ho : o.op = .index t x ix) (ht : D.at t = some it) (hit : it.d = .arr len el) (hel : D.at el = some ie) (hag : ie.d.agg = false) (hs1 : ie.size = 1) (hx : e x = .agg cs) (hix : e ix = .c (.int k n)) (hn : n = m) (hm : m < len) (hv : cs[m]? = some v) :
    OpOk P G o e H v H [] := by
  refine OpOk.pure fun ρ S F η w hη hH => ?_
  have h1 := hη x (by simp [ho, Op.operands])
  have h2 := hη ix (by simp [ho, Op.operands])
  rw [hx] at h1
  rw [hix] at h2
  obtain ⟨arr, ha, hsz, h1c, hr⟩ := h1.agg_inv
  obtain ⟨c, hc, hrv⟩ := hr m v hv
  unfold execOp
  simp only [ho, h2.c_inv, ha]
  refine ⟨c, ?_, hrv⟩
  subst hn
  have hn' : (0 : Int) ≤ (m : Int) ∧ (m : Int) < (len : Int) := by omega
  simp only [Instr.index, Sem.run_bind, asIntOf, Sem.run_pure, Result.andThen_ok, run_underlying (arr_ty hD ht hit), Sem.run_ite, if_pos hn', (hD _ _ hel).sizeOf w, hs1, Int.toNat_natCast, Nat.mul_one, run_part_one (hD _ _ hel) hag hc w]

/-! ### cuts -/
def cutOk (e : Operand → V) (len lo hi : Nat) (l h : Option Operand) : Prop :=
  lo ≤ hi ∧ hi ≤ len ∧ (match l with | some x => ∃ k, e x = .c (.int k (lo : Int)) | none => lo = 0) ∧ (match h with | some x => ∃ k, e x = .c (.int k (hi : Int)) | none => hi = len)

theorem run_sliceBounds {ρ : Nat → Option Value} {S : Nat → Prop} {w : World} {isSlice : Bool} {η : Operand → Value} {e : Operand → V} {len cap lo hi : Nat} {l h : Option Operand} (hl : ∀ x, l = some x → RV ρ S w (η x) (e x)) (hh : ∀ x, h = some x → RV ρ S w (η x) (e x))
    (hc : cutOk e len lo hi l h) (hcap : len ≤ cap) : (Instr.sliceBounds isSlice len cap (l.map η) (h.map η) none).run P w = .ok (lo, hi, cap) w := by
  obtain ⟨h1, h2, h3, h4⟩ := hc
  have b1 : ∀ (k : IntKind) (y : Nat) (c : BoundsCode) (n : Nat), n ≤ y → (Instr.sliceBound (.int k (n : Int)) y c).run P w = .ok n w := fun k y c n hn => by
    have : (0 : Int) ≤ (n : Int) ∧ (n : Int) ≤ (y : Int) := by omega
    simp only [Instr.sliceBound, Sem.run_bind, asIntOf, Sem.run_pure, Result.andThen_ok, if_pos this, Int.toNat_natCast]
  unfold Instr.sliceBounds
  cases l with
  | none =>
    simp only at h3
    subst h3
    cases h with
    | none =>
      simp only at h4
      subst h4
      simp
    | some y =>
      obtain ⟨k, hk⟩ := h4
      have hy := hh y rfl
      rw [hk] at hy
      simp [hy.c_inv, b1 k cap _ hi (by omega)]
  | some x =>
    obtain ⟨kx, hkx⟩ := h3
    have hx := hl x rfl
    rw [hkx] at hx
    cases h with
    | none =>
      simp only at h4
      subst h4
      simp [hx.c_inv, b1 kx hi _ lo h1]
    | some y =>
      obtain ⟨k, hk⟩ := h4
      have hy := hh y rfl
      rw [hk] at hy
      simp [hy.c_inv, hx.c_inv, b1 k cap _ hi (by omega), b1 kx hi _ lo h1]

theorem extract_list (s : List UInt8) (lo hi : Nat) (_h : lo ≤ hi) (_h2 : hi ≤ s.length) : (⟨⟨s⟩⟩ : ByteArray).extract lo hi = ⟨⟨(s.drop lo).take (hi - lo)⟩⟩ := by
  have h0 : (⟨⟨s⟩⟩ : ByteArray).size = s.length := rfl
  apply ByteArray.ext
  apply Array.ext'
  simp [ByteArray.data_extract]

theorem OpOk.cutStr {D : Tab} (hD : TabOk P D) {o : Oper} {e : Operand → V} {H : Hp} {t : TypeId} {x : Operand} {l h : Option Operand} {it : Ty} {s : List UInt8} (lo hi : Nat)
    (ho : o.op = .slice t x l h none) (ht : D.at t = some it) (hit : it.d = .str) (hx : e x = V.str s) (hc : cutOk e s.length lo hi l h) : OpOk P G o e H (V.str ((s.drop lo).take (hi - lo))) H [] := by
  refine OpOk.pure fun ρ S F η w hη hH => ?_
  have h1 := hη x (by simp [ho, Op.operands])
  rw [hx] at h1
  have hb := run_sliceBounds (P := P) (ρ := ρ) (S := S) (w := w) (isSlice := false) (η := η) (e := e) (l := l) (h := h) (fun y hy => hη y (by simp [ho, Op.operands, hy])) (fun y hy => hη y (by simp [ho, Op.operands, hy])) hc (Nat.le_refl _)
  refine ⟨_, ?_, .c _⟩
  unfold execOp
  simp only [ho, h1.c_inv, Instr.sliceAt, Sem.run_bind, run_underlying (str_ty hD ht hit), Result.andThen_ok, Instr.slice, Option.map_none]
  have h0 : (⟨⟨s⟩⟩ : ByteArray).size = s.length := rfl
  simp [hb, h0, extract_list s lo hi hc.1 hc.2.1]

theorem OpOk.cutSl {D : Tab} (hD : TabOk P D) {o : Oper} {e : Operand → V} {H : Hp} {t el : TypeId} {x : Operand} {l h : Option Operand} {it ie : Ty} {nn b : Bool} {rows : List (List V)} (lo hi : Nat)
    (ho : o.op = .slice t x l h none) (ht : D.at t = some it) (hit : it.d = .slice el) (hel : D.at el = some ie) (hx : e x = .sl nn b rows) (hrk : ∀ r, r ∈ rows → r.length = ie.size) (hc : cutOk e rows.length lo hi l h) :
    OpOk P G o e H (.sl nn b ((rows.drop lo).take (hi - lo))) H [] := by
  refine OpOk.pure fun ρ S F η w hη hH => ?_
  have h1 := hη x (by simp [ho, Op.operands])
  rw [hx] at h1
  have hd := h1.sl_inv
  unfold execOp
  simp only [ho, Instr.sliceAt, Sem.run_bind, run_underlying (slice_ty hD ht hit), Result.andThen_ok, Option.map_none]
  have h3 := hc.1
  have h4 := hc.2.1
  generalize hu : η x = u at *
  cases hd with
  | nils =>
    have hlo : lo = 0 := by simp at h4; omega
    have hhi : hi = 0 := by simp at h4; omega
    subst hlo hhi
    have hb := run_sliceBounds (P := P) (ρ := ρ) (S := S) (w := w) (isSlice := true) (η := η) (e := e) (l := l) (h := h) (cap := 0) (fun y hy => hη y (by simp [ho, Op.operands, hy])) (fun y hy => hη y (by simp [ho, Op.operands, hy])) hc (by simp)
    refine ⟨.slice none 0 0, ?_, .sl _ _ _ _ (.nils b)⟩
    simp only [List.length_nil] at hb
    simp [Instr.slice, run_underlying (slice_ty hD ht hit), hb, (hD _ _ hel).sizeOf w]
  | shr a cap _ _ k cs hlen hcap hk hcc hr =>
    have hb := run_sliceBounds (P := P) (ρ := ρ) (S := S) (w := w) (isSlice := true) (η := η) (e := e) (l := l) (h := h) (cap := cap) (fun y hy => hη y (by simp [ho, Op.operands, hy])) (fun y hy => hη y (by simp [ho, Op.operands, hy])) hc hcap
    refine ⟨.slice (some (if cap = lo then a else a.add (lo * ie.size))) (hi - lo) (cap - lo), ?_, ?_⟩
    · simp only [Instr.slice, Sem.run_bind, run_underlying (slice_ty hD ht hit), Result.andThen_ok, hb, (hD _ _ hel).sizeOf w, Sem.run_pure]
      split <;> rfl
    · have hl2 : ((rows.drop lo).take (hi - lo)).length = hi - lo := by simp; omega
      have hget : ∀ (i : Nat) (r : List V), ((rows.drop lo).take (hi - lo))[i]? = some r → rows[lo + i]? = some r := fun i r hi' => by
        rw [List.getElem?_take] at hi'
        split at hi'
        · rw [List.getElem?_drop] at hi'; exact hi'
        · cases hi'
      refine .sl _ _ _ _ ?_
      have key := RD.shr (S := S) (w := w) (if cap = lo then a else a.add (lo * ie.size)) (cap - lo) nn ((rows.drop lo).take (hi - lo)) k (fun i j => cs (lo + i) j) (by omega) (by omega) (fun i r h => hk _ r (hget i r h)) (fun i j r y h1 h2 => ?_) (fun i j r y h1 h2 => hr _ j r y (hget i r h1) h2)
      · rw [hl2] at key; exact key
      · have hlt : lo < rows.length := by
          have := (List.getElem?_eq_some_iff.1 (hget i r h1)).1; omega
        rw [if_neg (by omega)]
        obtain ⟨hs, hcell⟩ := hcc (lo + i) j r y (hget i r h1) h2
        have hkk : k = ie.size := by rw [← hk _ r (hget i r h1)]; exact hrk r (List.mem_of_getElem? (hget i r h1))
        refine ⟨?_, ?_⟩
        · have : (a.add (lo * ie.size)).block = a.block := by unfold Addr.add; split <;> rfl
          rw [this]; exact hs
        · rw [Addr.add_add, ← hkk, show lo * k + (i * k + j) = (lo + i) * k + j by rw [Nat.add_mul, Nat.add_assoc]]
          exact hcell

/-- a table of the program's as a slice: 'table[:]', elements of one cell -/
theorem OpOk.cutArr {D : Tab} (hD : TabOk P D) {o : Oper} {e : Operand → V} {H : Hp} {t el : TypeId} {x : Operand} {it ie : Ty} {n : Nat} {cells : List V}
    (ho : o.op = .slice t x none none none) (ht : D.at t = some it) (hit : it.d = .arr n el) (hel : D.at el = some ie) (hs1 : ie.size = 1) (hx : e x = .el cells) (hn : cells.length = n) (hmax : n ≤ maxLen) :
    OpOk P G o e H (.sl true false (cells.map fun c => [c])) H [] := by
  refine OpOk.pure fun ρ S F η w hη hH => ?_
  have h1 := hη x (by simp [ho, Op.operands])
  rw [hx] at h1
  obtain ⟨a, cs, ha, hc, hr⟩ := h1.el_inv
  unfold execOp
  simp only [ho, ha]
  refine ⟨.slice (some a) n n, ?_, .sl _ _ _ _ ?_⟩
  · have hb := run_sliceBounds (P := P) (ρ := ρ) (S := S) (w := w) (isSlice := false) (η := η) (e := e) (l := none) (h := none) (len := n) (cap := n) (lo := 0) (hi := n) (fun y hy => by cases hy) (fun y hy => by cases hy) ⟨Nat.zero_le _, Nat.le_refl _, rfl, rfl⟩ (Nat.le_refl _)
    simp only [Option.map_none] at hb
    simp [Instr.sliceAt, run_underlying (arr_ty hD ht hit), Instr.sureAddr, hb, (hD _ _ hel).sizeOf w, hs1, Addr.add]
  · have hl : (cells.map fun c => [c]).length = n := by simpa using hn
    rw [show Value.slice (some a) n n = Value.slice (some a) (cells.map fun c => [c]).length n by rw [hl]]
    refine .shr a n true _ 1 (fun i _ => cs i) (by rw [hl]; exact hmax) (by rw [hl]; exact Nat.le_refl _) (fun i r hi => ?_) (fun i j r y hi hj => ?_) (fun i j r y hi hj => ?_)
    all_goals
      rw [List.getElem?_map, Option.map_eq_some_iff] at hi
      obtain ⟨c, hci, rfl⟩ := hi
    · rfl
    · cases j with
      | zero =>
        simp at hj; subst hj
        simpa using hc i c hci
      | succ j => simp at hj
    · cases j with
      | zero => simp at hj; subst hj; exact hr i c hci
      | succ j => simp at hj

/-! ### strings -/
theorem OpOk.concat {o : Oper} {e : Operand → V} {H : Hp} {t t' : TypeId} {x y : Operand} {a b : List UInt8} (ho : o.op = .binOp .add t x y t') (hx : e x = V.str a) (hy : e y = V.str b) (hl : a.length + b.length ≤ maxLen) :
    OpOk P G o e H (V.str (a ++ b)) H [] := by
  refine OpOk.pure fun ρ S F η w hη hH => ?_
  have h1 := hη x (by simp [ho, Op.operands])
  have h2 := hη y (by simp [ho, Op.operands])
  rw [hx] at h1
  rw [hy] at h2
  refine ⟨_, ?_, .c _⟩
  unfold execOp
  simp only [ho, h1.c_inv, h2.c_inv]
  have hs : (⟨⟨a⟩⟩ : ByteArray).size = a.length := rfl
  have hs2 : (⟨⟨b⟩⟩ : ByteArray).size = b.length := rfl
  have happ : (⟨⟨a⟩⟩ : ByteArray) ++ ⟨⟨b⟩⟩ = ⟨⟨a ++ b⟩⟩ := by
    apply ByteArray.ext
    apply Array.ext'
    simp
  have hle : ¬ ((((a.length + b.length : Nat) : Int)) > IntKind.i64.max) := by
    simp only [IntKind.max_i64]
    simp only [maxLen] at hl
    omega
  simp only [Sem.run_bind, eqGuard_at_string, Sem.run_pure, Result.andThen_ok, binOp, Op.stringOp, hs, hs2, if_neg hle, happ]

end
end Go.Av

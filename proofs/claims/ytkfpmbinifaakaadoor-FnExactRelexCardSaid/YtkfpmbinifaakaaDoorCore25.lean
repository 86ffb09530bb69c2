/-
  Core25: the walk's rules: make, append, bytes to a string, calls.
-/
import Derived.Test.YtkfpmbinifaakaaDoorCore24
namespace Go.Av

section
variable {P : Program} {G : Nat → Option (List V)}

def mkW (D : Tab) (G : Nat → Option (List V)) (ops : Array Oper) (i : Nat) (T : List V) : Option (TypeId × Nat × Nat × List Value × Int × Int) :=
  match opW ops i T with
  | some (.makeSlice t l c) => match D.at t, ev G T l, ev G T c with
    | some it, .c (.int _ n), .c (.int _ n') => match it.d with
      | .slice el => match D.at el with
        | some ie => if ie.size ≠ 0 then some (el, ie.size, ie.bytes, ie.zero, n, n') else none
        | none => none
      | _ => none
    | _, _, _ => none
  | _ => none

theorem W.mk {D : Tab} (hD : TabOk P D) {ops : Array Oper} {draw : Bool} {T0 : List V} {H0 : Hp} {i : Nat} {T : List V} {H : Hp} {Es : List (Bool × Eff)} {Q : St → Prop} {α : Type} (enc : α → List V) {n : Int} {z : α} {r : List α} (b : Nat) (hx : mk b z n = some r) (q : Nat) (el sz : Nat) (zs : List Value)
    (h : mkW D G ops i T = some (el, sz, b, zs, n, n)) (hz : enc z = zs.map .c)
    (k : W P G ops draw T0 H0 (i + 1) (setO T (dstW ops i) (.own q)) ((q, .vec false el sz (r.map enc)) :: H) (Es ++ [(true, { v := .own q, new := [(q, .vec false el sz (r.map enc))], N := [q] })]) Q) : W P G ops draw T0 H0 i T H Es Q := by
  unfold Av.mk at hx
  split at hx
  · rename_i hb
    cases hx
    unfold mkW at h
    split at h
    · rename_i t l c hop
      split at h
      · rename_i it kl n' kc nc ht hl hc
        split at h
        · rename_i el' hit
          split at h
          · rename_i ie hel
            split at h
            · rename_i hs
              simp only [Option.some.injEq, Prod.mk.injEq] at h
              obtain ⟨rfl, rfl, rfl, rfl, rfl, rfl⟩ := h
              refine W.gen { v := .own q, new := [(q, .vec false el' ie.size _)], N := [q] } hop (fun o ho e' H' he _ hN => ?_) (by simpa [hrem_nil] using k)
              simp only [List.all_cons, List.all_nil, Bool.and_true, Bool.not_eq_true'] at hN
              have hlv := (he l (by simp [ho, Op.operands])).trans hl
              have hcv := (he c (by simp [ho, Op.operands])).trans hc
              have := OpOk.makeSlice (G := G) hD q nc.toNat ho ht hit hel hs hlv hcv (by omega) (by omega) hb.2.1 hb.2.2 hN
              rw [← hz] at this
              exact this
            · cases h
          · cases h
        · cases h
      · cases h
    · cases h
  · cases hx

/-- 'append(s, xs...)', both one's own -/
def appO (D : Tab) (G : Nat → Option (List V)) (ops : Array Oper) (i : Nat) (T : List V) (H : Hp) : Option (Nat × Nat × TypeId × Nat × Nat × List (List V) × List (List V)) :=
  match opW ops i T with
  | some (.call c) => match c.callee, c.args, c.argTypes with
    | .builtin .append, ⟨[s, x]⟩, ⟨[t, t']⟩ => match D.at t, ev G T s, ev G T x with
      | some it, .own a, .own b => match it.d, look H a, look H b with
        | .slice el, some (.vec _ el1 k1 rows), some (.vec _ el2 k2 rows2) => match D.at el with
          | some ie => if t = t' ∧ a ≠ b ∧ el1 = el ∧ el2 = el ∧ k1 = ie.size ∧ k2 = ie.size then some (a, b, el, ie.size, ie.bytes, rows, rows2) else none
          | none => none
        | _, _, _ => none
      | _, _, _ => none
    | _, _, _ => none
  | _ => none

theorem app_len {α : Type} {b : Nat} {l l2 r : List α} (hb : 1 ≤ b) (h : app b l l2 = some r) : r = l ++ l2 ∧ (l.length + l2.length) * b ≤ 140737488355328 ∧ l.length + l2.length ≤ maxLen := by
  unfold app at h
  split at h
  · rename_i hc
    refine ⟨(Option.some.inj h).symm, hc, ?_⟩
    have : (l.length + l2.length) * 1 ≤ (l.length + l2.length) * b := Nat.mul_le_mul_left _ hb
    simp only [maxLen]; omega
  · cases h

theorem W.appO {D : Tab} (hD : TabOk P D) {ops : Array Oper} {draw : Bool} {T0 : List V} {H0 : Hp} {i : Nat} {T : List V} {H : Hp} {Es : List (Bool × Eff)} {Q : St → Prop} {α : Type} (enc : α → List V) {l l2 r : List α} (b : Nat) (hx : app b l l2 = some r) (hb : Nat.ble 1 b = true) (q : Nat) {a c el sz : Nat}
    (h : appO D G ops i T H = some (a, c, el, sz, b, l.map enc, l2.map enc))
    (k : W P G ops draw T0 H0 (i + 1) (setO T (dstW ops i) (.own q)) ((q, .vec false el sz (r.map enc)) :: hrem [a, c] H) (Es ++ [(true, { v := .own q, C := [a, c], new := [(q, .vec false el sz (r.map enc))], N := [q] })]) Q) : W P G ops draw T0 H0 i T H Es Q := by
  obtain ⟨rfl, h1, h2⟩ := app_len (Nat.le_of_ble_eq_true hb) hx
  unfold Av.appO at h
  split at h
  · rename_i cl hop
    obtain ⟨callee, args, ats⟩ := cl
    simp only at h
    split at h
    · rename_i s x t t' 
      split at h
      · rename_i it a' c' ht hs hxv
        split at h
        · rename_i el' nn1 el1 k1 rows nn2 el2 k2 rows2 hit hl1 hl2
          split at h
          · rename_i ie hel
            split at h
            · rename_i hc
              obtain ⟨rfl, hne, rfl, rfl, rfl, rfl⟩ := hc
              simp only [Option.some.injEq, Prod.mk.injEq] at h
              obtain ⟨rfl, rfl, rfl, rfl, rfl, rfl, rfl⟩ := h
              refine W.gen { v := .own q, C := [a', c'], new := [(q, .vec false _ ie.size ((l ++ l2).map enc))], N := [q] } hop (fun o ho e' H' he hH' hN => ?_) k
              simp only [List.all_cons, List.all_nil, Bool.and_true, Bool.not_eq_true'] at hN
              have := OpOk.appendOwn (G := G) hD q false ho ht hit hel ((he s (by simp [ho, Op.operands, Call.operands])).trans hs) ((he x (by simp [ho, Op.operands, Call.operands])).trans hxv) hne
                (by rw [hH' a' (.inr (by simp [Eff.touch]))]; exact hl1) (by rw [hH' c' (.inr (by simp [Eff.touch]))]; exact hl2) (by simpa using h2) (by simpa using h1) hN (by simp)
              rw [List.map_append]
              exact this
            · cases h
          · cases h
        · cases h
      · cases h
    · cases h
  · cases h

/-- 'append(s, xs...)', xs data -/
def appD (D : Tab) (G : Nat → Option (List V)) (ops : Array Oper) (i : Nat) (T : List V) (H : Hp) : Option (Nat × TypeId × Nat × Nat × List (List V) × List (List V)) :=
  match opW ops i T with
  | some (.call c) => match c.callee, c.args, c.argTypes with
    | .builtin .append, ⟨[s, x]⟩, ⟨[t, t']⟩ => match D.at t, D.at t', ev G T s, ev G T x with
      | some it, some it', .own a, .sl _ _ rows2 => match it.d, it'.d, look H a with
        | .slice el, .slice _, some (.vec _ el1 k1 rows) => match D.at el with
          | some ie => if el1 = el ∧ k1 = ie.size then some (a, el, ie.size, ie.bytes, rows, rows2) else none
          | none => none
        | _, _, _ => none
      | _, _, _, _ => none
    | _, _, _ => none
  | _ => none

theorem W.appD {D : Tab} (hD : TabOk P D) {ops : Array Oper} {draw : Bool} {T0 : List V} {H0 : Hp} {i : Nat} {T : List V} {H : Hp} {Es : List (Bool × Eff)} {Q : St → Prop} {α : Type} (enc : α → List V) {l l2 r : List α} (b : Nat) (hx : app b l l2 = some r) (hb : Nat.ble 1 b = true) (q : Nat) {a el : Nat} (sz : Nat) (henc : ∀ x, (enc x).length = sz)
    (h : appD D G ops i T H = some (a, el, sz, b, l.map enc, l2.map enc))
    (k : W P G ops draw T0 H0 (i + 1) (setO T (dstW ops i) (.own q)) ((q, .vec false el sz (r.map enc)) :: hrem [a] H) (Es ++ [(true, { v := .own q, C := [a], new := [(q, .vec false el sz (r.map enc))], N := [q] })]) Q) : W P G ops draw T0 H0 i T H Es Q := by
  obtain ⟨rfl, h1, h2⟩ := app_len (Nat.le_of_ble_eq_true hb) hx
  unfold Av.appD at h
  split at h
  · rename_i cl hop
    obtain ⟨callee, args, ats⟩ := cl
    simp only at h
    split at h
    · rename_i s x t t' 
      split at h
      · rename_i it it' a' nn2 b2 rows2 ht ht' hs hxv
        split at h
        · rename_i el' elx nn1 el1 k1 rows hit hit' hl1
          split at h
          · rename_i ie hel
            split at h
            · rename_i hc
              obtain ⟨rfl, rfl⟩ := hc
              simp only [Option.some.injEq, Prod.mk.injEq] at h
              obtain ⟨rfl, rfl, rfl, rfl, rfl, rfl⟩ := h
              refine W.gen { v := .own q, C := [a'], new := [(q, .vec false _ ie.size ((l ++ l2).map enc))], N := [q] } hop (fun o ho e' H' he hH' hN => ?_) k
              simp only [List.all_cons, List.all_nil, Bool.and_true, Bool.not_eq_true'] at hN
              have := OpOk.appendData (G := G) hD q false ho ht hit ht' hit' hel ((he s (by simp [ho, Op.operands, Call.operands])).trans hs) ((he x (by simp [ho, Op.operands, Call.operands])).trans hxv)
                (by rw [hH' a' (.inr (by simp [Eff.touch]))]; exact hl1) (fun r hr => by obtain ⟨y, _, rfl⟩ := List.mem_map.1 hr; exact henc y) (by simpa using h2) (by simpa using h1) hN (by simp)
              rw [List.map_append]
              exact this
            · cases h
          · cases h
        · cases h
      · cases h
    · cases h
  · cases h

/-- 'append(bytes, text...)' -/
def appS (D : Tab) (G : Nat → Option (List V)) (ops : Array Oper) (i : Nat) (T : List V) (H : Hp) : Option (Nat × TypeId × Nat × List (List V) × V) :=
  match opW ops i T with
  | some (.call c) => match c.callee, c.args, c.argTypes with
    | .builtin .append, ⟨[s, x]⟩, ⟨[t, t']⟩ => match D.at t, D.at t', ev G T s with
      | some it, some it', .own a => match it.d, it'.d, look H a with
        | .slice el, .str, some (.vec _ el1 k1 rows) => match D.at el with
          | some ie => if el1 = el ∧ k1 = 1 ∧ ie.size = 1 then some (a, el, ie.bytes, rows, ev G T x) else none
          | none => none
        | _, _, _ => none
      | _, _, _ => none
    | _, _, _ => none
  | _ => none

theorem W.appS {D : Tab} (hD : TabOk P D) {ops : Array Oper} {draw : Bool} {T0 : List V} {H0 : Hp} {i : Nat} {T : List V} {H : Hp} {Es : List (Bool × Eff)} {Q : St → Prop} {l l2 r : List UInt8} (b : Nat) (hx : app b l l2 = some r) (hb : Nat.ble 1 b = true) (q : Nat) {a el : Nat}
    (h : appS D G ops i T H = some (a, el, b, l.map byteRow, V.str l2))
    (k : W P G ops draw T0 H0 (i + 1) (setO T (dstW ops i) (.own q)) ((q, .vec false el 1 (r.map byteRow)) :: hrem [a] H) (Es ++ [(true, { v := .own q, C := [a], new := [(q, .vec false el 1 (r.map byteRow))], N := [q] })]) Q) : W P G ops draw T0 H0 i T H Es Q := by
  obtain ⟨rfl, h1, h2⟩ := app_len (Nat.le_of_ble_eq_true hb) hx
  unfold Av.appS at h
  split at h
  · rename_i cl hop
    obtain ⟨callee, args, ats⟩ := cl
    simp only at h
    split at h
    · rename_i s x t t' 
      split at h
      · rename_i it it' a' ht ht' hs
        split at h
        · rename_i el' nn1 el1 k1 rows hit hit' hl1
          split at h
          · rename_i ie hel
            split at h
            · rename_i hc
              obtain ⟨rfl, rfl, hsz⟩ := hc
              simp only [Option.some.injEq, Prod.mk.injEq] at h
              obtain ⟨rfl, rfl, rfl, rfl, hxv⟩ := h
              refine W.gen { v := .own q, C := [a'], new := [(q, .vec false _ 1 ((l ++ l2).map byteRow))], N := [q] } hop (fun o ho e' H' he hH' hN => ?_) k
              simp only [List.all_cons, List.all_nil, Bool.and_true, Bool.not_eq_true'] at hN
              have := OpOk.appendStr (G := G) hD q false ho ht hit ht' hit' hel hsz ((he s (by simp [ho, Op.operands, Call.operands])).trans hs) ((he x (by simp [ho, Op.operands, Call.operands])).trans hxv)
                (by rw [hH' a' (.inr (by simp [Eff.touch]))]; exact hl1) (by simpa using h2) (by simpa using h1) hN (by simp)
              rw [List.map_append]
              exact this
            · cases h
          · cases h
        · cases h
      · cases h
    · cases h
  · cases h

/-- 'string(bytes)' -/
def strO (D : Tab) (G : Nat → Option (List V)) (ops : Array Oper) (i : Nat) (T : List V) (H : Hp) : Option (Nat × List (List V)) :=
  match opW ops i T with
  | some (.convert t t' x) => match D.at t, D.at t', ev G T x with
    | some it, some it', .own a => match it.d, it'.d, look H a with
      | .slice el, .str, some (.vec _ _ k rows) => match D.at el with
        | some ie => match ie.d with
          | .int .u8 => if k = 1 then some (a, rows) else none
          | _ => none
        | none => none
      | _, _, _ => none
    | _, _, _ => none
  | _ => none

theorem W.strO {D : Tab} (hD : TabOk P D) {ops : Array Oper} {draw : Bool} {T0 : List V} {H0 : Hp} {i : Nat} {T : List V} {H : Hp} {Es : List (Bool × Eff)} {Q : St → Prop} (l : List UInt8) {a : Nat} (h : strO D G ops i T H = some (a, l.map byteRow))
    (k : W P G ops draw T0 H0 (i + 1) (setO T (dstW ops i) (V.str l)) H (Es ++ [(true, { v := V.str l, R := [a] })]) Q) : W P G ops draw T0 H0 i T H Es Q := by
  unfold Av.strO at h
  split at h
  · rename_i t t' x hop
    split at h
    · rename_i it it' a' ht ht' hx
      split at h
      · rename_i el nn ety k' rows hit hit' hl
        split at h
        · rename_i ie hel
          split at h
          · rename_i hie
            split at h
            · subst_vars
              simp only [Option.some.injEq, Prod.mk.injEq] at h
              obtain ⟨rfl, rfl⟩ := h
              refine W.gen0 (V.str l) [a'] hop (fun o ho e' H' he hH' => ?_) k
              exact OpOk.strOwn hD ho ht hit hel hie ht' hit' ((he x (by simp [Op.operands])).trans hx) (by rw [hH' a' (by simp)]; exact hl)
            · cases h
          · cases h
        · cases h
      · cases h
    · cases h
  · cases h

/-! ### calls -/
def callW (G : Nat → Option (List V)) (ops : Array Oper) (q : Ren) (Z : List (Nat × List (List V))) (i : Nat) (T : List V) (H : Hp) : Option (FuncId × List V × Hp) :=
  match opW ops i T with
  | some (.call { callee := .value f, args := as, argTypes := _ }) => match ev G T f, handV q H q with
    | .fn fid caps, some Hc => some (fid, V.rnL q ((as.toList.map (ev G T) ++ caps).map (layV (layD Z))), Hc)
    | _, _ => none
  | _ => none

theorem W.call {ops : Array Oper} {draw : Bool} {T0 : List V} {H0 : Hp} {i : Nat} {T : List V} {H : Hp} {Es : List (Bool × Eff)} {Q : St → Prop} {fid : FuncId} {vs : List V} {Hc Hc' : Hp} {rc : V} (h : AC P G fid vs Hc rc Hc') (hcf : callOk P fid) (q m : Ren) {Z : List (Nat × List (List V))} (N : List Nat) (hZ : LayOk H Z) (hn : (namesOk q m (Z.map (·.1)) N && nodupH Hc') = true)
    (hc : callW G ops q Z i T H = some (fid, vs, Hc))
    (k : W P G ops draw T0 H0 (i + 1) (setO T (dstW ops i) (rc.rn m)) (keepH m Hc' ++ hrem (Z.map (·.1) ++ q.map (·.1)) H) (Es ++ [(true, { v := rc.rn m, C := Z.map (·.1) ++ q.map (·.1), new := keepH m Hc', N := N })]) Q) : W P G ops draw T0 H0 i T H Es Q := by
  simp only [Bool.and_eq_true] at hn
  unfold callW at hc
  split at hc
  · rename_i f as ats hop
    split at hc
    · rename_i fid' caps Hc2 hf hh
      simp only [Option.some.injEq, Prod.mk.injEq] at hc
      obtain ⟨rfl, hvs, rfl⟩ := hc
      refine W.gen { v := rc.rn m, C := Z.map (·.1) ++ q.map (·.1), new := keepH m Hc', N := N } hop (fun o ho => ?_) k
      exact OpOkL.call ho hf hcf h q m Z N hn.1 hn.2 hZ hh hvs
    · cases hc
  · cases hc

/-- a call that leaves the objects alone -/
theorem W.call0 {ops : Array Oper} {draw : Bool} {T0 : List V} {H0 : Hp} {i : Nat} {T : List V} {H : Hp} {Es : List (Bool × Eff)} {Q : St → Prop} {fid : FuncId} {vs : List V} {rc : V} (h : AC P G fid vs [] rc []) (hcf : callOk P fid) (hr : rc.rn [] = rc)
    (hc : callW G ops [] [] i T H = some (fid, vs, []))
    (k : W P G ops draw T0 H0 (i + 1) (setO T (dstW ops i) rc) H (Es ++ [(true, { v := rc })]) Q) : W P G ops draw T0 H0 i T H Es Q := by
  refine W.call h hcf [] [] (Z := []) [] trivial rfl hc ?_
  rw [hr]
  simpa [hrem_nil, keepH] using k

end
end Go.Av

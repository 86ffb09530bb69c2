/-
  Core34: functions of the runtime's own (without a body); tables of the program's; small rules of printed walks.
-/
import Derived.Test.YtkfpmbinifaakaaDoorCore33
import Derived.Lib.Bytealg
import Derived.Laws.Externs
namespace Go.Av

section
variable {P : Program} {G : Nat → Option (List V)}

def extW (G : Nat → Option (List V)) (ops : Array Oper) (i : Nat) (T : List V) : Option (FuncId × List V) :=
  match opW ops i T with
  | some (.call { callee := .value f, args := as, argTypes := _ }) => match ev G T f with
    | .fn fid caps => some (fid, as.toList.map (ev G T) ++ caps)
    | _ => none
  | _ => none

/-- a call of a function without a body, of plain values -/
theorem W.ext {ops : Array Oper} {draw : Bool} {T0 : List V} {H0 : Hp} {i : Nat} {T : List V} {H : Hp} {Es : List (Bool × Eff)} {Q : St → Prop} {fid : FuncId} {vs : List Value} {v : Value}
    (h : ∀ w, (callFunc fid vs.toArray).run P w = .ok (.value v) w) (hc : extW G ops i T = some (fid, vs.map .c))
    (k : W P G ops draw T0 H0 (i + 1) (setO T (dstW ops i) (.c v)) H (Es ++ [(true, { v := .c v })]) Q) : W P G ops draw T0 H0 i T H Es Q := by
  unfold extW at hc
  split at hc
  · rename_i f as ats hop
    split at hc
    · rename_i fid' caps hf
      simp only [Option.some.injEq, Prod.mk.injEq] at hc
      obtain ⟨rfl, hvs⟩ := hc
      refine W.gen0 (.c v) [] hop (fun o ho e' H' he _ => ?_) k
      refine OpOk.pure fun ρ S F η w hη hH => ?_
      have hfop : f ∈ o.op.operands := by simp [ho, Op.operands, Call.operands]
      have hasop : ∀ x, x ∈ as.toList → x ∈ o.op.operands := fun x hx => by
        simp only [ho, Op.operands, Call.operands]
        exact Array.mem_append.2 (.inr (by simpa using hx))
      have hop' : ∀ x, x ∈ (Op.call { callee := Callee.value f, args := as, argTypes := ats }).operands → e' x = ev G T x := he
      have hfe : e' f = .fn fid' caps := (hop' f (by simp [Op.operands, Call.operands])).trans hf
      have hmap : as.toList.map e' = as.toList.map (ev G T) := List.map_congr_left fun x hx => hop' x (by simp only [Op.operands, Call.operands]; exact Array.mem_append.2 (.inr (by simpa using hx)))
      have hfv := hη f hfop
      rw [hfe] at hfv
      obtain ⟨arr, harr, hsz, hcap⟩ := hfv.fn_inv
      have hargs : as.map η ++ arr = vs.toArray := by
        apply Array.ext'
        simp only [Array.toList_append, Array.toList_map]
        have hlen : (as.toList.map η ++ arr.toList).length = vs.length := by
          have := congrArg List.length hvs
          simp only [List.length_map, List.length_append, Array.length_toList] at this ⊢
          omega
        refine List.ext_getElem hlen fun j h1 h2 => ?_
        have hj : (vs.map V.c)[j]? = some (.c vs[j]) := by rw [List.getElem?_map, List.getElem?_eq_getElem h2]; rfl
        rw [← hvs, ← hmap] at hj
        have hrv := args_get (fun y hy => hη y (hasop y hy)) hsz hcap hj
        have hcv := hrv.c_inv
        have hg : (as.map η ++ arr).getD j undef = (as.toList.map η ++ arr.toList)[j] := by
          rw [Array.getD_eq_getD_getElem?]
          have : (as.map η ++ arr)[j]? = (as.toList.map η ++ arr.toList)[j]? := by
            rw [← Array.getElem?_toList]; simp
          rw [this, List.getElem?_eq_getElem h1]; rfl
        rw [← hg]; exact hcv
      refine ⟨v, ?_, .c v⟩
      simp only [execOp, ho, resolve, harr, Deferred.ofValue, Sem.run_bind, Sem.run_pure, Result.andThen_ok, invoke, Array.empty_append]
      rw [hargs]
      exact h w
    · cases hc
  · cases hc

/-- a new object told otherwise -/
theorem OpOk.head {o : Oper} {e : Operand → V} {H H1 : Hp} {v : V} {q : Nat} {o1 o2 : Ob} {N : List Nat} (h : OpOk P G o e H v ((q, o1) :: H1) N)
    (ho : ∀ (ρ : Nat → Option Value) S w r F, ObR ρ S w r o1 F → ObR ρ S w r o2 F) : OpOk P G o e H v ((q, o2) :: H1) N := by
  intro ρ S F η w hη hH hG
  refine (h ρ S F η w hη hH hG).mono fun x w' hp => ?_
  obtain ⟨ρ', S', F', hv, hH', hE, hA⟩ := hp
  have hl : look ((q, o1) :: H1) q = some o1 := by simp [look]
  have hq : hput ((q, o1) :: H1) q o2 = (q, o2) :: H1 := by simp [hput]
  have := hH'.reob hl (o' := o2) fun r _ hob => ho _ _ _ _ _ hob
  rw [hq] at this
  exact ⟨ρ', S', F', hv, this, ⟨hE.os, hE.tape, hE.output, hE.size, hE.keep, hE.sub, hE.newS, fun b hb => hE.newU b (Ub.hput hl (hq ▸ hb : Ub (hput ((q, o1) :: H1) q o2) F' b))⟩, hA⟩

theorem RD.c_inv2 {S : Nat → Prop} {w : World} {v u : Value} {F : List Nat} (h : RD S w v (.c u) F) : v = u ∧ F = [] := by
  cases h
  exact ⟨rfl, rfl⟩

/-- nil in a cell of a slice of one's own -/
def nilR : V → V
  | .c (.slice none 0 0) => .sl false true []
  | x => x

theorem RD.nilR {S : Nat → Prop} {w : World} {v : Value} {x : V} {F : List Nat} (h : RD S w v x F) : RD S w v (Av.nilR x) F := by
  by_cases hx : x = .c (.slice none 0 0)
  · subst hx
    obtain ⟨h1, h2⟩ := h.c_inv2
    rw [h1, h2]
    exact .nils true
  · have : Av.nilR x = x := by
      unfold Av.nilR
      split
      · exact absurd rfl hx
      · rfl
    rw [this]; exact h

theorem ObR.nilR {ρ : Nat → Option Value} {S : Nat → Prop} {w : World} {r : Value} {nn : Bool} {e k : Nat} {rows : List (List V)} {F : List Nat} (h : ObR ρ S w r (.vec nn e k rows) F) : ObR ρ S w r (.vec nn e k (rows.map fun r => r.map Av.nilR)) F := by
  cases h with
  | vnil => exact .vnil _ _
  | vec g cap arr _ _ _ _ cs Fs hh hcap hmax hsz hk hc hr =>
    have e1 : rows.length = (rows.map fun r => r.map Av.nilR).length := by simp
    rw [e1]
    refine .vec g cap arr nn e k _ cs Fs hh (by simpa using hcap) hmax hsz (fun i r hi => ?_) (fun i j r x hi hj => ?_) fun i j r x hi hj => ?_
    · rw [List.getElem?_map, Option.map_eq_some_iff] at hi
      obtain ⟨r0, hr0, rfl⟩ := hi
      rw [List.length_map]; exact hk i r0 hr0
    all_goals
      rw [List.getElem?_map, Option.map_eq_some_iff] at hi
      obtain ⟨r0, hr0, rfl⟩ := hi
      rw [List.getElem?_map, Option.map_eq_some_iff] at hj
      obtain ⟨x0, hx0, rfl⟩ := hj
    · exact hc i j r0 x0 hr0 hx0
    · exact (hr i j r0 x0 hr0 hx0).nilR

theorem W.mkN {D : Tab} (hD : TabOk P D) {ops : Array Oper} {draw : Bool} {T0 : List V} {H0 : Hp} {i : Nat} {T : List V} {H : Hp} {Es : List (Bool × Eff)} {Q : St → Prop} {α : Type} (enc : α → List V) {n : Int} {z : α} {r : List α} (b : Nat) (hx : Av.mk b z n = some r) (q : Nat) (el sz : Nat) (zs : List Value)
    (h : mkW D G ops i T = some (el, sz, b, zs, n, n)) (hz : enc z = (zs.map .c).map nilR)
    (k : W P G ops draw T0 H0 (i + 1) (setO T (dstW ops i) (.own q)) ((q, .vec false el sz (r.map enc)) :: H) (Es ++ [(true, { v := .own q, new := [(q, .vec false el sz (r.map enc))], N := [q] })]) Q) : W P G ops draw T0 H0 i T H Es Q := by
  unfold Av.mk at hx
  split at hx
  · rename_i hb
    cases hx
    unfold mkW at h
    split at h
    · rename_i t l c hop
      split at h
      · rename_i it kl n' kc nc ht hl hc
        split at h
        · rename_i el' hit
          split at h
          · rename_i ie hel
            split at h
            · rename_i hs
              simp only [Option.some.injEq, Prod.mk.injEq] at h
              obtain ⟨rfl, rfl, rfl, rfl, rfl, rfl⟩ := h
              refine W.gen { v := .own q, new := [(q, .vec false el' ie.size _)], N := [q] } hop (fun o ho e' H' he _ hN => ?_) (by simpa [hrem_nil] using k)
              simp only [List.all_cons, List.all_nil, Bool.and_true, Bool.not_eq_true'] at hN
              have hlv := (he l (by simp [ho, Op.operands])).trans hl
              have hcv := (he c (by simp [ho, Op.operands])).trans hc
              have := (OpOk.makeSlice (G := G) hD q nc.toNat ho ht hit hel hs hlv hcv (by omega) (by omega) hb.2.1 hb.2.2 hN).head fun ρ S w r F h => h.nilR
              rw [List.map_replicate, ← hz] at this
              exact this
            · cases h
          · cases h
        · cases h
      · cases h
    · cases h
  · cases hx

theorem shareR_map {α : Type} {enc enc' : α → List V} (h : ∀ a, V.shareL (enc a) = enc' a) (l : List α) : V.shareR (l.map enc) = l.map enc' := by
  rw [V.shareR_eq, List.map_map]
  exact List.map_congr_left fun a _ => h a

theorem share_encL {α : Type} (x : Bool) {enc enc' : α → List V} (h : ∀ a, V.shareL (enc a) = enc' a) (l : List α) : V.shareL (encL x enc l) = encL false enc' l := by
  simp only [encL, V.shareL, V.share, shareR_map h]

/-- the byte that a number is cut to -/
def bytI (n : Int) : UInt8 := UInt8.ofNat (IntKind.wrap .u8 n).toNat

theorem bytI_row (n : Int) : [V.c (.int .u8 (IntKind.wrap .u8 n))] = byteRow (bytI n) := by
  have h : ((bytI n).toNat : Int) = IntKind.wrap .u8 n := by
    unfold bytI
    have h1 : 0 ≤ IntKind.wrap .u8 n ∧ IntKind.wrap .u8 n < 256 := by
      simp only [IntKind.wrap, IntKind.bits, IntKind.signed, Bool.false_and, Bool.false_eq_true, if_false]
      omega
    rw [UInt8.toNat_ofNat']
    omega
  unfold byteRow
  rw [h]

end
end Go.Av

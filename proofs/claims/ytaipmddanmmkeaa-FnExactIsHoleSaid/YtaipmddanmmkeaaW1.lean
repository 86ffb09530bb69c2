/-
  Models of the program's functions, and the walks that show that the code computes them.
-/
import Derived.Test.YtaipmddanmmkeaaTab
import Derived.Test.YtaipmddanmmkeaaCore28
namespace Go.Proofs.Try
open Go.Av
set_option maxRecDepth 100000

abbrev GG : Nat → Option (List V) := fun _ => none
theorem mix : Try.prog.follows .mixedOrders = true := by kernel_rfl

structure SToken where
  Kind : Int
  Text : List UInt8
  At : Int
  deriving DecidableEq, Inhabited

def encSToken (x : SToken) : List V := [V.int x.Kind, V.str x.Text, V.int x.At]

structure SNode where
  Kind : Int
  Op : Int
  Text : List UInt8
  Other : List UInt8
  Kids : List (Int)
  deriving DecidableEq, Inhabited

def encSNode (b : Bool) (x : SNode) : List V := [V.int x.Kind, V.int x.Op, V.str x.Text, V.str x.Other, .sl false b (x.Kids.map encI)]

/-! ### spec.l1In -/
def m_spec_l1In (a0 : Int) (a1 : Int) (a2 : Int) : Option Bool :=
  Option.bind (bif (decide (a0 ≥ a1)) then some (decide (a0 ≤ a2)) else (some false)) fun y1 => some y1

theorem m_spec_l1In_ok (a0 : Int) (a1 : Int) (a2 : Int) {r : Bool} (h : m_spec_l1In a0 a1 a2 = some r) :
    AC Try.prog GG 27 [V.int a0, V.int a1, V.int a2] [] (V.bool r) [] := by
  rw [m_spec_l1In] at h
  refine AC.enter Try.func27 rfl ?_
  refine CodeOk.cutR (tl 15 [(0, V.int a0), (1, V.int a1), (2, V.int a2)]) [] mix (by
      refine W.run D_ok 1 100 (by kernel_rfl) ?_
      exact W.fin (by decide) (by kernel_rfl) (Weak.sel [] [0, 1, 2] (by kernel_rfl) (by kernel_rfl) (by kernel_rfl))
      ) ?_
  obtain ⟨y1, hv2, h⟩ := bind_some h
  refine CodeOk.cutR (tl 15 [(6, V.bool y1)]) [] mix (by
      refine W.run D_ok 4 100 (by kernel_rfl) ?_
      rcases cond_some hv2 with ⟨hc3, hv2⟩ | ⟨hc3, hv2⟩
      · refine W.is 10 hc3 (by kernel_rfl) ?_
        refine W.run D_ok 5 100 (by kernel_rfl) ?_
        have hv2 := Option.some.inj hv2
        subst hv2
        exact W.fin (by decide) (by kernel_rfl) (Weak.sel [] [6] (by kernel_rfl) (by kernel_rfl) (by kernel_rfl))
      · refine W.is 10 hc3 (by kernel_rfl) ?_
        refine W.run D_ok 5 100 (by kernel_rfl) ?_
        have hv2 := Option.some.inj hv2
        subst hv2
        exact W.fin (by decide) (by kernel_rfl) (Weak.sel [] [6] (by kernel_rfl) (by kernel_rfl) (by kernel_rfl))
      ) ?_
  refine CodeOk.ret ?_
  have h := Option.some.inj h
  subst h
  exact Ends.one' (r := V.bool y1) [] (.inr rfl) rfl (by kernel_rfl) (by kernel_rfl) (by kernel_rfl) (by kernel_rfl)

theorem cok27 : callOk Try.prog 27 := fun _ _ => Try.call27 _ _

/-! ### impl.within -/
def m_impl_within (a0 : Int) (a1 : Int) (a2 : Int) : Option Bool :=
  Option.bind (bif (decide (a0 ≥ a1)) then some (decide (a0 ≤ a2)) else (some false)) fun y1 => some y1

theorem m_impl_within_ok (a0 : Int) (a1 : Int) (a2 : Int) {r : Bool} (h : m_impl_within a0 a1 a2 = some r) :
    AC Try.prog GG 28 [V.int a0, V.int a1, V.int a2] [] (V.bool r) [] := by
  rw [m_impl_within] at h
  refine AC.enter Try.func28 rfl ?_
  refine CodeOk.cutR (tl 15 [(0, V.int a0), (1, V.int a1), (2, V.int a2)]) [] mix (by
      refine W.run D_ok 1 100 (by kernel_rfl) ?_
      exact W.fin (by decide) (by kernel_rfl) (Weak.sel [] [0, 1, 2] (by kernel_rfl) (by kernel_rfl) (by kernel_rfl))
      ) ?_
  obtain ⟨y1, hv2, h⟩ := bind_some h
  refine CodeOk.cutR (tl 15 [(6, V.bool y1)]) [] mix (by
      refine W.run D_ok 4 100 (by kernel_rfl) ?_
      rcases cond_some hv2 with ⟨hc3, hv2⟩ | ⟨hc3, hv2⟩
      · refine W.is 10 hc3 (by kernel_rfl) ?_
        refine W.run D_ok 5 100 (by kernel_rfl) ?_
        have hv2 := Option.some.inj hv2
        subst hv2
        exact W.fin (by decide) (by kernel_rfl) (Weak.sel [] [6] (by kernel_rfl) (by kernel_rfl) (by kernel_rfl))
      · refine W.is 10 hc3 (by kernel_rfl) ?_
        refine W.run D_ok 5 100 (by kernel_rfl) ?_
        have hv2 := Option.some.inj hv2
        subst hv2
        exact W.fin (by decide) (by kernel_rfl) (Weak.sel [] [6] (by kernel_rfl) (by kernel_rfl) (by kernel_rfl))
      ) ?_
  refine CodeOk.ret ?_
  have h := Option.some.inj h
  subst h
  exact Ends.one' (r := V.bool y1) [] (.inr rfl) rfl (by kernel_rfl) (by kernel_rfl) (by kernel_rfl) (by kernel_rfl)

theorem cok28 : callOk Try.prog 28 := fun _ _ => Try.call28 _ _

/-! ### impl.isKeywordKind -/
def m_impl_isKeywordKind (a0 : Int) : Option Bool :=
  Option.bind (m_impl_within a0 10 26) fun r2 => some r2

theorem m_impl_isKeywordKind_ok (a0 : Int) {r : Bool} (h : m_impl_isKeywordKind a0 = some r) :
    AC Try.prog GG 29 [V.int a0] [] (V.bool r) [] := by
  rw [m_impl_isKeywordKind] at h
  refine AC.enter Try.func29 rfl ?_
  refine CodeOk.cutR (tl 5 [(0, V.int a0)]) [] mix (by
      refine W.run D_ok 1 100 (by kernel_rfl) ?_
      exact W.fin (by decide) (by kernel_rfl) (Weak.sel [] [0] (by kernel_rfl) (by kernel_rfl) (by kernel_rfl))
      ) ?_
  obtain ⟨r2, hx2, h⟩ := bind_some h
  refine CodeOk.cutR (tl 5 [(2, V.bool r2)]) [] mix (by
      refine W.run D_ok 1 100 (by kernel_rfl) ?_
      refine W.call0 (m_impl_within_ok a0 10 26 hx2) cok28 rfl (by kernel_rfl) ?_
      refine W.run D_ok 1 100 (by kernel_rfl) ?_
      exact W.fin (by decide) (by kernel_rfl) (Weak.sel [] [2] (by kernel_rfl) (by kernel_rfl) (by kernel_rfl))
      ) ?_
  refine CodeOk.ret ?_
  have h := Option.some.inj h
  subst h
  exact Ends.one' (r := V.bool r2) [] (.inr rfl) rfl (by kernel_rfl) (by kernel_rfl) (by kernel_rfl) (by kernel_rfl)

theorem cok29 : callOk Try.prog 29 := fun _ _ => Try.call29 _ _

/-! ### impl.isSignKind -/
def m_impl_isSignKind (a0 : Int) : Option Bool :=
  Option.bind (m_impl_within a0 30 68) fun r2 => some r2

theorem m_impl_isSignKind_ok (a0 : Int) {r : Bool} (h : m_impl_isSignKind a0 = some r) :
    AC Try.prog GG 30 [V.int a0] [] (V.bool r) [] := by
  rw [m_impl_isSignKind] at h
  refine AC.enter Try.func30 rfl ?_
  refine CodeOk.cutR (tl 5 [(0, V.int a0)]) [] mix (by
      refine W.run D_ok 1 100 (by kernel_rfl) ?_
      exact W.fin (by decide) (by kernel_rfl) (Weak.sel [] [0] (by kernel_rfl) (by kernel_rfl) (by kernel_rfl))
      ) ?_
  obtain ⟨r2, hx2, h⟩ := bind_some h
  refine CodeOk.cutR (tl 5 [(2, V.bool r2)]) [] mix (by
      refine W.run D_ok 1 100 (by kernel_rfl) ?_
      refine W.call0 (m_impl_within_ok a0 30 68 hx2) cok28 rfl (by kernel_rfl) ?_
      refine W.run D_ok 1 100 (by kernel_rfl) ?_
      exact W.fin (by decide) (by kernel_rfl) (Weak.sel [] [2] (by kernel_rfl) (by kernel_rfl) (by kernel_rfl))
      ) ?_
  refine CodeOk.ret ?_
  have h := Option.some.inj h
  subst h
  exact Ends.one' (r := V.bool r2) [] (.inr rfl) rfl (by kernel_rfl) (by kernel_rfl) (by kernel_rfl) (by kernel_rfl)

theorem cok30 : callOk Try.prog 30 := fun _ _ => Try.call30 _ _

/-! ### spec.RanWord -/
def m_spec_RanWord (a0 : Int) : Option (List UInt8) :=
  Option.bind (m_spec_l1In a0 0 3) fun r4 => bif (!r4) then some [] else (Option.bind (ix [[101, 110, 100], [101, 120, 105, 116], [102, 117, 101, 108], [110, 111, 110, 101]] a0) fun e6 => some e6)

theorem m_spec_RanWord_ok (a0 : Int) {r : (List UInt8)} (h : m_spec_RanWord a0 = some r) :
    AC Try.prog GG 9 [V.int a0] [] (V.str r) [] := by
  rw [m_spec_RanWord] at h
  refine AC.enter Try.func9 rfl ?_
  refine CodeOk.cutR (tl 10 [(0, V.int a0)]) [] mix (by
      refine W.run D_ok 1 100 (by kernel_rfl) ?_
      exact W.fin (by decide) (by kernel_rfl) (Weak.sel [] [0] (by kernel_rfl) (by kernel_rfl) (by kernel_rfl))
      ) ?_
  refine CodeOk.seq' ?_
  obtain ⟨r4, hx5, h⟩ := bind_some h
  refine CodeOk.cutR (tl 10 [(0, V.int a0), (5, V.bool (!r4))]) [] mix (by
      refine W.run D_ok 1 100 (by kernel_rfl) ?_
      refine W.call0 (m_spec_l1In_ok a0 0 3 hx5) cok27 rfl (by kernel_rfl) ?_
      refine W.run D_ok 1 100 (by kernel_rfl) ?_
      exact W.fin (by decide) (by kernel_rfl) (Weak.sel [] [0, 5] (by kernel_rfl) (by kernel_rfl) (by kernel_rfl))
      ) ?_
  rcases cond_some h with ⟨hc6, h⟩ | ⟨hc6, h⟩
  · refine CodeOk.ifT hc6 (by kernel_rfl) ?_
    refine CodeOk.cutR (tl 10 [(2, V.str [])]) [] mix (by
        refine W.run D_ok 1 100 (by kernel_rfl) ?_
        exact W.fin (by decide) (by kernel_rfl) (Weak.sel [] [2] (by kernel_rfl) (by kernel_rfl) (by kernel_rfl))
        ) ?_
    refine CodeOk.ret ?_
    have h := Option.some.inj h
    subst h
    exact Ends.one' (r := V.str []) [] (.inr rfl) rfl (by kernel_rfl) (by kernel_rfl) (by kernel_rfl) (by kernel_rfl)
  · refine CodeOk.ifF hc6 (by kernel_rfl) ?_
    refine CodeOk.skip ?_
    refine CodeOk.weak (st' := ⟨tl 10 [(0, V.int a0), (5, V.bool (!r4))], []⟩) (Weak.refl _) ?_
    obtain ⟨e6, hx8, h⟩ := bind_some h
    refine CodeOk.cutR (tl 10 [(2, V.str e6)]) [] mix (by
        refine W.run D_ok 2 100 (by kernel_rfl) ?_
        refine W.ixO D_ok encS hx8 100 1 (by kernel_rfl) ?_
        refine W.ldO D_ok encS hx8 9 100 0 (V.str e6) (by kernel_rfl) (by kernel_rfl) ?_
        refine W.run D_ok 1 101 (by kernel_rfl) ?_
        exact W.fin (by decide) (by kernel_rfl) (Weak.sel [] [2] (by kernel_rfl) (by kernel_rfl) (by kernel_rfl))
        ) ?_
    refine CodeOk.ret ?_
    have h := Option.some.inj h
    subst h
    exact Ends.one' (r := V.str e6) [] (.inr rfl) rfl (by kernel_rfl) (by kernel_rfl) (by kernel_rfl) (by kernel_rfl)

theorem cok9 : callOk Try.prog 9 := fun _ _ => Try.call9 _ _

/-! ### impl.RanWord -/
def m_impl_RanWord (a0 : Int) : Option (List UInt8) :=
  Option.bind (m_impl_within a0 0 3) fun r4 => bif (!r4) then some [] else (Option.bind (ix [[101, 110, 100], [101, 120, 105, 116], [102, 117, 101, 108], [110, 111, 110, 101]] a0) fun e6 => some e6)

theorem m_impl_RanWord_ok (a0 : Int) {r : (List UInt8)} (h : m_impl_RanWord a0 = some r) :
    AC Try.prog GG 10 [V.int a0] [] (V.str r) [] := by
  rw [m_impl_RanWord] at h
  refine AC.enter Try.func10 rfl ?_
  refine CodeOk.cutR (tl 9 [(0, V.int a0)]) [] mix (by
      refine W.run D_ok 1 100 (by kernel_rfl) ?_
      exact W.fin (by decide) (by kernel_rfl) (Weak.sel [] [0] (by kernel_rfl) (by kernel_rfl) (by kernel_rfl))
      ) ?_
  refine CodeOk.seq' ?_
  obtain ⟨r4, hx5, h⟩ := bind_some h
  refine CodeOk.cutR (tl 9 [(0, V.int a0), (5, V.bool (!r4))]) [] mix (by
      refine W.run D_ok 1 100 (by kernel_rfl) ?_
      refine W.call0 (m_impl_within_ok a0 0 3 hx5) cok28 rfl (by kernel_rfl) ?_
      refine W.run D_ok 1 100 (by kernel_rfl) ?_
      exact W.fin (by decide) (by kernel_rfl) (Weak.sel [] [0, 5] (by kernel_rfl) (by kernel_rfl) (by kernel_rfl))
      ) ?_
  rcases cond_some h with ⟨hc6, h⟩ | ⟨hc6, h⟩
  · refine CodeOk.ifT hc6 (by kernel_rfl) ?_
    refine CodeOk.cutR (tl 9 [(2, V.str [])]) [] mix (by
        refine W.run D_ok 1 100 (by kernel_rfl) ?_
        exact W.fin (by decide) (by kernel_rfl) (Weak.sel [] [2] (by kernel_rfl) (by kernel_rfl) (by kernel_rfl))
        ) ?_
    refine CodeOk.ret ?_
    have h := Option.some.inj h
    subst h
    exact Ends.one' (r := V.str []) [] (.inr rfl) rfl (by kernel_rfl) (by kernel_rfl) (by kernel_rfl) (by kernel_rfl)
  · refine CodeOk.ifF hc6 (by kernel_rfl) ?_
    refine CodeOk.skip ?_
    refine CodeOk.weak (st' := ⟨tl 9 [(0, V.int a0), (5, V.bool (!r4))], []⟩) (Weak.refl _) ?_
    obtain ⟨e6, hx8, h⟩ := bind_some h
    refine CodeOk.cutR (tl 9 [(2, V.str e6)]) [] mix (by
        refine W.run D_ok 2 100 (by kernel_rfl) ?_
        refine W.ixA D_ok V.str hx8 (by kernel_rfl) ?_
        refine W.run D_ok 1 100 (by kernel_rfl) ?_
        exact W.fin (by decide) (by kernel_rfl) (Weak.sel [] [2] (by kernel_rfl) (by kernel_rfl) (by kernel_rfl))
        ) ?_
    refine CodeOk.ret ?_
    have h := Option.some.inj h
    subst h
    exact Ends.one' (r := V.str e6) [] (.inr rfl) rfl (by kernel_rfl) (by kernel_rfl) (by kernel_rfl) (by kernel_rfl)

theorem cok10 : callOk Try.prog 10 := fun _ _ => Try.call10 _ _

/-! ### laws.FnExactRanWord -/
def m_laws_FnExactRanWord (a0 : Int) : Option Bool :=
  Option.bind (m_spec_RanWord a0) fun r2 => Option.bind (m_impl_RanWord a0) fun r4 => bif (!(r4 == r2)) then some false else (some true)

theorem m_laws_FnExactRanWord_ok (a0 : Int) {r : Bool} (h : m_laws_FnExactRanWord a0 = some r) :
    AC Try.prog GG 3 [V.int a0] [] (V.bool r) [] := by
  rw [m_laws_FnExactRanWord] at h
  refine AC.enter Try.func3 rfl ?_
  refine CodeOk.cutR (tl 12 [(0, V.int a0)]) [] mix (by
      refine W.run D_ok 1 100 (by kernel_rfl) ?_
      exact W.fin (by decide) (by kernel_rfl) (Weak.sel [] [0] (by kernel_rfl) (by kernel_rfl) (by kernel_rfl))
      ) ?_
  obtain ⟨r2, hx2, h⟩ := bind_some h
  refine CodeOk.cutR (tl 12 [(0, V.int a0), (3, V.str r2)]) [] mix (by
      refine W.run D_ok 1 100 (by kernel_rfl) ?_
      refine W.call0 (m_spec_RanWord_ok a0 hx2) cok9 rfl (by kernel_rfl) ?_
      refine W.run D_ok 1 100 (by kernel_rfl) ?_
      exact W.fin (by decide) (by kernel_rfl) (Weak.sel [] [0, 3] (by kernel_rfl) (by kernel_rfl) (by kernel_rfl))
      ) ?_
  obtain ⟨r4, hx4, h⟩ := bind_some h
  refine CodeOk.cutR (tl 12 [(3, V.str r2), (4, V.str r4)]) [] mix (by
      refine W.run D_ok 1 100 (by kernel_rfl) ?_
      refine W.call0 (m_impl_RanWord_ok a0 hx4) cok10 rfl (by kernel_rfl) ?_
      refine W.run D_ok 1 100 (by kernel_rfl) ?_
      exact W.fin (by decide) (by kernel_rfl) (Weak.sel [] [3, 4] (by kernel_rfl) (by kernel_rfl) (by kernel_rfl))
      ) ?_
  refine CodeOk.seq' ?_
  refine CodeOk.cutR (tl 12 [(11, V.bool (!(r4 == r2)))]) [] mix (by
      refine W.run D_ok 3 100 (by kernel_rfl) ?_
      exact W.fin (by decide) (by kernel_rfl) (Weak.sel [] [11] (by kernel_rfl) (by kernel_rfl) (by kernel_rfl))
      ) ?_
  rcases cond_some h with ⟨hc6, h⟩ | ⟨hc6, h⟩
  · refine CodeOk.ifT hc6 (by kernel_rfl) ?_
    refine CodeOk.cutR (tl 12 [(2, V.bool false)]) [] mix (by
        refine W.run D_ok 1 100 (by kernel_rfl) ?_
        exact W.fin (by decide) (by kernel_rfl) (Weak.sel [] [2] (by kernel_rfl) (by kernel_rfl) (by kernel_rfl))
        ) ?_
    refine CodeOk.ret ?_
    have h := Option.some.inj h
    subst h
    exact Ends.one' (r := V.bool false) [] (.inr rfl) rfl (by kernel_rfl) (by kernel_rfl) (by kernel_rfl) (by kernel_rfl)
  · refine CodeOk.ifF hc6 (by kernel_rfl) ?_
    refine CodeOk.skip ?_
    refine CodeOk.weak (st' := ⟨tl 12 [(11, V.bool (!(r4 == r2)))], []⟩) (Weak.refl _) ?_
    refine CodeOk.cutR (tl 12 [(2, V.bool true)]) [] mix (by
        refine W.run D_ok 1 100 (by kernel_rfl) ?_
        exact W.fin (by decide) (by kernel_rfl) (Weak.sel [] [2] (by kernel_rfl) (by kernel_rfl) (by kernel_rfl))
        ) ?_
    refine CodeOk.ret ?_
    have h := Option.some.inj h
    subst h
    exact Ends.one' (r := V.bool true) [] (.inr rfl) rfl (by kernel_rfl) (by kernel_rfl) (by kernel_rfl) (by kernel_rfl)

theorem cok3 : callOk Try.prog 3 := fun _ _ => Try.call3 _ _

/-! ### spec.Splice -/
def m_spec_Splice (a0 : List UInt8) (a1 : Int) (a2 : Int) (a3 : List UInt8) : Option ((List UInt8) × Bool) :=
  Option.bind (Option.bind (m_spec_l1In a1 0 (a0.length : Int)) fun r9 => bif (!r9) then some true else (Option.bind (m_spec_l1In a2 0 (IntKind.wrap .i64 ((a0.length : Int) - a1))) fun r10 => some (!r10))) fun y8 => bif y8 then some (a0, false) else (Option.bind (cut a0 0 a1) fun s15 => Option.bind (cat s15 a3) fun s16 => Option.bind (cut a0 (IntKind.wrap .i64 (a1 + a2)) (a0.length : Int)) fun s17 => Option.bind (cat s16 s17) fun s18 => some (s18, true))

theorem m_spec_Splice_ok (a0 : List UInt8) (a1 : Int) (a2 : Int) (a3 : List UInt8) {r : ((List UInt8) × Bool)} (h : m_spec_Splice a0 a1 a2 a3 = some r) :
    AC Try.prog GG 11 [V.str a0, V.int a1, V.int a2, V.str a3] [] (.tup [V.str r.1, V.bool r.2]) [] := by
  rw [m_spec_Splice] at h
  refine AC.enter Try.func11 rfl ?_
  refine CodeOk.cutR (tl 36 [(0, V.str a0), (1, V.int a1), (2, V.int a2), (3, V.str a3)]) [] mix (by
      refine W.run D_ok 2 100 (by kernel_rfl) ?_
      exact W.fin (by decide) (by kernel_rfl) (Weak.sel [] [0, 1, 2, 3] (by kernel_rfl) (by kernel_rfl) (by kernel_rfl))
      ) ?_
  refine CodeOk.seq' ?_
  obtain ⟨y8, hv12, h⟩ := bind_some h
  refine CodeOk.cutR (tl 36 [(0, V.str a0), (1, V.int a1), (2, V.int a2), (3, V.str a3), (23, V.bool y8)]) [] mix (by
      refine W.run D_ok 3 100 (by kernel_rfl) ?_
      obtain ⟨r9, hx13, hv12⟩ := bind_some hv12
      refine W.call0 (m_spec_l1In_ok a1 0 (a0.length : Int) hx13) cok27 rfl (by kernel_rfl) ?_
      refine W.run D_ok 2 100 (by kernel_rfl) ?_
      rcases cond_some hv12 with ⟨hc14, hv12⟩ | ⟨hc14, hv12⟩
      · refine W.is 15 hc14 (by kernel_rfl) ?_
        refine W.run D_ok 8 100 (by kernel_rfl) ?_
        have hv12 := Option.some.inj hv12
        subst hv12
        exact W.fin (by decide) (by kernel_rfl) (Weak.sel [] [0, 1, 2, 3, 23] (by kernel_rfl) (by kernel_rfl) (by kernel_rfl))
      · refine W.is 15 hc14 (by kernel_rfl) ?_
        refine W.run D_ok 5 100 (by kernel_rfl) ?_
        obtain ⟨r10, hx15, hv12⟩ := bind_some hv12
        refine W.call0 (m_spec_l1In_ok a2 0 (IntKind.wrap .i64 ((a0.length : Int) - a1)) hx15) cok27 rfl (by kernel_rfl) ?_
        refine W.run D_ok 2 100 (by kernel_rfl) ?_
        have hv12 := Option.some.inj hv12
        subst hv12
        exact W.fin (by decide) (by kernel_rfl) (Weak.sel [] [0, 1, 2, 3, 23] (by kernel_rfl) (by kernel_rfl) (by kernel_rfl))
      ) ?_
  rcases cond_some h with ⟨hc16, h⟩ | ⟨hc16, h⟩
  · refine CodeOk.ifT hc16 (by kernel_rfl) ?_
    refine CodeOk.cutR (tl 36 [(8, V.str a0), (9, V.bool false)]) [] mix (by
        refine W.run D_ok 3 100 (by kernel_rfl) ?_
        exact W.fin (by decide) (by kernel_rfl) (Weak.sel [] [8, 9] (by kernel_rfl) (by kernel_rfl) (by kernel_rfl))
        ) ?_
    refine CodeOk.ret ?_
    have h := Option.some.inj h
    subst h
    exact Ends.two' (r := V.str a0) (s := V.bool false) [] (.inr rfl) rfl (by kernel_rfl) (by kernel_rfl) (by kernel_rfl) (by kernel_rfl) (by kernel_rfl)
  · refine CodeOk.ifF hc16 (by kernel_rfl) ?_
    refine CodeOk.skip ?_
    refine CodeOk.weak (st' := ⟨tl 36 [(0, V.str a0), (1, V.int a1), (2, V.int a2), (3, V.str a3), (23, V.bool y8)], []⟩) (Weak.refl _) ?_
    obtain ⟨s15, hx21, h⟩ := bind_some h
    obtain ⟨s16, hx22, h⟩ := bind_some h
    obtain ⟨s17, hx23, h⟩ := bind_some h
    obtain ⟨s18, hx24, h⟩ := bind_some h
    refine CodeOk.cutR (tl 36 [(8, V.str s18), (9, V.bool true)]) [] mix (by
        refine W.run D_ok 2 100 (by kernel_rfl) ?_
        refine W.cutS D_ok hx21 (by kernel_rfl) ?_
        refine W.run D_ok 1 100 (by kernel_rfl) ?_
        refine W.cat hx22 (by kernel_rfl) ?_
        refine W.run D_ok 4 100 (by kernel_rfl) ?_
        refine W.cutS D_ok hx23 (by kernel_rfl) ?_
        refine W.cat hx24 (by kernel_rfl) ?_
        refine W.run D_ok 2 100 (by kernel_rfl) ?_
        exact W.fin (by decide) (by kernel_rfl) (Weak.sel [] [8, 9] (by kernel_rfl) (by kernel_rfl) (by kernel_rfl))
        ) ?_
    refine CodeOk.ret ?_
    have h := Option.some.inj h
    subst h
    exact Ends.two' (r := V.str s18) (s := V.bool true) [] (.inr rfl) rfl (by kernel_rfl) (by kernel_rfl) (by kernel_rfl) (by kernel_rfl) (by kernel_rfl)

theorem cok11 : callOk Try.prog 11 := fun _ _ => Try.call11 _ _

/-! ### impl.Splice -/
def m_impl_Splice (a0 : List UInt8) (a1 : Int) (a2 : Int) (a3 : List UInt8) : Option ((List UInt8) × Bool) :=
  Option.bind (Option.bind (m_impl_within a1 0 (a0.length : Int)) fun r9 => bif (!r9) then some true else (Option.bind (m_impl_within a2 0 (IntKind.wrap .i64 ((a0.length : Int) - a1))) fun r10 => some (!r10))) fun y8 => bif y8 then some (a0, false) else (Option.bind (cut a0 0 a1) fun s15 => Option.bind (cat s15 a3) fun s16 => Option.bind (cut a0 (IntKind.wrap .i64 (a1 + a2)) (a0.length : Int)) fun s17 => Option.bind (cat s16 s17) fun s18 => some (s18, true))

theorem m_impl_Splice_ok (a0 : List UInt8) (a1 : Int) (a2 : Int) (a3 : List UInt8) {r : ((List UInt8) × Bool)} (h : m_impl_Splice a0 a1 a2 a3 = some r) :
    AC Try.prog GG 12 [V.str a0, V.int a1, V.int a2, V.str a3] [] (.tup [V.str r.1, V.bool r.2]) [] := by
  rw [m_impl_Splice] at h
  refine AC.enter Try.func12 rfl ?_
  refine CodeOk.cutR (tl 36 [(0, V.str a0), (1, V.int a1), (2, V.int a2), (3, V.str a3)]) [] mix (by
      refine W.run D_ok 2 100 (by kernel_rfl) ?_
      exact W.fin (by decide) (by kernel_rfl) (Weak.sel [] [0, 1, 2, 3] (by kernel_rfl) (by kernel_rfl) (by kernel_rfl))
      ) ?_
  refine CodeOk.seq' ?_
  obtain ⟨y8, hv12, h⟩ := bind_some h
  refine CodeOk.cutR (tl 36 [(0, V.str a0), (1, V.int a1), (2, V.int a2), (3, V.str a3), (23, V.bool y8)]) [] mix (by
      refine W.run D_ok 3 100 (by kernel_rfl) ?_
      obtain ⟨r9, hx13, hv12⟩ := bind_some hv12
      refine W.call0 (m_impl_within_ok a1 0 (a0.length : Int) hx13) cok28 rfl (by kernel_rfl) ?_
      refine W.run D_ok 2 100 (by kernel_rfl) ?_
      rcases cond_some hv12 with ⟨hc14, hv12⟩ | ⟨hc14, hv12⟩
      · refine W.is 15 hc14 (by kernel_rfl) ?_
        refine W.run D_ok 8 100 (by kernel_rfl) ?_
        have hv12 := Option.some.inj hv12
        subst hv12
        exact W.fin (by decide) (by kernel_rfl) (Weak.sel [] [0, 1, 2, 3, 23] (by kernel_rfl) (by kernel_rfl) (by kernel_rfl))
      · refine W.is 15 hc14 (by kernel_rfl) ?_
        refine W.run D_ok 5 100 (by kernel_rfl) ?_
        obtain ⟨r10, hx15, hv12⟩ := bind_some hv12
        refine W.call0 (m_impl_within_ok a2 0 (IntKind.wrap .i64 ((a0.length : Int) - a1)) hx15) cok28 rfl (by kernel_rfl) ?_
        refine W.run D_ok 2 100 (by kernel_rfl) ?_
        have hv12 := Option.some.inj hv12
        subst hv12
        exact W.fin (by decide) (by kernel_rfl) (Weak.sel [] [0, 1, 2, 3, 23] (by kernel_rfl) (by kernel_rfl) (by kernel_rfl))
      ) ?_
  rcases cond_some h with ⟨hc16, h⟩ | ⟨hc16, h⟩
  · refine CodeOk.ifT hc16 (by kernel_rfl) ?_
    refine CodeOk.cutR (tl 36 [(8, V.str a0), (9, V.bool false)]) [] mix (by
        refine W.run D_ok 3 100 (by kernel_rfl) ?_
        exact W.fin (by decide) (by kernel_rfl) (Weak.sel [] [8, 9] (by kernel_rfl) (by kernel_rfl) (by kernel_rfl))
        ) ?_
    refine CodeOk.ret ?_
    have h := Option.some.inj h
    subst h
    exact Ends.two' (r := V.str a0) (s := V.bool false) [] (.inr rfl) rfl (by kernel_rfl) (by kernel_rfl) (by kernel_rfl) (by kernel_rfl) (by kernel_rfl)
  · refine CodeOk.ifF hc16 (by kernel_rfl) ?_
    refine CodeOk.skip ?_
    refine CodeOk.weak (st' := ⟨tl 36 [(0, V.str a0), (1, V.int a1), (2, V.int a2), (3, V.str a3), (23, V.bool y8)], []⟩) (Weak.refl _) ?_
    obtain ⟨s15, hx21, h⟩ := bind_some h
    obtain ⟨s16, hx22, h⟩ := bind_some h
    obtain ⟨s17, hx23, h⟩ := bind_some h
    obtain ⟨s18, hx24, h⟩ := bind_some h
    refine CodeOk.cutR (tl 36 [(8, V.str s18), (9, V.bool true)]) [] mix (by
        refine W.run D_ok 2 100 (by kernel_rfl) ?_
        refine W.cutS D_ok hx21 (by kernel_rfl) ?_
        refine W.run D_ok 1 100 (by kernel_rfl) ?_
        refine W.cat hx22 (by kernel_rfl) ?_
        refine W.run D_ok 4 100 (by kernel_rfl) ?_
        refine W.cutS D_ok hx23 (by kernel_rfl) ?_
        refine W.cat hx24 (by kernel_rfl) ?_
        refine W.run D_ok 2 100 (by kernel_rfl) ?_
        exact W.fin (by decide) (by kernel_rfl) (Weak.sel [] [8, 9] (by kernel_rfl) (by kernel_rfl) (by kernel_rfl))
        ) ?_
    refine CodeOk.ret ?_
    have h := Option.some.inj h
    subst h
    exact Ends.two' (r := V.str s18) (s := V.bool true) [] (.inr rfl) rfl (by kernel_rfl) (by kernel_rfl) (by kernel_rfl) (by kernel_rfl) (by kernel_rfl)

theorem cok12 : callOk Try.prog 12 := fun _ _ => Try.call12 _ _

/-! ### laws.FnExactSplice -/
def m_laws_FnExactSplice (a0 : List UInt8) (a1 : Int) (a2 : Int) (a3 : List UInt8) : Option Bool :=
  bif (decide ((a0.length : Int) > 1048576)) then some true else (bif (decide ((a3.length : Int) > 1048576)) then some true else (Option.bind (m_spec_Splice a0 a1 a2 a3) fun r2 => Option.bind (m_impl_Splice a0 a1 a2 a3) fun r4 => Option.bind (bif (!(r4.1 == r2.1)) then some true else (some (!(r4.2 == r2.2)))) fun y6 => bif y6 then some false else (some true)))

theorem m_laws_FnExactSplice_ok (a0 : List UInt8) (a1 : Int) (a2 : Int) (a3 : List UInt8) {r : Bool} (h : m_laws_FnExactSplice a0 a1 a2 a3 = some r) :
    AC Try.prog GG 4 [V.str a0, V.int a1, V.int a2, V.str a3] [] (V.bool r) [] := by
  rw [m_laws_FnExactSplice] at h
  refine AC.enter Try.func4 rfl ?_
  refine CodeOk.cutR (tl 43 [(0, V.str a0), (1, V.int a1), (2, V.int a2), (3, V.str a3)]) [] mix (by
      refine W.run D_ok 1 100 (by kernel_rfl) ?_
      exact W.fin (by decide) (by kernel_rfl) (Weak.sel [] [0, 1, 2, 3] (by kernel_rfl) (by kernel_rfl) (by kernel_rfl))
      ) ?_
  refine CodeOk.seq' ?_
  refine CodeOk.cutR (tl 43 [(0, V.str a0), (1, V.int a1), (2, V.int a2), (3, V.str a3), (15, V.bool (decide ((a0.length : Int) > 1048576)))]) [] mix (by
      refine W.run D_ok 3 100 (by kernel_rfl) ?_
      exact W.fin (by decide) (by kernel_rfl) (Weak.sel [] [0, 1, 2, 3, 15] (by kernel_rfl) (by kernel_rfl) (by kernel_rfl))
      ) ?_
  rcases cond_some h with ⟨hc2, h⟩ | ⟨hc2, h⟩
  · refine CodeOk.ifT hc2 (by kernel_rfl) ?_
    refine CodeOk.cutR (tl 43 [(8, V.bool true)]) [] mix (by
        refine W.run D_ok 1 100 (by kernel_rfl) ?_
        exact W.fin (by decide) (by kernel_rfl) (Weak.sel [] [8] (by kernel_rfl) (by kernel_rfl) (by kernel_rfl))
        ) ?_
    refine CodeOk.ret ?_
    have h := Option.some.inj h
    subst h
    exact Ends.one' (r := V.bool true) [] (.inr rfl) rfl (by kernel_rfl) (by kernel_rfl) (by kernel_rfl) (by kernel_rfl)
  · refine CodeOk.ifF hc2 (by kernel_rfl) ?_
    refine CodeOk.skip ?_
    refine CodeOk.weak (st' := ⟨tl 43 [(0, V.str a0), (1, V.int a1), (2, V.int a2), (3, V.str a3), (15, V.bool (decide ((a0.length : Int) > 1048576)))], []⟩) (Weak.refl _) ?_
    refine CodeOk.seq' ?_
    refine CodeOk.cutR (tl 43 [(0, V.str a0), (1, V.int a1), (2, V.int a2), (3, V.str a3), (18, V.bool (decide ((a3.length : Int) > 1048576)))]) [] mix (by
        refine W.run D_ok 3 100 (by kernel_rfl) ?_
        exact W.fin (by decide) (by kernel_rfl) (Weak.sel [] [0, 1, 2, 3, 18] (by kernel_rfl) (by kernel_rfl) (by kernel_rfl))
        ) ?_
    rcases cond_some h with ⟨hc4, h⟩ | ⟨hc4, h⟩
    · refine CodeOk.ifT hc4 (by kernel_rfl) ?_
      refine CodeOk.cutR (tl 43 [(8, V.bool true)]) [] mix (by
          refine W.run D_ok 1 100 (by kernel_rfl) ?_
          exact W.fin (by decide) (by kernel_rfl) (Weak.sel [] [8] (by kernel_rfl) (by kernel_rfl) (by kernel_rfl))
          ) ?_
      refine CodeOk.ret ?_
      have h := Option.some.inj h
      subst h
      exact Ends.one' (r := V.bool true) [] (.inr rfl) rfl (by kernel_rfl) (by kernel_rfl) (by kernel_rfl) (by kernel_rfl)
    · refine CodeOk.ifF hc4 (by kernel_rfl) ?_
      refine CodeOk.skip ?_
      refine CodeOk.weak (st' := ⟨tl 43 [(0, V.str a0), (1, V.int a1), (2, V.int a2), (3, V.str a3), (18, V.bool (decide ((a3.length : Int) > 1048576)))], []⟩) (Weak.refl _) ?_
      obtain ⟨r2, hx6, h⟩ := bind_some h
      refine CodeOk.cutR (tl 43 [(0, V.str a0), (1, V.int a1), (2, V.int a2), (3, V.str a3), (9, V.str r2.1), (10, V.bool r2.2)]) [] mix (by
          refine W.run D_ok 4 100 (by kernel_rfl) ?_
          refine W.call0 (m_spec_Splice_ok a0 a1 a2 a3 hx6) cok11 rfl (by kernel_rfl) ?_
          refine W.run D_ok 5 100 (by kernel_rfl) ?_
          exact W.fin (by decide) (by kernel_rfl) (Weak.sel [] [0, 1, 2, 3, 9, 10] (by kernel_rfl) (by kernel_rfl) (by kernel_rfl))
          ) ?_
      obtain ⟨r4, hx8, h⟩ := bind_some h
      refine CodeOk.cutR (tl 43 [(9, V.str r2.1), (10, V.bool r2.2), (11, V.str r4.1), (12, V.bool r4.2)]) [] mix (by
          refine W.run D_ok 4 100 (by kernel_rfl) ?_
          refine W.call0 (m_impl_Splice_ok a0 a1 a2 a3 hx8) cok12 rfl (by kernel_rfl) ?_
          refine W.run D_ok 5 100 (by kernel_rfl) ?_
          exact W.fin (by decide) (by kernel_rfl) (Weak.sel [] [9, 10, 11, 12] (by kernel_rfl) (by kernel_rfl) (by kernel_rfl))
          ) ?_
      refine CodeOk.seq' ?_
      obtain ⟨y6, hv14, h⟩ := bind_some h
      refine CodeOk.cutR (tl 43 [(42, V.bool y6)]) [] mix (by
          refine W.run D_ok 4 100 (by kernel_rfl) ?_
          rcases cond_some hv14 with ⟨hc15, hv14⟩ | ⟨hc15, hv14⟩
          · refine W.is 38 hc15 (by kernel_rfl) ?_
            refine W.run D_ok 4 100 (by kernel_rfl) ?_
            have hv14 := Option.some.inj hv14
            subst hv14
            exact W.fin (by decide) (by kernel_rfl) (Weak.sel [] [42] (by kernel_rfl) (by kernel_rfl) (by kernel_rfl))
          · refine W.is 38 hc15 (by kernel_rfl) ?_
            refine W.run D_ok 4 100 (by kernel_rfl) ?_
            have hv14 := Option.some.inj hv14
            subst hv14
            exact W.fin (by decide) (by kernel_rfl) (Weak.sel [] [42] (by kernel_rfl) (by kernel_rfl) (by kernel_rfl))
          ) ?_
      rcases cond_some h with ⟨hc16, h⟩ | ⟨hc16, h⟩
      · refine CodeOk.ifT hc16 (by kernel_rfl) ?_
        refine CodeOk.cutR (tl 43 [(8, V.bool false)]) [] mix (by
            refine W.run D_ok 1 100 (by kernel_rfl) ?_
            exact W.fin (by decide) (by kernel_rfl) (Weak.sel [] [8] (by kernel_rfl) (by kernel_rfl) (by kernel_rfl))
            ) ?_
        refine CodeOk.ret ?_
        have h := Option.some.inj h
        subst h
        exact Ends.one' (r := V.bool false) [] (.inr rfl) rfl (by kernel_rfl) (by kernel_rfl) (by kernel_rfl) (by kernel_rfl)
      · refine CodeOk.ifF hc16 (by kernel_rfl) ?_
        refine CodeOk.skip ?_
        refine CodeOk.weak (st' := ⟨tl 43 [(42, V.bool y6)], []⟩) (Weak.refl _) ?_
        refine CodeOk.cutR (tl 43 [(8, V.bool true)]) [] mix (by
            refine W.run D_ok 1 100 (by kernel_rfl) ?_
            exact W.fin (by decide) (by kernel_rfl) (Weak.sel [] [8] (by kernel_rfl) (by kernel_rfl) (by kernel_rfl))
            ) ?_
        refine CodeOk.ret ?_
        have h := Option.some.inj h
        subst h
        exact Ends.one' (r := V.bool true) [] (.inr rfl) rfl (by kernel_rfl) (by kernel_rfl) (by kernel_rfl) (by kernel_rfl)

theorem cok4 : callOk Try.prog 4 := fun _ _ => Try.call4 _ _

/-! ### spec.ClassOf -/
def m_spec_ClassOf (a0 : Int) : Option (List UInt8) :=
  bif (a0 == 1) then some [46] else (bif (a0 == 2) then some [99] else (bif (a0 == 3) then some [100] else (bif (a0 == 4) then some [115] else (bif (a0 == 5) then some [114] else (bif (a0 == 6) then some [110] else (bif (a0 == 7) then some [102] else (bif (a0 == 8) then some [98] else (Option.bind (m_spec_l1In a0 10 26) fun r6 => bif r6 then some [107] else (Option.bind (m_spec_l1In a0 30 68) fun r8 => bif r8 then some [111] else (some []))))))))))

theorem m_spec_ClassOf_ok (a0 : Int) {r : (List UInt8)} (h : m_spec_ClassOf a0 = some r) :
    AC Try.prog GG 13 [V.int a0] [] (V.str r) [] := by
  rw [m_spec_ClassOf] at h
  refine AC.enter Try.func13 rfl ?_
  refine CodeOk.cutR (tl 33 [(0, V.int a0)]) [] mix (by
      refine W.run D_ok 1 100 (by kernel_rfl) ?_
      exact W.fin (by decide) (by kernel_rfl) (Weak.sel [] [0] (by kernel_rfl) (by kernel_rfl) (by kernel_rfl))
      ) ?_
  refine CodeOk.seq' ?_
  refine CodeOk.block' ?_
  refine CodeOk.cutR (tl 33 [(0, V.int a0), (3, V.bool (a0 == 1))]) [] mix (by
      refine W.run D_ok 3 100 (by kernel_rfl) ?_
      exact W.fin (by decide) (by kernel_rfl) (Weak.sel [] [0, 3] (by kernel_rfl) (by kernel_rfl) (by kernel_rfl))
      ) ?_
  rcases cond_some h with ⟨hc15, h⟩ | ⟨hc15, h⟩
  · refine CodeOk.ifT hc15 (by kernel_rfl) ?_
    refine CodeOk.cutR (tl 33 [(2, V.str [46])]) [] mix (by
        refine W.run D_ok 1 100 (by kernel_rfl) ?_
        exact W.fin (by decide) (by kernel_rfl) (Weak.sel [] [2] (by kernel_rfl) (by kernel_rfl) (by kernel_rfl))
        ) ?_
    refine CodeOk.ret ?_
    have h := Option.some.inj h
    subst h
    exact Ends.one' (r := V.str [46]) [] (.inr rfl) rfl (by kernel_rfl) (by kernel_rfl) (by kernel_rfl) (by kernel_rfl)
  · refine CodeOk.ifF hc15 (by kernel_rfl) ?_
    refine CodeOk.cutR (tl 33 [(0, V.int a0), (6, V.bool (a0 == 2))]) [] mix (by
        refine W.run D_ok 3 100 (by kernel_rfl) ?_
        exact W.fin (by decide) (by kernel_rfl) (Weak.sel [] [0, 6] (by kernel_rfl) (by kernel_rfl) (by kernel_rfl))
        ) ?_
    rcases cond_some h with ⟨hc16, h⟩ | ⟨hc16, h⟩
    · refine CodeOk.ifT hc16 (by kernel_rfl) ?_
      refine CodeOk.cutR (tl 33 [(2, V.str [99])]) [] mix (by
          refine W.run D_ok 1 100 (by kernel_rfl) ?_
          exact W.fin (by decide) (by kernel_rfl) (Weak.sel [] [2] (by kernel_rfl) (by kernel_rfl) (by kernel_rfl))
          ) ?_
      refine CodeOk.ret ?_
      have h := Option.some.inj h
      subst h
      exact Ends.one' (r := V.str [99]) [] (.inr rfl) rfl (by kernel_rfl) (by kernel_rfl) (by kernel_rfl) (by kernel_rfl)
    · refine CodeOk.ifF hc16 (by kernel_rfl) ?_
      refine CodeOk.cutR (tl 33 [(0, V.int a0), (9, V.bool (a0 == 3))]) [] mix (by
          refine W.run D_ok 3 100 (by kernel_rfl) ?_
          exact W.fin (by decide) (by kernel_rfl) (Weak.sel [] [0, 9] (by kernel_rfl) (by kernel_rfl) (by kernel_rfl))
          ) ?_
      rcases cond_some h with ⟨hc17, h⟩ | ⟨hc17, h⟩
      · refine CodeOk.ifT hc17 (by kernel_rfl) ?_
        refine CodeOk.cutR (tl 33 [(2, V.str [100])]) [] mix (by
            refine W.run D_ok 1 100 (by kernel_rfl) ?_
            exact W.fin (by decide) (by kernel_rfl) (Weak.sel [] [2] (by kernel_rfl) (by kernel_rfl) (by kernel_rfl))
            ) ?_
        refine CodeOk.ret ?_
        have h := Option.some.inj h
        subst h
        exact Ends.one' (r := V.str [100]) [] (.inr rfl) rfl (by kernel_rfl) (by kernel_rfl) (by kernel_rfl) (by kernel_rfl)
      · refine CodeOk.ifF hc17 (by kernel_rfl) ?_
        refine CodeOk.cutR (tl 33 [(0, V.int a0), (12, V.bool (a0 == 4))]) [] mix (by
            refine W.run D_ok 3 100 (by kernel_rfl) ?_
            exact W.fin (by decide) (by kernel_rfl) (Weak.sel [] [0, 12] (by kernel_rfl) (by kernel_rfl) (by kernel_rfl))
            ) ?_
        rcases cond_some h with ⟨hc18, h⟩ | ⟨hc18, h⟩
        · refine CodeOk.ifT hc18 (by kernel_rfl) ?_
          refine CodeOk.cutR (tl 33 [(2, V.str [115])]) [] mix (by
              refine W.run D_ok 1 100 (by kernel_rfl) ?_
              exact W.fin (by decide) (by kernel_rfl) (Weak.sel [] [2] (by kernel_rfl) (by kernel_rfl) (by kernel_rfl))
              ) ?_
          refine CodeOk.ret ?_
          have h := Option.some.inj h
          subst h
          exact Ends.one' (r := V.str [115]) [] (.inr rfl) rfl (by kernel_rfl) (by kernel_rfl) (by kernel_rfl) (by kernel_rfl)
        · refine CodeOk.ifF hc18 (by kernel_rfl) ?_
          refine CodeOk.cutR (tl 33 [(0, V.int a0), (15, V.bool (a0 == 5))]) [] mix (by
              refine W.run D_ok 3 100 (by kernel_rfl) ?_
              exact W.fin (by decide) (by kernel_rfl) (Weak.sel [] [0, 15] (by kernel_rfl) (by kernel_rfl) (by kernel_rfl))
              ) ?_
          rcases cond_some h with ⟨hc19, h⟩ | ⟨hc19, h⟩
          · refine CodeOk.ifT hc19 (by kernel_rfl) ?_
            refine CodeOk.cutR (tl 33 [(2, V.str [114])]) [] mix (by
                refine W.run D_ok 1 100 (by kernel_rfl) ?_
                exact W.fin (by decide) (by kernel_rfl) (Weak.sel [] [2] (by kernel_rfl) (by kernel_rfl) (by kernel_rfl))
                ) ?_
            refine CodeOk.ret ?_
            have h := Option.some.inj h
            subst h
            exact Ends.one' (r := V.str [114]) [] (.inr rfl) rfl (by kernel_rfl) (by kernel_rfl) (by kernel_rfl) (by kernel_rfl)
          · refine CodeOk.ifF hc19 (by kernel_rfl) ?_
            refine CodeOk.cutR (tl 33 [(0, V.int a0), (18, V.bool (a0 == 6))]) [] mix (by
                refine W.run D_ok 3 100 (by kernel_rfl) ?_
                exact W.fin (by decide) (by kernel_rfl) (Weak.sel [] [0, 18] (by kernel_rfl) (by kernel_rfl) (by kernel_rfl))
                ) ?_
            rcases cond_some h with ⟨hc20, h⟩ | ⟨hc20, h⟩
            · refine CodeOk.ifT hc20 (by kernel_rfl) ?_
              refine CodeOk.cutR (tl 33 [(2, V.str [110])]) [] mix (by
                  refine W.run D_ok 1 100 (by kernel_rfl) ?_
                  exact W.fin (by decide) (by kernel_rfl) (Weak.sel [] [2] (by kernel_rfl) (by kernel_rfl) (by kernel_rfl))
                  ) ?_
              refine CodeOk.ret ?_
              have h := Option.some.inj h
              subst h
              exact Ends.one' (r := V.str [110]) [] (.inr rfl) rfl (by kernel_rfl) (by kernel_rfl) (by kernel_rfl) (by kernel_rfl)
            · refine CodeOk.ifF hc20 (by kernel_rfl) ?_
              refine CodeOk.cutR (tl 33 [(0, V.int a0), (21, V.bool (a0 == 7))]) [] mix (by
                  refine W.run D_ok 3 100 (by kernel_rfl) ?_
                  exact W.fin (by decide) (by kernel_rfl) (Weak.sel [] [0, 21] (by kernel_rfl) (by kernel_rfl) (by kernel_rfl))
                  ) ?_
              rcases cond_some h with ⟨hc21, h⟩ | ⟨hc21, h⟩
              · refine CodeOk.ifT hc21 (by kernel_rfl) ?_
                refine CodeOk.cutR (tl 33 [(2, V.str [102])]) [] mix (by
                    refine W.run D_ok 1 100 (by kernel_rfl) ?_
                    exact W.fin (by decide) (by kernel_rfl) (Weak.sel [] [2] (by kernel_rfl) (by kernel_rfl) (by kernel_rfl))
                    ) ?_
                refine CodeOk.ret ?_
                have h := Option.some.inj h
                subst h
                exact Ends.one' (r := V.str [102]) [] (.inr rfl) rfl (by kernel_rfl) (by kernel_rfl) (by kernel_rfl) (by kernel_rfl)
              · refine CodeOk.ifF hc21 (by kernel_rfl) ?_
                refine CodeOk.cutR (tl 33 [(0, V.int a0), (24, V.bool (a0 == 8))]) [] mix (by
                    refine W.run D_ok 3 100 (by kernel_rfl) ?_
                    exact W.fin (by decide) (by kernel_rfl) (Weak.sel [] [0, 24] (by kernel_rfl) (by kernel_rfl) (by kernel_rfl))
                    ) ?_
                rcases cond_some h with ⟨hc22, h⟩ | ⟨hc22, h⟩
                · refine CodeOk.ifT hc22 (by kernel_rfl) ?_
                  refine CodeOk.cutR (tl 33 [(2, V.str [98])]) [] mix (by
                      refine W.run D_ok 1 100 (by kernel_rfl) ?_
                      exact W.fin (by decide) (by kernel_rfl) (Weak.sel [] [2] (by kernel_rfl) (by kernel_rfl) (by kernel_rfl))
                      ) ?_
                  refine CodeOk.ret ?_
                  have h := Option.some.inj h
                  subst h
                  exact Ends.one' (r := V.str [98]) [] (.inr rfl) rfl (by kernel_rfl) (by kernel_rfl) (by kernel_rfl) (by kernel_rfl)
                · refine CodeOk.ifF hc22 (by kernel_rfl) ?_
                  obtain ⟨r6, hx24, h⟩ := bind_some h
                  refine CodeOk.cutR (tl 33 [(0, V.int a0), (27, V.bool r6)]) [] mix (by
                      refine W.run D_ok 1 100 (by kernel_rfl) ?_
                      refine W.call0 (m_spec_l1In_ok a0 10 26 hx24) cok27 rfl (by kernel_rfl) ?_
                      refine W.run D_ok 1 100 (by kernel_rfl) ?_
                      exact W.fin (by decide) (by kernel_rfl) (Weak.sel [] [0, 27] (by kernel_rfl) (by kernel_rfl) (by kernel_rfl))
                      ) ?_
                  rcases cond_some h with ⟨hc25, h⟩ | ⟨hc25, h⟩
                  · refine CodeOk.ifT hc25 (by kernel_rfl) ?_
                    refine CodeOk.cutR (tl 33 [(2, V.str [107])]) [] mix (by
                        refine W.run D_ok 1 100 (by kernel_rfl) ?_
                        exact W.fin (by decide) (by kernel_rfl) (Weak.sel [] [2] (by kernel_rfl) (by kernel_rfl) (by kernel_rfl))
                        ) ?_
                    refine CodeOk.ret ?_
                    have h := Option.some.inj h
                    subst h
                    exact Ends.one' (r := V.str [107]) [] (.inr rfl) rfl (by kernel_rfl) (by kernel_rfl) (by kernel_rfl) (by kernel_rfl)
                  · refine CodeOk.ifF hc25 (by kernel_rfl) ?_
                    obtain ⟨r8, hx27, h⟩ := bind_some h
                    refine CodeOk.cutR (tl 33 [(30, V.bool r8)]) [] mix (by
                        refine W.run D_ok 1 100 (by kernel_rfl) ?_
                        refine W.call0 (m_spec_l1In_ok a0 30 68 hx27) cok27 rfl (by kernel_rfl) ?_
                        refine W.run D_ok 1 100 (by kernel_rfl) ?_
                        exact W.fin (by decide) (by kernel_rfl) (Weak.sel [] [30] (by kernel_rfl) (by kernel_rfl) (by kernel_rfl))
                        ) ?_
                    rcases cond_some h with ⟨hc28, h⟩ | ⟨hc28, h⟩
                    · refine CodeOk.ifT hc28 (by kernel_rfl) ?_
                      refine CodeOk.cutR (tl 33 [(2, V.str [111])]) [] mix (by
                          refine W.run D_ok 1 100 (by kernel_rfl) ?_
                          exact W.fin (by decide) (by kernel_rfl) (Weak.sel [] [2] (by kernel_rfl) (by kernel_rfl) (by kernel_rfl))
                          ) ?_
                      refine CodeOk.ret ?_
                      have h := Option.some.inj h
                      subst h
                      exact Ends.one' (r := V.str [111]) [] (.inr rfl) rfl (by kernel_rfl) (by kernel_rfl) (by kernel_rfl) (by kernel_rfl)
                    · refine CodeOk.ifF hc28 (by kernel_rfl) ?_
                      refine CodeOk.skip ?_
                      refine CodeOk.weak (st' := ⟨tl 33 [(30, V.bool r8)], []⟩) (Weak.refl _) ?_
                      refine CodeOk.cutR (tl 33 [(2, V.str [])]) [] mix (by
                          refine W.run D_ok 1 100 (by kernel_rfl) ?_
                          exact W.fin (by decide) (by kernel_rfl) (Weak.sel [] [2] (by kernel_rfl) (by kernel_rfl) (by kernel_rfl))
                          ) ?_
                      refine CodeOk.ret ?_
                      have h := Option.some.inj h
                      subst h
                      exact Ends.one' (r := V.str []) [] (.inr rfl) rfl (by kernel_rfl) (by kernel_rfl) (by kernel_rfl) (by kernel_rfl)

theorem cok13 : callOk Try.prog 13 := fun _ _ => Try.call13 _ _

/-! ### impl.ClassOf -/
def m_impl_ClassOf (a0 : Int) : Option (List UInt8) :=
  bif (a0 == 2) then some [99] else (bif (a0 == 3) then some [100] else (bif (a0 == 4) then some [115] else (bif (a0 == 5) then some [114] else (bif (a0 == 6) then some [110] else (bif (a0 == 7) then some [102] else (bif (a0 == 8) then some [98] else (bif (a0 == 1) then some [46] else (Option.bind (m_impl_isKeywordKind a0) fun r6 => bif r6 then some [107] else (Option.bind (m_impl_isSignKind a0) fun r8 => bif r8 then some [111] else (some []))))))))))

theorem m_impl_ClassOf_ok (a0 : Int) {r : (List UInt8)} (h : m_impl_ClassOf a0 = some r) :
    AC Try.prog GG 14 [V.int a0] [] (V.str r) [] := by
  rw [m_impl_ClassOf] at h
  refine AC.enter Try.func14 rfl ?_
  refine CodeOk.cutR (tl 26 [(0, V.int a0)]) [] mix (by
      refine W.run D_ok 1 100 (by kernel_rfl) ?_
      exact W.fin (by decide) (by kernel_rfl) (Weak.sel [] [0] (by kernel_rfl) (by kernel_rfl) (by kernel_rfl))
      ) ?_
  refine CodeOk.seq' ?_
  refine CodeOk.cutR (tl 26 [(0, V.int a0), (3, V.int a0)]) [] mix (by
      refine W.run D_ok 1 100 (by kernel_rfl) ?_
      exact W.fin (by decide) (by kernel_rfl) (Weak.sel [] [0, 3] (by kernel_rfl) (by kernel_rfl) (by kernel_rfl))
      ) ?_
  refine CodeOk.block' ?_
  refine CodeOk.cutR (tl 26 [(0, V.int a0), (3, V.int a0), (4, V.bool (a0 == 2))]) [] mix (by
      refine W.run D_ok 2 100 (by kernel_rfl) ?_
      exact W.fin (by decide) (by kernel_rfl) (Weak.sel [] [0, 3, 4] (by kernel_rfl) (by kernel_rfl) (by kernel_rfl))
      ) ?_
  rcases cond_some h with ⟨hc9, h⟩ | ⟨hc9, h⟩
  · refine CodeOk.ifT hc9 (by kernel_rfl) ?_
    refine CodeOk.cutR (tl 26 [(2, V.str [99])]) [] mix (by
        refine W.run D_ok 1 100 (by kernel_rfl) ?_
        exact W.fin (by decide) (by kernel_rfl) (Weak.sel [] [2] (by kernel_rfl) (by kernel_rfl) (by kernel_rfl))
        ) ?_
    refine CodeOk.ret ?_
    have h := Option.some.inj h
    subst h
    exact Ends.one' (r := V.str [99]) [] (.inr rfl) rfl (by kernel_rfl) (by kernel_rfl) (by kernel_rfl) (by kernel_rfl)
  · refine CodeOk.ifF hc9 (by kernel_rfl) ?_
    refine CodeOk.cutR (tl 26 [(0, V.int a0), (3, V.int a0), (6, V.bool (a0 == 3))]) [] mix (by
        refine W.run D_ok 2 100 (by kernel_rfl) ?_
        exact W.fin (by decide) (by kernel_rfl) (Weak.sel [] [0, 3, 6] (by kernel_rfl) (by kernel_rfl) (by kernel_rfl))
        ) ?_
    rcases cond_some h with ⟨hc10, h⟩ | ⟨hc10, h⟩
    · refine CodeOk.ifT hc10 (by kernel_rfl) ?_
      refine CodeOk.cutR (tl 26 [(2, V.str [100])]) [] mix (by
          refine W.run D_ok 1 100 (by kernel_rfl) ?_
          exact W.fin (by decide) (by kernel_rfl) (Weak.sel [] [2] (by kernel_rfl) (by kernel_rfl) (by kernel_rfl))
          ) ?_
      refine CodeOk.ret ?_
      have h := Option.some.inj h
      subst h
      exact Ends.one' (r := V.str [100]) [] (.inr rfl) rfl (by kernel_rfl) (by kernel_rfl) (by kernel_rfl) (by kernel_rfl)
    · refine CodeOk.ifF hc10 (by kernel_rfl) ?_
      refine CodeOk.cutR (tl 26 [(0, V.int a0), (3, V.int a0), (8, V.bool (a0 == 4))]) [] mix (by
          refine W.run D_ok 2 100 (by kernel_rfl) ?_
          exact W.fin (by decide) (by kernel_rfl) (Weak.sel [] [0, 3, 8] (by kernel_rfl) (by kernel_rfl) (by kernel_rfl))
          ) ?_
      rcases cond_some h with ⟨hc11, h⟩ | ⟨hc11, h⟩
      · refine CodeOk.ifT hc11 (by kernel_rfl) ?_
        refine CodeOk.cutR (tl 26 [(2, V.str [115])]) [] mix (by
            refine W.run D_ok 1 100 (by kernel_rfl) ?_
            exact W.fin (by decide) (by kernel_rfl) (Weak.sel [] [2] (by kernel_rfl) (by kernel_rfl) (by kernel_rfl))
            ) ?_
        refine CodeOk.ret ?_
        have h := Option.some.inj h
        subst h
        exact Ends.one' (r := V.str [115]) [] (.inr rfl) rfl (by kernel_rfl) (by kernel_rfl) (by kernel_rfl) (by kernel_rfl)
      · refine CodeOk.ifF hc11 (by kernel_rfl) ?_
        refine CodeOk.cutR (tl 26 [(0, V.int a0), (3, V.int a0), (10, V.bool (a0 == 5))]) [] mix (by
            refine W.run D_ok 2 100 (by kernel_rfl) ?_
            exact W.fin (by decide) (by kernel_rfl) (Weak.sel [] [0, 3, 10] (by kernel_rfl) (by kernel_rfl) (by kernel_rfl))
            ) ?_
        rcases cond_some h with ⟨hc12, h⟩ | ⟨hc12, h⟩
        · refine CodeOk.ifT hc12 (by kernel_rfl) ?_
          refine CodeOk.cutR (tl 26 [(2, V.str [114])]) [] mix (by
              refine W.run D_ok 1 100 (by kernel_rfl) ?_
              exact W.fin (by decide) (by kernel_rfl) (Weak.sel [] [2] (by kernel_rfl) (by kernel_rfl) (by kernel_rfl))
              ) ?_
          refine CodeOk.ret ?_
          have h := Option.some.inj h
          subst h
          exact Ends.one' (r := V.str [114]) [] (.inr rfl) rfl (by kernel_rfl) (by kernel_rfl) (by kernel_rfl) (by kernel_rfl)
        · refine CodeOk.ifF hc12 (by kernel_rfl) ?_
          refine CodeOk.cutR (tl 26 [(0, V.int a0), (3, V.int a0), (12, V.bool (a0 == 6))]) [] mix (by
              refine W.run D_ok 2 100 (by kernel_rfl) ?_
              exact W.fin (by decide) (by kernel_rfl) (Weak.sel [] [0, 3, 12] (by kernel_rfl) (by kernel_rfl) (by kernel_rfl))
              ) ?_
          rcases cond_some h with ⟨hc13, h⟩ | ⟨hc13, h⟩
          · refine CodeOk.ifT hc13 (by kernel_rfl) ?_
            refine CodeOk.cutR (tl 26 [(2, V.str [110])]) [] mix (by
                refine W.run D_ok 1 100 (by kernel_rfl) ?_
                exact W.fin (by decide) (by kernel_rfl) (Weak.sel [] [2] (by kernel_rfl) (by kernel_rfl) (by kernel_rfl))
                ) ?_
            refine CodeOk.ret ?_
            have h := Option.some.inj h
            subst h
            exact Ends.one' (r := V.str [110]) [] (.inr rfl) rfl (by kernel_rfl) (by kernel_rfl) (by kernel_rfl) (by kernel_rfl)
          · refine CodeOk.ifF hc13 (by kernel_rfl) ?_
            refine CodeOk.cutR (tl 26 [(0, V.int a0), (3, V.int a0), (14, V.bool (a0 == 7))]) [] mix (by
                refine W.run D_ok 2 100 (by kernel_rfl) ?_
                exact W.fin (by decide) (by kernel_rfl) (Weak.sel [] [0, 3, 14] (by kernel_rfl) (by kernel_rfl) (by kernel_rfl))
                ) ?_
            rcases cond_some h with ⟨hc14, h⟩ | ⟨hc14, h⟩
            · refine CodeOk.ifT hc14 (by kernel_rfl) ?_
              refine CodeOk.cutR (tl 26 [(2, V.str [102])]) [] mix (by
                  refine W.run D_ok 1 100 (by kernel_rfl) ?_
                  exact W.fin (by decide) (by kernel_rfl) (Weak.sel [] [2] (by kernel_rfl) (by kernel_rfl) (by kernel_rfl))
                  ) ?_
              refine CodeOk.ret ?_
              have h := Option.some.inj h
              subst h
              exact Ends.one' (r := V.str [102]) [] (.inr rfl) rfl (by kernel_rfl) (by kernel_rfl) (by kernel_rfl) (by kernel_rfl)
            · refine CodeOk.ifF hc14 (by kernel_rfl) ?_
              refine CodeOk.cutR (tl 26 [(0, V.int a0), (3, V.int a0), (16, V.bool (a0 == 8))]) [] mix (by
                  refine W.run D_ok 2 100 (by kernel_rfl) ?_
                  exact W.fin (by decide) (by kernel_rfl) (Weak.sel [] [0, 3, 16] (by kernel_rfl) (by kernel_rfl) (by kernel_rfl))
                  ) ?_
              rcases cond_some h with ⟨hc15, h⟩ | ⟨hc15, h⟩
              · refine CodeOk.ifT hc15 (by kernel_rfl) ?_
                refine CodeOk.cutR (tl 26 [(2, V.str [98])]) [] mix (by
                    refine W.run D_ok 1 100 (by kernel_rfl) ?_
                    exact W.fin (by decide) (by kernel_rfl) (Weak.sel [] [2] (by kernel_rfl) (by kernel_rfl) (by kernel_rfl))
                    ) ?_
                refine CodeOk.ret ?_
                have h := Option.some.inj h
                subst h
                exact Ends.one' (r := V.str [98]) [] (.inr rfl) rfl (by kernel_rfl) (by kernel_rfl) (by kernel_rfl) (by kernel_rfl)
              · refine CodeOk.ifF hc15 (by kernel_rfl) ?_
                refine CodeOk.cutR (tl 26 [(0, V.int a0), (18, V.bool (a0 == 1))]) [] mix (by
                    refine W.run D_ok 2 100 (by kernel_rfl) ?_
                    exact W.fin (by decide) (by kernel_rfl) (Weak.sel [] [0, 18] (by kernel_rfl) (by kernel_rfl) (by kernel_rfl))
                    ) ?_
                rcases cond_some h with ⟨hc16, h⟩ | ⟨hc16, h⟩
                · refine CodeOk.ifT hc16 (by kernel_rfl) ?_
                  refine CodeOk.cutR (tl 26 [(2, V.str [46])]) [] mix (by
                      refine W.run D_ok 1 100 (by kernel_rfl) ?_
                      exact W.fin (by decide) (by kernel_rfl) (Weak.sel [] [2] (by kernel_rfl) (by kernel_rfl) (by kernel_rfl))
                      ) ?_
                  refine CodeOk.ret ?_
                  have h := Option.some.inj h
                  subst h
                  exact Ends.one' (r := V.str [46]) [] (.inr rfl) rfl (by kernel_rfl) (by kernel_rfl) (by kernel_rfl) (by kernel_rfl)
                · refine CodeOk.ifF hc16 (by kernel_rfl) ?_
                  refine CodeOk.skip ?_
                  refine CodeOk.weak (st' := ⟨tl 26 [(0, V.int a0), (18, V.bool (a0 == 1))], []⟩) (Weak.refl _) ?_
                  refine CodeOk.seq' ?_
                  refine CodeOk.block' ?_
                  obtain ⟨r6, hx24, h⟩ := bind_some h
                  refine CodeOk.cutR (tl 26 [(0, V.int a0), (20, V.bool r6)]) [] mix (by
                      refine W.run D_ok 1 100 (by kernel_rfl) ?_
                      refine W.call0 (m_impl_isKeywordKind_ok a0 hx24) cok29 rfl (by kernel_rfl) ?_
                      refine W.run D_ok 1 100 (by kernel_rfl) ?_
                      exact W.fin (by decide) (by kernel_rfl) (Weak.sel [] [0, 20] (by kernel_rfl) (by kernel_rfl) (by kernel_rfl))
                      ) ?_
                  rcases cond_some h with ⟨hc25, h⟩ | ⟨hc25, h⟩
                  · refine CodeOk.ifT hc25 (by kernel_rfl) ?_
                    refine CodeOk.cutR (tl 26 [(2, V.str [107])]) [] mix (by
                        refine W.run D_ok 1 100 (by kernel_rfl) ?_
                        exact W.fin (by decide) (by kernel_rfl) (Weak.sel [] [2] (by kernel_rfl) (by kernel_rfl) (by kernel_rfl))
                        ) ?_
                    refine CodeOk.ret ?_
                    have h := Option.some.inj h
                    subst h
                    exact Ends.one' (r := V.str [107]) [] (.inr rfl) rfl (by kernel_rfl) (by kernel_rfl) (by kernel_rfl) (by kernel_rfl)
                  · refine CodeOk.ifF hc25 (by kernel_rfl) ?_
                    obtain ⟨r8, hx27, h⟩ := bind_some h
                    refine CodeOk.cutR (tl 26 [(23, V.bool r8)]) [] mix (by
                        refine W.run D_ok 1 100 (by kernel_rfl) ?_
                        refine W.call0 (m_impl_isSignKind_ok a0 hx27) cok30 rfl (by kernel_rfl) ?_
                        refine W.run D_ok 1 100 (by kernel_rfl) ?_
                        exact W.fin (by decide) (by kernel_rfl) (Weak.sel [] [23] (by kernel_rfl) (by kernel_rfl) (by kernel_rfl))
                        ) ?_
                    rcases cond_some h with ⟨hc28, h⟩ | ⟨hc28, h⟩
                    · refine CodeOk.ifT hc28 (by kernel_rfl) ?_
                      refine CodeOk.cutR (tl 26 [(2, V.str [111])]) [] mix (by
                          refine W.run D_ok 1 100 (by kernel_rfl) ?_
                          exact W.fin (by decide) (by kernel_rfl) (Weak.sel [] [2] (by kernel_rfl) (by kernel_rfl) (by kernel_rfl))
                          ) ?_
                      refine CodeOk.ret ?_
                      have h := Option.some.inj h
                      subst h
                      exact Ends.one' (r := V.str [111]) [] (.inr rfl) rfl (by kernel_rfl) (by kernel_rfl) (by kernel_rfl) (by kernel_rfl)
                    · refine CodeOk.ifF hc28 (by kernel_rfl) ?_
                      refine CodeOk.skip ?_
                      refine CodeOk.weak (st' := ⟨tl 26 [(23, V.bool r8)], []⟩) (Weak.refl _) ?_
                      refine CodeOk.cutR (tl 26 [(2, V.str [])]) [] mix (by
                          refine W.run D_ok 1 100 (by kernel_rfl) ?_
                          exact W.fin (by decide) (by kernel_rfl) (Weak.sel [] [2] (by kernel_rfl) (by kernel_rfl) (by kernel_rfl))
                          ) ?_
                      refine CodeOk.ret ?_
                      have h := Option.some.inj h
                      subst h
                      exact Ends.one' (r := V.str []) [] (.inr rfl) rfl (by kernel_rfl) (by kernel_rfl) (by kernel_rfl) (by kernel_rfl)

theorem cok14 : callOk Try.prog 14 := fun _ _ => Try.call14 _ _

/-! ### laws.FnExactClassOf -/
def m_laws_FnExactClassOf (a0 : Int) : Option Bool :=
  Option.bind (m_spec_ClassOf a0) fun r2 => Option.bind (m_impl_ClassOf a0) fun r4 => bif (!(r4 == r2)) then some false else (some true)

theorem m_laws_FnExactClassOf_ok (a0 : Int) {r : Bool} (h : m_laws_FnExactClassOf a0 = some r) :
    AC Try.prog GG 5 [V.int a0] [] (V.bool r) [] := by
  rw [m_laws_FnExactClassOf] at h
  refine AC.enter Try.func5 rfl ?_
  refine CodeOk.cutR (tl 12 [(0, V.int a0)]) [] mix (by
      refine W.run D_ok 1 100 (by kernel_rfl) ?_
      exact W.fin (by decide) (by kernel_rfl) (Weak.sel [] [0] (by kernel_rfl) (by kernel_rfl) (by kernel_rfl))
      ) ?_
  obtain ⟨r2, hx2, h⟩ := bind_some h
  refine CodeOk.cutR (tl 12 [(0, V.int a0), (3, V.str r2)]) [] mix (by
      refine W.run D_ok 1 100 (by kernel_rfl) ?_
      refine W.call0 (m_spec_ClassOf_ok a0 hx2) cok13 rfl (by kernel_rfl) ?_
      refine W.run D_ok 1 100 (by kernel_rfl) ?_
      exact W.fin (by decide) (by kernel_rfl) (Weak.sel [] [0, 3] (by kernel_rfl) (by kernel_rfl) (by kernel_rfl))
      ) ?_
  obtain ⟨r4, hx4, h⟩ := bind_some h
  refine CodeOk.cutR (tl 12 [(3, V.str r2), (4, V.str r4)]) [] mix (by
      refine W.run D_ok 1 100 (by kernel_rfl) ?_
      refine W.call0 (m_impl_ClassOf_ok a0 hx4) cok14 rfl (by kernel_rfl) ?_
      refine W.run D_ok 1 100 (by kernel_rfl) ?_
      exact W.fin (by decide) (by kernel_rfl) (Weak.sel [] [3, 4] (by kernel_rfl) (by kernel_rfl) (by kernel_rfl))
      ) ?_
  refine CodeOk.seq' ?_
  refine CodeOk.cutR (tl 12 [(11, V.bool (!(r4 == r2)))]) [] mix (by
      refine W.run D_ok 3 100 (by kernel_rfl) ?_
      exact W.fin (by decide) (by kernel_rfl) (Weak.sel [] [11] (by kernel_rfl) (by kernel_rfl) (by kernel_rfl))
      ) ?_
  rcases cond_some h with ⟨hc6, h⟩ | ⟨hc6, h⟩
  · refine CodeOk.ifT hc6 (by kernel_rfl) ?_
    refine CodeOk.cutR (tl 12 [(2, V.bool false)]) [] mix (by
        refine W.run D_ok 1 100 (by kernel_rfl) ?_
        exact W.fin (by decide) (by kernel_rfl) (Weak.sel [] [2] (by kernel_rfl) (by kernel_rfl) (by kernel_rfl))
        ) ?_
    refine CodeOk.ret ?_
    have h := Option.some.inj h
    subst h
    exact Ends.one' (r := V.bool false) [] (.inr rfl) rfl (by kernel_rfl) (by kernel_rfl) (by kernel_rfl) (by kernel_rfl)
  · refine CodeOk.ifF hc6 (by kernel_rfl) ?_
    refine CodeOk.skip ?_
    refine CodeOk.weak (st' := ⟨tl 12 [(11, V.bool (!(r4 == r2)))], []⟩) (Weak.refl _) ?_
    refine CodeOk.cutR (tl 12 [(2, V.bool true)]) [] mix (by
        refine W.run D_ok 1 100 (by kernel_rfl) ?_
        exact W.fin (by decide) (by kernel_rfl) (Weak.sel [] [2] (by kernel_rfl) (by kernel_rfl) (by kernel_rfl))
        ) ?_
    refine CodeOk.ret ?_
    have h := Option.some.inj h
    subst h
    exact Ends.one' (r := V.bool true) [] (.inr rfl) rfl (by kernel_rfl) (by kernel_rfl) (by kernel_rfl) (by kernel_rfl)

theorem cok5 : callOk Try.prog 5 := fun _ _ => Try.call5 _ _

/-! ### laws.szToken -/
def m_laws_szToken (a0 : SToken) (a1 : Int) : Option Int :=
  bif (decide ((IntKind.wrap .i64 (a1 - (a0.Text.length : Int))) < 0)) then some (-1) else (some (IntKind.wrap .i64 (a1 - (a0.Text.length : Int))))

theorem m_laws_szToken_ok (a0 : SToken) (a1 : Int) {r : Int} (h : m_laws_szToken a0 a1 = some r) :
    AC Try.prog GG 31 [.agg [V.int a0.Kind, V.str a0.Text, V.int a0.At], V.int a1] [] (V.int r) [] := by
  rw [m_laws_szToken] at h
  refine AC.enter Try.func31 rfl ?_
  refine CodeOk.cutR (tl 13 [(1, V.int a1), (2, .loc 100 0)]) [(100, .cells 48 [V.int a0.Kind, V.str a0.Text, V.int a0.At])] mix (by
      refine W.run D_ok 2 100 (by kernel_rfl) ?_
      exact W.fin (by decide) (by kernel_rfl) (Weak.sel [(100, 100)] [1, 2] (by kernel_rfl) (by kernel_rfl) (by kernel_rfl))
      ) ?_
  refine CodeOk.cutR (tl 13 [(1, V.int (IntKind.wrap .i64 (a1 - (a0.Text.length : Int))))]) [] mix (by
      refine W.run D_ok 6 101 (by kernel_rfl) ?_
      exact W.fin (by decide) (by kernel_rfl) (Weak.sel [] [1] (by kernel_rfl) (by kernel_rfl) (by kernel_rfl))
      ) ?_
  refine CodeOk.seq' ?_
  refine CodeOk.cutR (tl 13 [(1, V.int (IntKind.wrap .i64 (a1 - (a0.Text.length : Int)))), (11, V.bool (decide ((IntKind.wrap .i64 (a1 - (a0.Text.length : Int))) < 0)))]) [] mix (by
      refine W.run D_ok 2 101 (by kernel_rfl) ?_
      exact W.fin (by decide) (by kernel_rfl) (Weak.sel [] [1, 11] (by kernel_rfl) (by kernel_rfl) (by kernel_rfl))
      ) ?_
  rcases cond_some h with ⟨hc2, h⟩ | ⟨hc2, h⟩
  · refine CodeOk.ifT hc2 (by kernel_rfl) ?_
    refine CodeOk.cutR (tl 13 [(4, V.int (-1))]) [] mix (by
        refine W.run D_ok 1 101 (by kernel_rfl) ?_
        exact W.fin (by decide) (by kernel_rfl) (Weak.sel [] [4] (by kernel_rfl) (by kernel_rfl) (by kernel_rfl))
        ) ?_
    refine CodeOk.ret ?_
    have h := Option.some.inj h
    subst h
    exact Ends.one' (r := V.int (-1)) [] (.inr rfl) rfl (by kernel_rfl) (by kernel_rfl) (by kernel_rfl) (by kernel_rfl)
  · refine CodeOk.ifF hc2 (by kernel_rfl) ?_
    refine CodeOk.skip ?_
    refine CodeOk.weak (st' := ⟨tl 13 [(1, V.int (IntKind.wrap .i64 (a1 - (a0.Text.length : Int)))), (11, V.bool (decide ((IntKind.wrap .i64 (a1 - (a0.Text.length : Int))) < 0)))], []⟩) (Weak.refl _) ?_
    refine CodeOk.cutR (tl 13 [(4, V.int (IntKind.wrap .i64 (a1 - (a0.Text.length : Int))))]) [] mix (by
        refine W.run D_ok 2 101 (by kernel_rfl) ?_
        exact W.fin (by decide) (by kernel_rfl) (Weak.sel [] [4] (by kernel_rfl) (by kernel_rfl) (by kernel_rfl))
        ) ?_
    refine CodeOk.ret ?_
    have h := Option.some.inj h
    subst h
    exact Ends.one' (r := V.int (IntKind.wrap .i64 (a1 - (a0.Text.length : Int)))) [] (.inr rfl) rfl (by kernel_rfl) (by kernel_rfl) (by kernel_rfl) (by kernel_rfl)

theorem cok31 : callOk Try.prog 31 := fun _ _ => Try.call31 _ _

/-! ### laws.toToken -/
def m_laws_toToken (a0 : SToken) : Option SToken :=
  some a0

theorem m_laws_toToken_ok (a0 : SToken) {r : SToken} (h : m_laws_toToken a0 = some r) :
    AC Try.prog GG 32 [.agg [V.int a0.Kind, V.str a0.Text, V.int a0.At]] [] (.agg [V.int r.Kind, V.str r.Text, V.int r.At]) [] := by
  rw [m_laws_toToken] at h
  refine AC.enter Try.func32 rfl ?_
  refine CodeOk.cutR (tl 14 [(1, .loc 100 0), (2, .loc 101 0)]) [(101, .cells 49 [V.int 0, V.str [], V.int 0]), (100, .cells 48 [V.int a0.Kind, V.str a0.Text, V.int a0.At])] mix (by
      refine W.run D_ok 2 100 (by kernel_rfl) ?_
      exact W.fin (by decide) (by kernel_rfl) (Weak.sel [(101, 101), (100, 100)] [1, 2] (by kernel_rfl) (by kernel_rfl) (by kernel_rfl))
      ) ?_
  refine CodeOk.cutR (tl 14 [(1, .loc 100 0), (2, .loc 101 0), (3, .loc 102 0)]) [(102, .cells 49 [V.int 0, V.str [], V.int 0]), (101, .cells 49 [V.int 0, V.str [], V.int 0]), (100, .cells 48 [V.int a0.Kind, V.str a0.Text, V.int a0.At])] mix (by
      refine W.run D_ok 1 102 (by kernel_rfl) ?_
      exact W.fin (by decide) (by kernel_rfl) (Weak.sel [(102, 102), (101, 101), (100, 100)] [1, 2, 3] (by kernel_rfl) (by kernel_rfl) (by kernel_rfl))
      ) ?_
  refine CodeOk.cutR (tl 14 [(1, .loc 100 0), (2, .loc 101 0), (3, .loc 102 0)]) [(102, .cells 49 [V.int a0.Kind, V.str [], V.int 0]), (101, .cells 49 [V.int 0, V.str [], V.int 0]), (100, .cells 48 [V.int a0.Kind, V.str a0.Text, V.int a0.At])] mix (by
      refine W.run D_ok 4 103 (by kernel_rfl) ?_
      exact W.fin (by decide) (by kernel_rfl) (Weak.sel [(102, 102), (101, 101), (100, 100)] [1, 2, 3] (by kernel_rfl) (by kernel_rfl) (by kernel_rfl))
      ) ?_
  refine CodeOk.cutR (tl 14 [(1, .loc 100 0), (2, .loc 101 0), (3, .loc 102 0)]) [(102, .cells 49 [V.int a0.Kind, V.str a0.Text, V.int 0]), (101, .cells 49 [V.int 0, V.str [], V.int 0]), (100, .cells 48 [V.int a0.Kind, V.str a0.Text, V.int a0.At])] mix (by
      refine W.run D_ok 4 103 (by kernel_rfl) ?_
      exact W.fin (by decide) (by kernel_rfl) (Weak.sel [(102, 102), (101, 101), (100, 100)] [1, 2, 3] (by kernel_rfl) (by kernel_rfl) (by kernel_rfl))
      ) ?_
  refine CodeOk.cutR (tl 14 [(2, .loc 101 0), (3, .loc 102 0)]) [(102, .cells 49 [V.int a0.Kind, V.str a0.Text, V.int a0.At]), (101, .cells 49 [V.int 0, V.str [], V.int 0])] mix (by
      refine W.run D_ok 4 103 (by kernel_rfl) ?_
      exact W.fin (by decide) (by kernel_rfl) (Weak.sel [(102, 102), (101, 101)] [2, 3] (by kernel_rfl) (by kernel_rfl) (by kernel_rfl))
      ) ?_
  refine CodeOk.cutR (tl 14 [(2, .loc 101 0)]) [(101, .cells 49 [V.int a0.Kind, V.str a0.Text, V.int a0.At])] mix (by
      refine W.run D_ok 2 103 (by kernel_rfl) ?_
      exact W.fin (by decide) (by kernel_rfl) (Weak.sel [(101, 101)] [2] (by kernel_rfl) (by kernel_rfl) (by kernel_rfl))
      ) ?_
  refine CodeOk.ret ?_
  have h := Option.some.inj h
  subst h
  exact Ends.cell' D_ok (.agg [V.int a0.Kind, V.str a0.Text, V.int a0.At]) 101 49 [V.int a0.Kind, V.str a0.Text, V.int a0.At] [] (.inr rfl) rfl (by kernel_rfl) (by kernel_rfl) (by kernel_rfl) (by kernel_rfl) (by kernel_rfl) (by kernel_rfl)

theorem cok32 : callOk Try.prog 32 := fun _ _ => Try.call32 _ _

/-! ### laws.eqToken -/
def m_laws_eqToken (a0 : SToken) (a1 : SToken) : Option Bool :=
  bif (a0.Kind != a1.Kind) then some false else (bif (!(a0.Text == a1.Text)) then some false else (bif (a0.At != a1.At) then some false else (some true)))

theorem m_laws_eqToken_ok (a0 : SToken) (a1 : SToken) {r : Bool} (h : m_laws_eqToken a0 a1 = some r) :
    AC Try.prog GG 33 [.agg [V.int a0.Kind, V.str a0.Text, V.int a0.At], .agg [V.int a1.Kind, V.str a1.Text, V.int a1.At]] [] (V.bool r) [] := by
  rw [m_laws_eqToken] at h
  refine AC.enter Try.func33 rfl ?_
  refine CodeOk.cutR (tl 20 [(2, .loc 100 0), (3, .loc 101 0)]) [(101, .cells 49 [V.int a1.Kind, V.str a1.Text, V.int a1.At]), (100, .cells 49 [V.int a0.Kind, V.str a0.Text, V.int a0.At])] mix (by
      refine W.run D_ok 3 100 (by kernel_rfl) ?_
      exact W.fin (by decide) (by kernel_rfl) (Weak.sel [(101, 101), (100, 100)] [2, 3] (by kernel_rfl) (by kernel_rfl) (by kernel_rfl))
      ) ?_
  refine CodeOk.seq' ?_
  refine CodeOk.cutR (tl 20 [(2, .loc 100 0), (3, .loc 101 0), (9, V.bool (a0.Kind != a1.Kind))]) [(101, .cells 49 [V.int a1.Kind, V.str a1.Text, V.int a1.At]), (100, .cells 49 [V.int a0.Kind, V.str a0.Text, V.int a0.At])] mix (by
      refine W.run D_ok 5 102 (by kernel_rfl) ?_
      exact W.fin (by decide) (by kernel_rfl) (Weak.sel [(101, 101), (100, 100)] [2, 3, 9] (by kernel_rfl) (by kernel_rfl) (by kernel_rfl))
      ) ?_
  rcases cond_some h with ⟨hc2, h⟩ | ⟨hc2, h⟩
  · refine CodeOk.ifT hc2 (by kernel_rfl) ?_
    refine CodeOk.cutR (tl 20 [(4, V.bool false)]) [] mix (by
        refine W.run D_ok 1 102 (by kernel_rfl) ?_
        exact W.fin (by decide) (by kernel_rfl) (Weak.sel [] [4] (by kernel_rfl) (by kernel_rfl) (by kernel_rfl))
        ) ?_
    refine CodeOk.ret ?_
    have h := Option.some.inj h
    subst h
    exact Ends.one' (r := V.bool false) [] (.inr rfl) rfl (by kernel_rfl) (by kernel_rfl) (by kernel_rfl) (by kernel_rfl)
  · refine CodeOk.ifF hc2 (by kernel_rfl) ?_
    refine CodeOk.skip ?_
    refine CodeOk.weak (st' := ⟨tl 20 [(2, .loc 100 0), (3, .loc 101 0), (9, V.bool (a0.Kind != a1.Kind))], [(101, .cells 49 [V.int a1.Kind, V.str a1.Text, V.int a1.At]), (100, .cells 49 [V.int a0.Kind, V.str a0.Text, V.int a0.At])]⟩) (Weak.refl _) ?_
    refine CodeOk.seq' ?_
    refine CodeOk.cutR (tl 20 [(2, .loc 100 0), (3, .loc 101 0), (14, V.bool (!(a0.Text == a1.Text)))]) [(101, .cells 49 [V.int a1.Kind, V.str a1.Text, V.int a1.At]), (100, .cells 49 [V.int a0.Kind, V.str a0.Text, V.int a0.At])] mix (by
        refine W.run D_ok 5 102 (by kernel_rfl) ?_
        exact W.fin (by decide) (by kernel_rfl) (Weak.sel [(101, 101), (100, 100)] [2, 3, 14] (by kernel_rfl) (by kernel_rfl) (by kernel_rfl))
        ) ?_
    rcases cond_some h with ⟨hc4, h⟩ | ⟨hc4, h⟩
    · refine CodeOk.ifT hc4 (by kernel_rfl) ?_
      refine CodeOk.cutR (tl 20 [(4, V.bool false)]) [] mix (by
          refine W.run D_ok 1 102 (by kernel_rfl) ?_
          exact W.fin (by decide) (by kernel_rfl) (Weak.sel [] [4] (by kernel_rfl) (by kernel_rfl) (by kernel_rfl))
          ) ?_
      refine CodeOk.ret ?_
      have h := Option.some.inj h
      subst h
      exact Ends.one' (r := V.bool false) [] (.inr rfl) rfl (by kernel_rfl) (by kernel_rfl) (by kernel_rfl) (by kernel_rfl)
    · refine CodeOk.ifF hc4 (by kernel_rfl) ?_
      refine CodeOk.skip ?_
      refine CodeOk.weak (st' := ⟨tl 20 [(2, .loc 100 0), (3, .loc 101 0), (14, V.bool (!(a0.Text == a1.Text)))], [(101, .cells 49 [V.int a1.Kind, V.str a1.Text, V.int a1.At]), (100, .cells 49 [V.int a0.Kind, V.str a0.Text, V.int a0.At])]⟩) (Weak.refl _) ?_
      refine CodeOk.seq' ?_
      refine CodeOk.cutR (tl 20 [(19, V.bool (a0.At != a1.At))]) [] mix (by
          refine W.run D_ok 5 102 (by kernel_rfl) ?_
          exact W.fin (by decide) (by kernel_rfl) (Weak.sel [] [19] (by kernel_rfl) (by kernel_rfl) (by kernel_rfl))
          ) ?_
      rcases cond_some h with ⟨hc6, h⟩ | ⟨hc6, h⟩
      · refine CodeOk.ifT hc6 (by kernel_rfl) ?_
        refine CodeOk.cutR (tl 20 [(4, V.bool false)]) [] mix (by
            refine W.run D_ok 1 102 (by kernel_rfl) ?_
            exact W.fin (by decide) (by kernel_rfl) (Weak.sel [] [4] (by kernel_rfl) (by kernel_rfl) (by kernel_rfl))
            ) ?_
        refine CodeOk.ret ?_
        have h := Option.some.inj h
        subst h
        exact Ends.one' (r := V.bool false) [] (.inr rfl) rfl (by kernel_rfl) (by kernel_rfl) (by kernel_rfl) (by kernel_rfl)
      · refine CodeOk.ifF hc6 (by kernel_rfl) ?_
        refine CodeOk.skip ?_
        refine CodeOk.weak (st' := ⟨tl 20 [(19, V.bool (a0.At != a1.At))], []⟩) (Weak.refl _) ?_
        refine CodeOk.cutR (tl 20 [(4, V.bool true)]) [] mix (by
            refine W.run D_ok 1 102 (by kernel_rfl) ?_
            exact W.fin (by decide) (by kernel_rfl) (Weak.sel [] [4] (by kernel_rfl) (by kernel_rfl) (by kernel_rfl))
            ) ?_
        refine CodeOk.ret ?_
        have h := Option.some.inj h
        subst h
        exact Ends.one' (r := V.bool true) [] (.inr rfl) rfl (by kernel_rfl) (by kernel_rfl) (by kernel_rfl) (by kernel_rfl)

theorem cok33 : callOk Try.prog 33 := fun _ _ => Try.call33 _ _

/-! ### laws.szIntS -/
def m_laws_szIntS (a0 : List (Int)) (a1 : Int) : Option Int :=
  bif (decide ((IntKind.wrap .i64 (a1 - (a0.length : Int))) < 0)) then some (-1) else (some (IntKind.wrap .i64 (a1 - (a0.length : Int))))

theorem m_laws_szIntS_ok (a0 : List (Int)) (a1 : Int) {r : Int} (h : m_laws_szIntS a0 a1 = some r) :
    AC Try.prog GG 34 [.sl false false (a0.map encI), V.int a1] [] (V.int r) [] := by
  rw [m_laws_szIntS] at h
  refine AC.enter Try.func34 rfl ?_
  refine CodeOk.cutR (tl 12 [(0, .sl false false (a0.map encI)), (1, V.int a1)]) [] mix (by
      refine W.run D_ok 1 100 (by kernel_rfl) ?_
      exact W.fin (by decide) (by kernel_rfl) (Weak.sel [] [0, 1] (by kernel_rfl) (by kernel_rfl) (by kernel_rfl))
      ) ?_
  refine CodeOk.cutR (tl 12 [(1, V.int (IntKind.wrap .i64 (a1 - (a0.length : Int))))]) [] mix (by
      refine W.run D_ok 2 100 (by kernel_rfl) ?_
      refine W.len D_ok encI a0 [] (by kernel_rfl) (by kernel_rfl) ?_
      refine W.run D_ok 2 100 (by kernel_rfl) ?_
      exact W.fin (by decide) (by kernel_rfl) (Weak.sel [] [1] (by kernel_rfl) (by kernel_rfl) (by kernel_rfl))
      ) ?_
  refine CodeOk.seq' ?_
  refine CodeOk.cutR (tl 12 [(1, V.int (IntKind.wrap .i64 (a1 - (a0.length : Int)))), (10, V.bool (decide ((IntKind.wrap .i64 (a1 - (a0.length : Int))) < 0)))]) [] mix (by
      refine W.run D_ok 2 100 (by kernel_rfl) ?_
      exact W.fin (by decide) (by kernel_rfl) (Weak.sel [] [1, 10] (by kernel_rfl) (by kernel_rfl) (by kernel_rfl))
      ) ?_
  rcases cond_some h with ⟨hc2, h⟩ | ⟨hc2, h⟩
  · refine CodeOk.ifT hc2 (by kernel_rfl) ?_
    refine CodeOk.cutR (tl 12 [(4, V.int (-1))]) [] mix (by
        refine W.run D_ok 1 100 (by kernel_rfl) ?_
        exact W.fin (by decide) (by kernel_rfl) (Weak.sel [] [4] (by kernel_rfl) (by kernel_rfl) (by kernel_rfl))
        ) ?_
    refine CodeOk.ret ?_
    have h := Option.some.inj h
    subst h
    exact Ends.one' (r := V.int (-1)) [] (.inr rfl) rfl (by kernel_rfl) (by kernel_rfl) (by kernel_rfl) (by kernel_rfl)
  · refine CodeOk.ifF hc2 (by kernel_rfl) ?_
    refine CodeOk.skip ?_
    refine CodeOk.weak (st' := ⟨tl 12 [(1, V.int (IntKind.wrap .i64 (a1 - (a0.length : Int)))), (10, V.bool (decide ((IntKind.wrap .i64 (a1 - (a0.length : Int))) < 0)))], []⟩) (Weak.refl _) ?_
    refine CodeOk.cutR (tl 12 [(4, V.int (IntKind.wrap .i64 (a1 - (a0.length : Int))))]) [] mix (by
        refine W.run D_ok 2 100 (by kernel_rfl) ?_
        exact W.fin (by decide) (by kernel_rfl) (Weak.sel [] [4] (by kernel_rfl) (by kernel_rfl) (by kernel_rfl))
        ) ?_
    refine CodeOk.ret ?_
    have h := Option.some.inj h
    subst h
    exact Ends.one' (r := V.int (IntKind.wrap .i64 (a1 - (a0.length : Int)))) [] (.inr rfl) rfl (by kernel_rfl) (by kernel_rfl) (by kernel_rfl) (by kernel_rfl)

theorem cok34 : callOk Try.prog 34 := fun _ _ => Try.call34 _ _

/-! ### laws.toIntS -/
def m_laws_toIntS_l1 (N : Nat) : Nat → ((List (Int)) × Int × (List (Int))) → Option (List (Int))
  | 0, _ => none
  | n1 + 1, (a0, y55, y56) => bif (decide (y55 < (a0.length : Int))) then Option.bind (ix a0 y55) fun e80 => Option.bind (ix y56 y55) fun e81 => Option.bind (upd y56 y55 e80) fun x82 => (m_laws_toIntS_l1 N n1) (a0, (IntKind.wrap .i64 (y55 + 1)), x82) else (some y56)
def m_laws_toIntS (N : Nat) (a0 : List (Int)) : Option (List (Int)) :=
  Option.bind (mk 8 0 (a0.length : Int)) fun x2 => m_laws_toIntS_l1 N N (a0, 0, x2)

theorem m_laws_toIntS_ok (N : Nat) (a0 : List (Int)) {r : (List (Int))} (h : m_laws_toIntS N a0 = some r) :
    AC Try.prog GG 35 [.sl false false (a0.map encI)] [] (.own 100) [(100, .vec false 3 1 (r.map encI))] := by
  rw [m_laws_toIntS] at h
  refine AC.enter Try.func35 rfl ?_
  refine CodeOk.cutR (tl 22 [(0, .sl false false (a0.map encI))]) [] mix (by
      refine W.run D_ok 1 100 (by kernel_rfl) ?_
      exact W.fin (by decide) (by kernel_rfl) (Weak.sel [] [0] (by kernel_rfl) (by kernel_rfl) (by kernel_rfl))
      ) ?_
  obtain ⟨x2, hx2, h⟩ := bind_some h
  refine CodeOk.cutR (tl 22 [(0, .sl false false (a0.map encI)), (3, .own 100)]) [(100, .vec false 3 1 (x2.map encI))] mix (by
      refine W.run D_ok 1 100 (by kernel_rfl) ?_
      refine W.len D_ok encI a0 [] (by kernel_rfl) (by kernel_rfl) ?_
      refine W.mk D_ok encI 8 hx2 100 3 1 [.int .i64 0] (by kernel_rfl) (by kernel_rfl) ?_
      refine W.run D_ok 1 101 (by kernel_rfl) ?_
      exact W.fin (by decide) (by kernel_rfl) (Weak.sel [(100, 100)] [0, 3] (by kernel_rfl) (by kernel_rfl) (by kernel_rfl))
      ) ?_
  refine CodeOk.seq' ?_
  refine CodeOk.cutR (tl 22 [(0, .sl false false (a0.map encI)), (3, .own 100), (4, V.int 0)]) [(100, .vec false 3 1 (x2.map encI))] mix (by
      refine W.run D_ok 1 101 (by kernel_rfl) ?_
      exact W.fin (by decide) (by kernel_rfl) (Weak.sel [(100, 100)] [0, 3, 4] (by kernel_rfl) (by kernel_rfl) (by kernel_rfl))
      ) ?_
  refine CodeOk.block' ?_
  refine CodeOk.loopJ (fun (⟨a0, y55, y56⟩ : ((List (Int)) × Int × (List (Int)))) => ⟨tl 22 [(0, .sl false false (a0.map encI)), (3, .own 100), (4, V.int y55)], [(100, .vec false 3 1 (y56.map encI))]⟩) (fun n i => m_laws_toIntS_l1 N n i = some r) (n0 := N) (i0 := (a0, 0, x2)) (Weak.sel [(100, 100)] [0, 3, 4] (by kernel_rfl) (by kernel_rfl) (by kernel_rfl)) h (fun i h => by simp [m_laws_toIntS_l1] at h) ?_
  rintro n1 ⟨a0, y55, y56⟩ h75 ih76
  rw [m_laws_toIntS_l1] at h75
  refine CodeOk.seq' ?_
  refine CodeOk.cutR (tl 22 [(0, .sl false false (a0.map encI)), (3, .own 100), (4, V.int y55), (11, V.bool (decide (y55 < (a0.length : Int))))]) [(100, .vec false 3 1 (y56.map encI))] mix (by
      refine W.run D_ok 2 141 (by kernel_rfl) ?_
      refine W.len D_ok encI a0 [] (by kernel_rfl) (by kernel_rfl) ?_
      refine W.run D_ok 1 141 (by kernel_rfl) ?_
      exact W.fin (by decide) (by kernel_rfl) (Weak.sel [(100, 100)] [0, 3, 4, 11] (by kernel_rfl) (by kernel_rfl) (by kernel_rfl))
      ) ?_
  rcases cond_some h75 with ⟨hc78, h75⟩ | ⟨hc78, h75⟩
  · refine CodeOk.ifT hc78 (by kernel_rfl) ?_
    refine CodeOk.skip ?_
    refine CodeOk.weak (st' := ⟨tl 22 [(0, .sl false false (a0.map encI)), (3, .own 100), (4, V.int y55), (11, V.bool (decide (y55 < (a0.length : Int))))], [(100, .vec false 3 1 (y56.map encI))]⟩) (Weak.refl _) ?_
    refine CodeOk.seq' ?_
    refine CodeOk.block' ?_
    obtain ⟨e80, hx88, h75⟩ := bind_some h75
    obtain ⟨e81, hx89, h75⟩ := bind_some h75
    obtain ⟨x82, hu90, h75⟩ := bind_some h75
    refine CodeOk.endR (tl 22 [(0, .sl false false (a0.map encI)), (3, .own 100), (4, V.int y55)]) [(100, .vec false 3 1 (x82.map encI))] mix (by
        refine W.run D_ok 4 141 (by kernel_rfl) ?_
        refine W.ixD D_ok encI hx88 1 (by kernel_rfl) (by kernel_rfl) ?_
        refine W.run D_ok 1 141 (by kernel_rfl) ?_
        refine W.ixO D_ok encI hx89 100 1 (by kernel_rfl) ?_
        refine W.stO D_ok encI (x' := e80) hx89 hu90 (j := 100) (nn := false) (ety := 3) (sz := 1) (b := 0) (ys := [V.int e80]) (C := []) (R := []) (by kernel_rfl) (by kernel_rfl) ?_
        exact W.fin (by decide) (by kernel_rfl) (Weak.sel [(100, 100)] [0, 3, 4] (by kernel_rfl) (by kernel_rfl) (by kernel_rfl))
        ) (fun st hw => ?_)
    refine CodeOk.weak (st' := ⟨tl 22 [(0, .sl false false (a0.map encI)), (3, .own 100), (4, V.int y55)], [(100, .vec false 3 1 (x82.map encI))]⟩) hw ?_
    refine CodeOk.endR (tl 22 [(0, .sl false false (a0.map encI)), (3, .own 100), (4, V.int (IntKind.wrap .i64 (y55 + 1)))]) [(100, .vec false 3 1 (x82.map encI))] mix (by
        refine W.run D_ok 3 141 (by kernel_rfl) ?_
        exact W.fin (by decide) (by kernel_rfl) (Weak.sel [(100, 100)] [0, 3, 4] (by kernel_rfl) (by kernel_rfl) (by kernel_rfl))
        ) (fun st hw => ?_)
    exact ih76 (a0, (IntKind.wrap .i64 (y55 + 1)), x82) h75 _ (hw.trans (Weak.sel [(100, 100)] [0, 3, 4] (by kernel_rfl) (by kernel_rfl) (by kernel_rfl)))
  · refine CodeOk.ifF hc78 (by kernel_rfl) ?_
    refine CodeOk.exit ?_
    refine CodeOk.weak (st' := ⟨tl 22 [(0, .sl false false (a0.map encI)), (3, .own 100), (4, V.int y55), (11, V.bool (decide (y55 < (a0.length : Int))))], [(100, .vec false 3 1 (y56.map encI))]⟩) (Weak.refl _) ?_
    refine CodeOk.cutR (tl 22 [(2, .own 100)]) [(100, .vec false 3 1 (y56.map encI))] mix (by
        refine W.run D_ok 2 141 (by kernel_rfl) ?_
        exact W.fin (by decide) (by kernel_rfl) (Weak.sel [(100, 100)] [2] (by kernel_rfl) (by kernel_rfl) (by kernel_rfl))
        ) ?_
    refine CodeOk.ret ?_
    have h75 := Option.some.inj h75
    subst h75
    exact Ends.one' (r := .own 100) [(100, 100)] (.inr rfl) rfl (by kernel_rfl) (by kernel_rfl) (by kernel_rfl) (by kernel_rfl)

theorem cok35 : callOk Try.prog 35 := fun _ _ => Try.call35 _ _

/-! ### laws.eqIntS -/
def m_laws_eqIntS_l1 (N : Nat) : Nat → ((List (Int)) × (List (Int)) × Int) → Option Bool
  | 0, _ => none
  | n1 + 1, (a0, a1, y35) => bif (decide (y35 < (a0.length : Int))) then Option.bind (ix a0 y35) fun e51 => Option.bind (ix a1 y35) fun e52 => bif (e51 != e52) then some false else ((m_laws_eqIntS_l1 N n1) (a0, a1, (IntKind.wrap .i64 (y35 + 1)))) else (some true)
def m_laws_eqIntS (N : Nat) (a0 : List (Int)) (a1 : List (Int)) : Option Bool :=
  bif ((a0.length : Int) != (a1.length : Int)) then some false else (m_laws_eqIntS_l1 N N (a0, a1, 0))

theorem m_laws_eqIntS_ok (N : Nat) (a0 : List (Int)) (a1 : List (Int)) {r : Bool} (h : m_laws_eqIntS N a0 a1 = some r) :
    AC Try.prog GG 36 [.sl false false (a0.map encI), .sl false false (a1.map encI)] [] (V.bool r) [] := by
  rw [m_laws_eqIntS] at h
  refine AC.enter Try.func36 rfl ?_
  refine CodeOk.cutR (tl 26 [(0, .sl false false (a0.map encI)), (1, .sl false false (a1.map encI))]) [] mix (by
      refine W.run D_ok 1 100 (by kernel_rfl) ?_
      exact W.fin (by decide) (by kernel_rfl) (Weak.sel [] [0, 1] (by kernel_rfl) (by kernel_rfl) (by kernel_rfl))
      ) ?_
  refine CodeOk.seq' ?_
  refine CodeOk.cutR (tl 26 [(0, .sl false false (a0.map encI)), (1, .sl false false (a1.map encI)), (10, V.bool ((a0.length : Int) != (a1.length : Int)))]) [] mix (by
      refine W.run D_ok 1 100 (by kernel_rfl) ?_
      refine W.len D_ok encI a0 [] (by kernel_rfl) (by kernel_rfl) ?_
      refine W.run D_ok 1 100 (by kernel_rfl) ?_
      refine W.len D_ok encI a1 [] (by kernel_rfl) (by kernel_rfl) ?_
      refine W.run D_ok 1 100 (by kernel_rfl) ?_
      exact W.fin (by decide) (by kernel_rfl) (Weak.sel [] [0, 1, 10] (by kernel_rfl) (by kernel_rfl) (by kernel_rfl))
      ) ?_
  rcases cond_some h with ⟨hc2, h⟩ | ⟨hc2, h⟩
  · refine CodeOk.ifT hc2 (by kernel_rfl) ?_
    refine CodeOk.cutR (tl 26 [(4, V.bool false)]) [] mix (by
        refine W.run D_ok 1 100 (by kernel_rfl) ?_
        exact W.fin (by decide) (by kernel_rfl) (Weak.sel [] [4] (by kernel_rfl) (by kernel_rfl) (by kernel_rfl))
        ) ?_
    refine CodeOk.ret ?_
    have h := Option.some.inj h
    subst h
    exact Ends.one' (r := V.bool false) [] (.inr rfl) rfl (by kernel_rfl) (by kernel_rfl) (by kernel_rfl) (by kernel_rfl)
  · refine CodeOk.ifF hc2 (by kernel_rfl) ?_
    refine CodeOk.skip ?_
    refine CodeOk.weak (st' := ⟨tl 26 [(0, .sl false false (a0.map encI)), (1, .sl false false (a1.map encI)), (10, V.bool ((a0.length : Int) != (a1.length : Int)))], []⟩) (Weak.refl _) ?_
    refine CodeOk.seq' ?_
    refine CodeOk.cutR (tl 26 [(0, .sl false false (a0.map encI)), (1, .sl false false (a1.map encI)), (5, V.int 0)]) [] mix (by
        refine W.run D_ok 1 100 (by kernel_rfl) ?_
        exact W.fin (by decide) (by kernel_rfl) (Weak.sel [] [0, 1, 5] (by kernel_rfl) (by kernel_rfl) (by kernel_rfl))
        ) ?_
    refine CodeOk.block' ?_
    refine CodeOk.loopJ (fun (⟨a0, a1, y35⟩ : ((List (Int)) × (List (Int)) × Int)) => ⟨tl 26 [(0, .sl false false (a0.map encI)), (1, .sl false false (a1.map encI)), (5, V.int y35)], []⟩) (fun n i => m_laws_eqIntS_l1 N n i = some r) (n0 := N) (i0 := (a0, a1, 0)) (Weak.sel [] [0, 1, 5] (by kernel_rfl) (by kernel_rfl) (by kernel_rfl)) h (fun i h => by simp [m_laws_eqIntS_l1] at h) ?_
    rintro n1 ⟨a0, a1, y35⟩ h65 ih66
    rw [m_laws_eqIntS_l1] at h65
    refine CodeOk.seq' ?_
    refine CodeOk.cutR (tl 26 [(0, .sl false false (a0.map encI)), (1, .sl false false (a1.map encI)), (5, V.int y35), (14, V.bool (decide (y35 < (a0.length : Int))))]) [] mix (by
        refine W.run D_ok 2 140 (by kernel_rfl) ?_
        refine W.len D_ok encI a0 [] (by kernel_rfl) (by kernel_rfl) ?_
        refine W.run D_ok 1 140 (by kernel_rfl) ?_
        exact W.fin (by decide) (by kernel_rfl) (Weak.sel [] [0, 1, 5, 14] (by kernel_rfl) (by kernel_rfl) (by kernel_rfl))
        ) ?_
    rcases cond_some h65 with ⟨hc68, h65⟩ | ⟨hc68, h65⟩
    · refine CodeOk.ifT hc68 (by kernel_rfl) ?_
      refine CodeOk.skip ?_
      refine CodeOk.weak (st' := ⟨tl 26 [(0, .sl false false (a0.map encI)), (1, .sl false false (a1.map encI)), (5, V.int y35), (14, V.bool (decide (y35 < (a0.length : Int))))], []⟩) (Weak.refl _) ?_
      refine CodeOk.seq' ?_
      refine CodeOk.block' ?_
      obtain ⟨e51, hx76, h65⟩ := bind_some h65
      obtain ⟨e52, hx77, h65⟩ := bind_some h65
      refine CodeOk.cutR (tl 26 [(0, .sl false false (a0.map encI)), (1, .sl false false (a1.map encI)), (5, V.int y35), (25, V.bool (e51 != e52))]) [] mix (by
          refine W.run D_ok 2 140 (by kernel_rfl) ?_
          refine W.ixD D_ok encI hx76 1 (by kernel_rfl) (by kernel_rfl) ?_
          refine W.run D_ok 3 140 (by kernel_rfl) ?_
          refine W.ixD D_ok encI hx77 1 (by kernel_rfl) (by kernel_rfl) ?_
          refine W.run D_ok 2 140 (by kernel_rfl) ?_
          exact W.fin (by decide) (by kernel_rfl) (Weak.sel [] [0, 1, 5, 25] (by kernel_rfl) (by kernel_rfl) (by kernel_rfl))
          ) ?_
      rcases cond_some h65 with ⟨hc78, h65⟩ | ⟨hc78, h65⟩
      · refine CodeOk.ifT hc78 (by kernel_rfl) ?_
        refine CodeOk.cutR (tl 26 [(4, V.bool false)]) [] mix (by
            refine W.run D_ok 1 140 (by kernel_rfl) ?_
            exact W.fin (by decide) (by kernel_rfl) (Weak.sel [] [4] (by kernel_rfl) (by kernel_rfl) (by kernel_rfl))
            ) ?_
        refine CodeOk.ret ?_
        have h65 := Option.some.inj h65
        subst h65
        exact Ends.one' (r := V.bool false) [] (.inr rfl) rfl (by kernel_rfl) (by kernel_rfl) (by kernel_rfl) (by kernel_rfl)
      · refine CodeOk.ifF hc78 (by kernel_rfl) ?_
        refine CodeOk.skip ?_
        refine CodeOk.weak (st' := ⟨tl 26 [(0, .sl false false (a0.map encI)), (1, .sl false false (a1.map encI)), (5, V.int y35), (25, V.bool (e51 != e52))], []⟩) (Weak.refl _) ?_
        refine CodeOk.endR (tl 26 [(0, .sl false false (a0.map encI)), (1, .sl false false (a1.map encI)), (5, V.int (IntKind.wrap .i64 (y35 + 1)))]) [] mix (by
            refine W.run D_ok 3 140 (by kernel_rfl) ?_
            exact W.fin (by decide) (by kernel_rfl) (Weak.sel [] [0, 1, 5] (by kernel_rfl) (by kernel_rfl) (by kernel_rfl))
            ) (fun st hw => ?_)
        exact ih66 (a0, a1, (IntKind.wrap .i64 (y35 + 1))) h65 _ (hw.trans (Weak.sel [] [0, 1, 5] (by kernel_rfl) (by kernel_rfl) (by kernel_rfl)))
    · refine CodeOk.ifF hc68 (by kernel_rfl) ?_
      refine CodeOk.exit ?_
      refine CodeOk.weak (st' := ⟨tl 26 [(0, .sl false false (a0.map encI)), (1, .sl false false (a1.map encI)), (5, V.int y35), (14, V.bool (decide (y35 < (a0.length : Int))))], []⟩) (Weak.refl _) ?_
      refine CodeOk.cutR (tl 26 [(4, V.bool true)]) [] mix (by
          refine W.run D_ok 1 140 (by kernel_rfl) ?_
          exact W.fin (by decide) (by kernel_rfl) (Weak.sel [] [4] (by kernel_rfl) (by kernel_rfl) (by kernel_rfl))
          ) ?_
      refine CodeOk.ret ?_
      have h65 := Option.some.inj h65
      subst h65
      exact Ends.one' (r := V.bool true) [] (.inr rfl) rfl (by kernel_rfl) (by kernel_rfl) (by kernel_rfl) (by kernel_rfl)

theorem cok36 : callOk Try.prog 36 := fun _ _ => Try.call36 _ _

/-! ### laws.szTokenS -/
def m_laws_szTokenS_l1 (N : Nat) : Nat → ((List (SToken)) × Int × Int) → Option Int
  | 0, _ => none
  | n1 + 1, (a0, y37, y38) => bif (decide (y38 < (a0.length : Int))) then Option.bind (ix a0 y38) fun e55 => Option.bind (m_laws_szToken e55 y37) fun r56 => bif (decide (r56 < 0)) then some (-1) else ((m_laws_szTokenS_l1 N n1) (a0, r56, (IntKind.wrap .i64 (y38 + 1)))) else (some y37)
def m_laws_szTokenS (N : Nat) (a0 : List (SToken)) (a1 : Int) : Option Int :=
  bif (decide ((IntKind.wrap .i64 (a1 - (a0.length : Int))) < 0)) then some (-1) else (m_laws_szTokenS_l1 N N (a0, (IntKind.wrap .i64 (a1 - (a0.length : Int))), 0))

theorem m_laws_szTokenS_ok (N : Nat) (a0 : List (SToken)) (a1 : Int) {r : Int} (h : m_laws_szTokenS N a0 a1 = some r) :
    AC Try.prog GG 15 [.sl false false (a0.map encSToken), V.int a1] [] (V.int r) [] := by
  rw [m_laws_szTokenS] at h
  refine AC.enter Try.func15 rfl ?_
  refine CodeOk.cutR (tl 27 [(0, .sl false false (a0.map encSToken)), (1, V.int a1)]) [] mix (by
      refine W.run D_ok 1 100 (by kernel_rfl) ?_
      exact W.fin (by decide) (by kernel_rfl) (Weak.sel [] [0, 1] (by kernel_rfl) (by kernel_rfl) (by kernel_rfl))
      ) ?_
  refine CodeOk.cutR (tl 27 [(0, .sl false false (a0.map encSToken)), (1, V.int (IntKind.wrap .i64 (a1 - (a0.length : Int))))]) [] mix (by
      refine W.run D_ok 2 100 (by kernel_rfl) ?_
      refine W.len D_ok encSToken a0 [] (by kernel_rfl) (by kernel_rfl) ?_
      refine W.run D_ok 2 100 (by kernel_rfl) ?_
      exact W.fin (by decide) (by kernel_rfl) (Weak.sel [] [0, 1] (by kernel_rfl) (by kernel_rfl) (by kernel_rfl))
      ) ?_
  refine CodeOk.seq' ?_
  refine CodeOk.cutR (tl 27 [(0, .sl false false (a0.map encSToken)), (1, V.int (IntKind.wrap .i64 (a1 - (a0.length : Int)))), (11, V.bool (decide ((IntKind.wrap .i64 (a1 - (a0.length : Int))) < 0)))]) [] mix (by
      refine W.run D_ok 2 100 (by kernel_rfl) ?_
      exact W.fin (by decide) (by kernel_rfl) (Weak.sel [] [0, 1, 11] (by kernel_rfl) (by kernel_rfl) (by kernel_rfl))
      ) ?_
  rcases cond_some h with ⟨hc2, h⟩ | ⟨hc2, h⟩
  · refine CodeOk.ifT hc2 (by kernel_rfl) ?_
    refine CodeOk.cutR (tl 27 [(4, V.int (-1))]) [] mix (by
        refine W.run D_ok 1 100 (by kernel_rfl) ?_
        exact W.fin (by decide) (by kernel_rfl) (Weak.sel [] [4] (by kernel_rfl) (by kernel_rfl) (by kernel_rfl))
        ) ?_
    refine CodeOk.ret ?_
    have h := Option.some.inj h
    subst h
    exact Ends.one' (r := V.int (-1)) [] (.inr rfl) rfl (by kernel_rfl) (by kernel_rfl) (by kernel_rfl) (by kernel_rfl)
  · refine CodeOk.ifF hc2 (by kernel_rfl) ?_
    refine CodeOk.skip ?_
    refine CodeOk.weak (st' := ⟨tl 27 [(0, .sl false false (a0.map encSToken)), (1, V.int (IntKind.wrap .i64 (a1 - (a0.length : Int)))), (11, V.bool (decide ((IntKind.wrap .i64 (a1 - (a0.length : Int))) < 0)))], []⟩) (Weak.refl _) ?_
    refine CodeOk.seq' ?_
    refine CodeOk.cutR (tl 27 [(0, .sl false false (a0.map encSToken)), (1, V.int (IntKind.wrap .i64 (a1 - (a0.length : Int)))), (5, V.int 0)]) [] mix (by
        refine W.run D_ok 1 100 (by kernel_rfl) ?_
        exact W.fin (by decide) (by kernel_rfl) (Weak.sel [] [0, 1, 5] (by kernel_rfl) (by kernel_rfl) (by kernel_rfl))
        ) ?_
    refine CodeOk.block' ?_
    refine CodeOk.loopJ (fun (⟨a0, y37, y38⟩ : ((List (SToken)) × Int × Int)) => ⟨tl 27 [(0, .sl false false (a0.map encSToken)), (1, V.int y37), (5, V.int y38)], []⟩) (fun n i => m_laws_szTokenS_l1 N n i = some r) (n0 := N) (i0 := (a0, (IntKind.wrap .i64 (a1 - (a0.length : Int))), 0)) (Weak.sel [] [0, 1, 5] (by kernel_rfl) (by kernel_rfl) (by kernel_rfl)) h (fun i h => by simp [m_laws_szTokenS_l1] at h) ?_
    rintro n1 ⟨a0, y37, y38⟩ h65 ih66
    rw [m_laws_szTokenS_l1] at h65
    refine CodeOk.seq' ?_
    refine CodeOk.cutR (tl 27 [(0, .sl false false (a0.map encSToken)), (1, V.int y37), (5, V.int y38), (15, V.bool (decide (y38 < (a0.length : Int))))]) [] mix (by
        refine W.run D_ok 2 140 (by kernel_rfl) ?_
        refine W.len D_ok encSToken a0 [] (by kernel_rfl) (by kernel_rfl) ?_
        refine W.run D_ok 1 140 (by kernel_rfl) ?_
        exact W.fin (by decide) (by kernel_rfl) (Weak.sel [] [0, 1, 5, 15] (by kernel_rfl) (by kernel_rfl) (by kernel_rfl))
        ) ?_
    rcases cond_some h65 with ⟨hc68, h65⟩ | ⟨hc68, h65⟩
    · refine CodeOk.ifT hc68 (by kernel_rfl) ?_
      refine CodeOk.skip ?_
      refine CodeOk.weak (st' := ⟨tl 27 [(0, .sl false false (a0.map encSToken)), (1, V.int y37), (5, V.int y38), (15, V.bool (decide (y38 < (a0.length : Int))))], []⟩) (Weak.refl _) ?_
      refine CodeOk.seq' ?_
      refine CodeOk.block' ?_
      obtain ⟨e55, hx76, h65⟩ := bind_some h65
      obtain ⟨r56, hx77, h65⟩ := bind_some h65
      refine CodeOk.cutR (tl 27 [(0, .sl false false (a0.map encSToken)), (1, V.int r56), (5, V.int y38)]) [] mix (by
          refine W.run D_ok 2 140 (by kernel_rfl) ?_
          refine W.ixD D_ok encSToken hx76 3 (by kernel_rfl) (by kernel_rfl) ?_
          refine W.run D_ok 2 140 (by kernel_rfl) ?_
          refine W.call0 (m_laws_szToken_ok e55 y37 hx77) cok31 rfl (by kernel_rfl) ?_
          refine W.run D_ok 1 140 (by kernel_rfl) ?_
          exact W.fin (by decide) (by kernel_rfl) (Weak.sel [] [0, 1, 5] (by kernel_rfl) (by kernel_rfl) (by kernel_rfl))
          ) ?_
      refine CodeOk.cutR (tl 27 [(0, .sl false false (a0.map encSToken)), (1, V.int r56), (5, V.int y38), (25, V.bool (decide (r56 < 0)))]) [] mix (by
          refine W.run D_ok 2 140 (by kernel_rfl) ?_
          exact W.fin (by decide) (by kernel_rfl) (Weak.sel [] [0, 1, 5, 25] (by kernel_rfl) (by kernel_rfl) (by kernel_rfl))
          ) ?_
      rcases cond_some h65 with ⟨hc78, h65⟩ | ⟨hc78, h65⟩
      · refine CodeOk.ifT hc78 (by kernel_rfl) ?_
        refine CodeOk.cutR (tl 27 [(4, V.int (-1))]) [] mix (by
            refine W.run D_ok 1 140 (by kernel_rfl) ?_
            exact W.fin (by decide) (by kernel_rfl) (Weak.sel [] [4] (by kernel_rfl) (by kernel_rfl) (by kernel_rfl))
            ) ?_
        refine CodeOk.ret ?_
        have h65 := Option.some.inj h65
        subst h65
        exact Ends.one' (r := V.int (-1)) [] (.inr rfl) rfl (by kernel_rfl) (by kernel_rfl) (by kernel_rfl) (by kernel_rfl)
      · refine CodeOk.ifF hc78 (by kernel_rfl) ?_
        refine CodeOk.skip ?_
        refine CodeOk.weak (st' := ⟨tl 27 [(0, .sl false false (a0.map encSToken)), (1, V.int r56), (5, V.int y38), (25, V.bool (decide (r56 < 0)))], []⟩) (Weak.refl _) ?_
        refine CodeOk.endR (tl 27 [(0, .sl false false (a0.map encSToken)), (1, V.int r56), (5, V.int (IntKind.wrap .i64 (y38 + 1)))]) [] mix (by
            refine W.run D_ok 3 140 (by kernel_rfl) ?_
            exact W.fin (by decide) (by kernel_rfl) (Weak.sel [] [0, 1, 5] (by kernel_rfl) (by kernel_rfl) (by kernel_rfl))
            ) (fun st hw => ?_)
        exact ih66 (a0, r56, (IntKind.wrap .i64 (y38 + 1))) h65 _ (hw.trans (Weak.sel [] [0, 1, 5] (by kernel_rfl) (by kernel_rfl) (by kernel_rfl)))
    · refine CodeOk.ifF hc68 (by kernel_rfl) ?_
      refine CodeOk.exit ?_
      refine CodeOk.weak (st' := ⟨tl 27 [(0, .sl false false (a0.map encSToken)), (1, V.int y37), (5, V.int y38), (15, V.bool (decide (y38 < (a0.length : Int))))], []⟩) (Weak.refl _) ?_
      refine CodeOk.cutR (tl 27 [(4, V.int y37)]) [] mix (by
          refine W.run D_ok 2 140 (by kernel_rfl) ?_
          exact W.fin (by decide) (by kernel_rfl) (Weak.sel [] [4] (by kernel_rfl) (by kernel_rfl) (by kernel_rfl))
          ) ?_
      refine CodeOk.ret ?_
      have h65 := Option.some.inj h65
      subst h65
      exact Ends.one' (r := V.int y37) [] (.inr rfl) rfl (by kernel_rfl) (by kernel_rfl) (by kernel_rfl) (by kernel_rfl)

theorem cok15 : callOk Try.prog 15 := fun _ _ => Try.call15 _ _

/-! ### laws.toTokenS -/
def m_laws_toTokenS_l1 (N : Nat) : Nat → ((List (SToken)) × Int × (List (SToken))) → Option (List (SToken))
  | 0, _ => none
  | n1 + 1, (a0, y71, y72) => bif (decide (y71 < (a0.length : Int))) then Option.bind (ix a0 y71) fun e103 => Option.bind (m_laws_toToken e103) fun r104 => Option.bind (ix y72 y71) fun e105 => Option.bind (upd y72 y71 r104) fun x106 => (m_laws_toTokenS_l1 N n1) (a0, (IntKind.wrap .i64 (y71 + 1)), x106) else (some y72)
def m_laws_toTokenS (N : Nat) (a0 : List (SToken)) : Option (List (SToken)) :=
  Option.bind (mk 32 (⟨0, [], 0⟩ : SToken) (a0.length : Int)) fun x2 => m_laws_toTokenS_l1 N N (a0, 0, x2)

theorem m_laws_toTokenS_ok (N : Nat) (a0 : List (SToken)) {r : (List (SToken))} (h : m_laws_toTokenS N a0 = some r) :
    AC Try.prog GG 17 [.sl false false (a0.map encSToken)] [] (.own 100) [(100, .vec false 49 3 (r.map encSToken))] := by
  rw [m_laws_toTokenS] at h
  refine AC.enter Try.func17 rfl ?_
  refine CodeOk.cutR (tl 23 [(0, .sl false false (a0.map encSToken))]) [] mix (by
      refine W.run D_ok 1 100 (by kernel_rfl) ?_
      exact W.fin (by decide) (by kernel_rfl) (Weak.sel [] [0] (by kernel_rfl) (by kernel_rfl) (by kernel_rfl))
      ) ?_
  obtain ⟨x2, hx2, h⟩ := bind_some h
  refine CodeOk.cutR (tl 23 [(0, .sl false false (a0.map encSToken)), (3, .own 100)]) [(100, .vec false 49 3 (x2.map encSToken))] mix (by
      refine W.run D_ok 1 100 (by kernel_rfl) ?_
      refine W.len D_ok encSToken a0 [] (by kernel_rfl) (by kernel_rfl) ?_
      refine W.mk D_ok encSToken 32 hx2 100 49 3 [.int .i64 0, .string ⟨#[]⟩, .int .i64 0] (by kernel_rfl) (by kernel_rfl) ?_
      refine W.run D_ok 1 101 (by kernel_rfl) ?_
      exact W.fin (by decide) (by kernel_rfl) (Weak.sel [(100, 100)] [0, 3] (by kernel_rfl) (by kernel_rfl) (by kernel_rfl))
      ) ?_
  refine CodeOk.seq' ?_
  refine CodeOk.cutR (tl 23 [(0, .sl false false (a0.map encSToken)), (3, .own 100), (4, V.int 0)]) [(100, .vec false 49 3 (x2.map encSToken))] mix (by
      refine W.run D_ok 1 101 (by kernel_rfl) ?_
      exact W.fin (by decide) (by kernel_rfl) (Weak.sel [(100, 100)] [0, 3, 4] (by kernel_rfl) (by kernel_rfl) (by kernel_rfl))
      ) ?_
  refine CodeOk.block' ?_
  refine CodeOk.loopJ (fun (⟨a0, y71, y72⟩ : ((List (SToken)) × Int × (List (SToken)))) => ⟨tl 23 [(0, .sl false false (a0.map encSToken)), (3, .own 100), (4, V.int y71)], [(100, .vec false 49 3 (y72.map encSToken))]⟩) (fun n i => m_laws_toTokenS_l1 N n i = some r) (n0 := N) (i0 := (a0, 0, x2)) (Weak.sel [(100, 100)] [0, 3, 4] (by kernel_rfl) (by kernel_rfl) (by kernel_rfl)) h (fun i h => by simp [m_laws_toTokenS_l1] at h) ?_
  rintro n1 ⟨a0, y71, y72⟩ h95 ih96
  rw [m_laws_toTokenS_l1] at h95
  refine CodeOk.seq' ?_
  refine CodeOk.cutR (tl 23 [(0, .sl false false (a0.map encSToken)), (3, .own 100), (4, V.int y71), (11, V.bool (decide (y71 < (a0.length : Int))))]) [(100, .vec false 49 3 (y72.map encSToken))] mix (by
      refine W.run D_ok 2 141 (by kernel_rfl) ?_
      refine W.len D_ok encSToken a0 [] (by kernel_rfl) (by kernel_rfl) ?_
      refine W.run D_ok 1 141 (by kernel_rfl) ?_
      exact W.fin (by decide) (by kernel_rfl) (Weak.sel [(100, 100)] [0, 3, 4, 11] (by kernel_rfl) (by kernel_rfl) (by kernel_rfl))
      ) ?_
  rcases cond_some h95 with ⟨hc98, h95⟩ | ⟨hc98, h95⟩
  · refine CodeOk.ifT hc98 (by kernel_rfl) ?_
    refine CodeOk.skip ?_
    refine CodeOk.weak (st' := ⟨tl 23 [(0, .sl false false (a0.map encSToken)), (3, .own 100), (4, V.int y71), (11, V.bool (decide (y71 < (a0.length : Int))))], [(100, .vec false 49 3 (y72.map encSToken))]⟩) (Weak.refl _) ?_
    refine CodeOk.seq' ?_
    refine CodeOk.block' ?_
    obtain ⟨e103, hx111, h95⟩ := bind_some h95
    obtain ⟨r104, hx112, h95⟩ := bind_some h95
    obtain ⟨e105, hx113, h95⟩ := bind_some h95
    obtain ⟨x106, hu114, h95⟩ := bind_some h95
    refine CodeOk.endR (tl 23 [(0, .sl false false (a0.map encSToken)), (3, .own 100), (4, V.int y71)]) [(100, .vec false 49 3 (x106.map encSToken))] mix (by
        refine W.run D_ok 4 141 (by kernel_rfl) ?_
        refine W.ixD D_ok encSToken hx111 3 (by kernel_rfl) (by kernel_rfl) ?_
        refine W.run D_ok 1 141 (by kernel_rfl) ?_
        refine W.call0 (m_laws_toToken_ok e103 hx112) cok32 rfl (by kernel_rfl) ?_
        refine W.ixO D_ok encSToken hx113 100 3 (by kernel_rfl) ?_
        refine W.stO D_ok encSToken (x' := r104) hx113 hu114 (j := 100) (nn := false) (ety := 49) (sz := 3) (b := 0) (ys := [V.int r104.Kind, V.str r104.Text, V.int r104.At]) (C := []) (R := []) (by kernel_rfl) (by kernel_rfl) ?_
        exact W.fin (by decide) (by kernel_rfl) (Weak.sel [(100, 100)] [0, 3, 4] (by kernel_rfl) (by kernel_rfl) (by kernel_rfl))
        ) (fun st hw => ?_)
    refine CodeOk.weak (st' := ⟨tl 23 [(0, .sl false false (a0.map encSToken)), (3, .own 100), (4, V.int y71)], [(100, .vec false 49 3 (x106.map encSToken))]⟩) hw ?_
    refine CodeOk.endR (tl 23 [(0, .sl false false (a0.map encSToken)), (3, .own 100), (4, V.int (IntKind.wrap .i64 (y71 + 1)))]) [(100, .vec false 49 3 (x106.map encSToken))] mix (by
        refine W.run D_ok 3 141 (by kernel_rfl) ?_
        exact W.fin (by decide) (by kernel_rfl) (Weak.sel [(100, 100)] [0, 3, 4] (by kernel_rfl) (by kernel_rfl) (by kernel_rfl))
        ) (fun st hw => ?_)
    exact ih96 (a0, (IntKind.wrap .i64 (y71 + 1)), x106) h95 _ (hw.trans (Weak.sel [(100, 100)] [0, 3, 4] (by kernel_rfl) (by kernel_rfl) (by kernel_rfl)))
  · refine CodeOk.ifF hc98 (by kernel_rfl) ?_
    refine CodeOk.exit ?_
    refine CodeOk.weak (st' := ⟨tl 23 [(0, .sl false false (a0.map encSToken)), (3, .own 100), (4, V.int y71), (11, V.bool (decide (y71 < (a0.length : Int))))], [(100, .vec false 49 3 (y72.map encSToken))]⟩) (Weak.refl _) ?_
    refine CodeOk.cutR (tl 23 [(2, .own 100)]) [(100, .vec false 49 3 (y72.map encSToken))] mix (by
        refine W.run D_ok 2 141 (by kernel_rfl) ?_
        exact W.fin (by decide) (by kernel_rfl) (Weak.sel [(100, 100)] [2] (by kernel_rfl) (by kernel_rfl) (by kernel_rfl))
        ) ?_
    refine CodeOk.ret ?_
    have h95 := Option.some.inj h95
    subst h95
    exact Ends.one' (r := .own 100) [(100, 100)] (.inr rfl) rfl (by kernel_rfl) (by kernel_rfl) (by kernel_rfl) (by kernel_rfl)

theorem cok17 : callOk Try.prog 17 := fun _ _ => Try.call17 _ _

/-! ### laws.eqTokenS -/
def m_laws_eqTokenS_l1 (N : Nat) : Nat → ((List (SToken)) × (List (SToken)) × Int) → Option Bool
  | 0, _ => none
  | n1 + 1, (a0, a1, y51) => bif (decide (y51 < (a0.length : Int))) then Option.bind (ix a0 y51) fun e74 => Option.bind (ix a1 y51) fun e75 => Option.bind (m_laws_eqToken e74 e75) fun r76 => bif (!r76) then some false else ((m_laws_eqTokenS_l1 N n1) (a0, a1, (IntKind.wrap .i64 (y51 + 1)))) else (some true)
def m_laws_eqTokenS (N : Nat) (a0 : List (SToken)) (a1 : List (SToken)) : Option Bool :=
  bif ((a0.length : Int) != (a1.length : Int)) then some false else (m_laws_eqTokenS_l1 N N (a0, a1, 0))

theorem m_laws_eqTokenS_ok (N : Nat) (a0 : List (SToken)) (a1 : List (SToken)) {r : Bool} (h : m_laws_eqTokenS N a0 a1 = some r) :
    AC Try.prog GG 19 [.sl false false (a0.map encSToken), .sl false false (a1.map encSToken)] [] (V.bool r) [] := by
  rw [m_laws_eqTokenS] at h
  refine AC.enter Try.func19 rfl ?_
  refine CodeOk.cutR (tl 27 [(0, .sl false false (a0.map encSToken)), (1, .sl false false (a1.map encSToken))]) [] mix (by
      refine W.run D_ok 1 100 (by kernel_rfl) ?_
      exact W.fin (by decide) (by kernel_rfl) (Weak.sel [] [0, 1] (by kernel_rfl) (by kernel_rfl) (by kernel_rfl))
      ) ?_
  refine CodeOk.seq' ?_
  refine CodeOk.cutR (tl 27 [(0, .sl false false (a0.map encSToken)), (1, .sl false false (a1.map encSToken)), (10, V.bool ((a0.length : Int) != (a1.length : Int)))]) [] mix (by
      refine W.run D_ok 1 100 (by kernel_rfl) ?_
      refine W.len D_ok encSToken a0 [] (by kernel_rfl) (by kernel_rfl) ?_
      refine W.run D_ok 1 100 (by kernel_rfl) ?_
      refine W.len D_ok encSToken a1 [] (by kernel_rfl) (by kernel_rfl) ?_
      refine W.run D_ok 1 100 (by kernel_rfl) ?_
      exact W.fin (by decide) (by kernel_rfl) (Weak.sel [] [0, 1, 10] (by kernel_rfl) (by kernel_rfl) (by kernel_rfl))
      ) ?_
  rcases cond_some h with ⟨hc2, h⟩ | ⟨hc2, h⟩
  · refine CodeOk.ifT hc2 (by kernel_rfl) ?_
    refine CodeOk.cutR (tl 27 [(4, V.bool false)]) [] mix (by
        refine W.run D_ok 1 100 (by kernel_rfl) ?_
        exact W.fin (by decide) (by kernel_rfl) (Weak.sel [] [4] (by kernel_rfl) (by kernel_rfl) (by kernel_rfl))
        ) ?_
    refine CodeOk.ret ?_
    have h := Option.some.inj h
    subst h
    exact Ends.one' (r := V.bool false) [] (.inr rfl) rfl (by kernel_rfl) (by kernel_rfl) (by kernel_rfl) (by kernel_rfl)
  · refine CodeOk.ifF hc2 (by kernel_rfl) ?_
    refine CodeOk.skip ?_
    refine CodeOk.weak (st' := ⟨tl 27 [(0, .sl false false (a0.map encSToken)), (1, .sl false false (a1.map encSToken)), (10, V.bool ((a0.length : Int) != (a1.length : Int)))], []⟩) (Weak.refl _) ?_
    refine CodeOk.seq' ?_
    refine CodeOk.cutR (tl 27 [(0, .sl false false (a0.map encSToken)), (1, .sl false false (a1.map encSToken)), (5, V.int 0)]) [] mix (by
        refine W.run D_ok 1 100 (by kernel_rfl) ?_
        exact W.fin (by decide) (by kernel_rfl) (Weak.sel [] [0, 1, 5] (by kernel_rfl) (by kernel_rfl) (by kernel_rfl))
        ) ?_
    refine CodeOk.block' ?_
    refine CodeOk.loopJ (fun (⟨a0, a1, y51⟩ : ((List (SToken)) × (List (SToken)) × Int)) => ⟨tl 27 [(0, .sl false false (a0.map encSToken)), (1, .sl false false (a1.map encSToken)), (5, V.int y51)], []⟩) (fun n i => m_laws_eqTokenS_l1 N n i = some r) (n0 := N) (i0 := (a0, a1, 0)) (Weak.sel [] [0, 1, 5] (by kernel_rfl) (by kernel_rfl) (by kernel_rfl)) h (fun i h => by simp [m_laws_eqTokenS_l1] at h) ?_
    rintro n1 ⟨a0, a1, y51⟩ h85 ih86
    rw [m_laws_eqTokenS_l1] at h85
    refine CodeOk.seq' ?_
    refine CodeOk.cutR (tl 27 [(0, .sl false false (a0.map encSToken)), (1, .sl false false (a1.map encSToken)), (5, V.int y51), (14, V.bool (decide (y51 < (a0.length : Int))))]) [] mix (by
        refine W.run D_ok 2 140 (by kernel_rfl) ?_
        refine W.len D_ok encSToken a0 [] (by kernel_rfl) (by kernel_rfl) ?_
        refine W.run D_ok 1 140 (by kernel_rfl) ?_
        exact W.fin (by decide) (by kernel_rfl) (Weak.sel [] [0, 1, 5, 14] (by kernel_rfl) (by kernel_rfl) (by kernel_rfl))
        ) ?_
    rcases cond_some h85 with ⟨hc88, h85⟩ | ⟨hc88, h85⟩
    · refine CodeOk.ifT hc88 (by kernel_rfl) ?_
      refine CodeOk.skip ?_
      refine CodeOk.weak (st' := ⟨tl 27 [(0, .sl false false (a0.map encSToken)), (1, .sl false false (a1.map encSToken)), (5, V.int y51), (14, V.bool (decide (y51 < (a0.length : Int))))], []⟩) (Weak.refl _) ?_
      refine CodeOk.seq' ?_
      refine CodeOk.block' ?_
      obtain ⟨e74, hx99, h85⟩ := bind_some h85
      obtain ⟨e75, hx100, h85⟩ := bind_some h85
      obtain ⟨r76, hx101, h85⟩ := bind_some h85
      refine CodeOk.cutR (tl 27 [(0, .sl false false (a0.map encSToken)), (1, .sl false false (a1.map encSToken)), (5, V.int y51), (26, V.bool (!r76))]) [] mix (by
          refine W.run D_ok 2 140 (by kernel_rfl) ?_
          refine W.ixD D_ok encSToken hx99 3 (by kernel_rfl) (by kernel_rfl) ?_
          refine W.run D_ok 3 140 (by kernel_rfl) ?_
          refine W.ixD D_ok encSToken hx100 3 (by kernel_rfl) (by kernel_rfl) ?_
          refine W.run D_ok 1 140 (by kernel_rfl) ?_
          refine W.call0 (m_laws_eqToken_ok e74 e75 hx101) cok33 rfl (by kernel_rfl) ?_
          refine W.run D_ok 1 140 (by kernel_rfl) ?_
          exact W.fin (by decide) (by kernel_rfl) (Weak.sel [] [0, 1, 5, 26] (by kernel_rfl) (by kernel_rfl) (by kernel_rfl))
          ) ?_
      rcases cond_some h85 with ⟨hc102, h85⟩ | ⟨hc102, h85⟩
      · refine CodeOk.ifT hc102 (by kernel_rfl) ?_
        refine CodeOk.cutR (tl 27 [(4, V.bool false)]) [] mix (by
            refine W.run D_ok 1 140 (by kernel_rfl) ?_
            exact W.fin (by decide) (by kernel_rfl) (Weak.sel [] [4] (by kernel_rfl) (by kernel_rfl) (by kernel_rfl))
            ) ?_
        refine CodeOk.ret ?_
        have h85 := Option.some.inj h85
        subst h85
        exact Ends.one' (r := V.bool false) [] (.inr rfl) rfl (by kernel_rfl) (by kernel_rfl) (by kernel_rfl) (by kernel_rfl)
      · refine CodeOk.ifF hc102 (by kernel_rfl) ?_
        refine CodeOk.skip ?_
        refine CodeOk.weak (st' := ⟨tl 27 [(0, .sl false false (a0.map encSToken)), (1, .sl false false (a1.map encSToken)), (5, V.int y51), (26, V.bool (!r76))], []⟩) (Weak.refl _) ?_
        refine CodeOk.endR (tl 27 [(0, .sl false false (a0.map encSToken)), (1, .sl false false (a1.map encSToken)), (5, V.int (IntKind.wrap .i64 (y51 + 1)))]) [] mix (by
            refine W.run D_ok 3 140 (by kernel_rfl) ?_
            exact W.fin (by decide) (by kernel_rfl) (Weak.sel [] [0, 1, 5] (by kernel_rfl) (by kernel_rfl) (by kernel_rfl))
            ) (fun st hw => ?_)
        exact ih86 (a0, a1, (IntKind.wrap .i64 (y51 + 1))) h85 _ (hw.trans (Weak.sel [] [0, 1, 5] (by kernel_rfl) (by kernel_rfl) (by kernel_rfl)))
    · refine CodeOk.ifF hc88 (by kernel_rfl) ?_
      refine CodeOk.exit ?_
      refine CodeOk.weak (st' := ⟨tl 27 [(0, .sl false false (a0.map encSToken)), (1, .sl false false (a1.map encSToken)), (5, V.int y51), (14, V.bool (decide (y51 < (a0.length : Int))))], []⟩) (Weak.refl _) ?_
      refine CodeOk.cutR (tl 27 [(4, V.bool true)]) [] mix (by
          refine W.run D_ok 1 140 (by kernel_rfl) ?_
          exact W.fin (by decide) (by kernel_rfl) (Weak.sel [] [4] (by kernel_rfl) (by kernel_rfl) (by kernel_rfl))
          ) ?_
      refine CodeOk.ret ?_
      have h85 := Option.some.inj h85
      subst h85
      exact Ends.one' (r := V.bool true) [] (.inr rfl) rfl (by kernel_rfl) (by kernel_rfl) (by kernel_rfl) (by kernel_rfl)

theorem cok19 : callOk Try.prog 19 := fun _ _ => Try.call19 _ _

/-! ### spec.TokenAt -/
def m_spec_TokenAt_l1 (N : Nat) : Nat → ((List (SToken)) × Int × Int) → Option Int
  | 0, _ => none
  | n1 + 1, (a0, a1, y75) => bif (decide (y75 < (a0.length : Int))) then Option.bind (Option.bind (ix a0 y75) fun e109 => bif (decide (e109.At ≤ a1)) then Option.bind (ix a0 y75) fun e110 => bif (decide ((IntKind.wrap .i64 (a1 - e110.At)) ≥ 0)) then Option.bind (ix a0 y75) fun e111 => Option.bind (ix a0 y75) fun e112 => some (decide ((IntKind.wrap .i64 (a1 - e111.At)) < (e112.Text.length : Int))) else (some false) else (some false)) fun y108 => bif y108 then some y75 else ((m_spec_TokenAt_l1 N n1) (a0, a1, (IntKind.wrap .i64 (y75 + 1)))) else (some (-1))
def m_spec_TokenAt (N : Nat) (a0 : List (SToken)) (a1 : Int) : Option Int :=
  m_spec_TokenAt_l1 N N (a0, a1, 0)

theorem m_spec_TokenAt_ok (N : Nat) (a0 : List (SToken)) (a1 : Int) {r : Int} (h : m_spec_TokenAt N a0 a1 = some r) :
    AC Try.prog GG 16 [.sl false false (a0.map encSToken), V.int a1] [] (V.int r) [] := by
  rw [m_spec_TokenAt] at h
  refine AC.enter Try.func16 rfl ?_
  refine CodeOk.cutR (tl 46 [(0, .sl false false (a0.map encSToken)), (1, V.int a1)]) [] mix (by
      refine W.run D_ok 1 100 (by kernel_rfl) ?_
      exact W.fin (by decide) (by kernel_rfl) (Weak.sel [] [0, 1] (by kernel_rfl) (by kernel_rfl) (by kernel_rfl))
      ) ?_
  refine CodeOk.seq' ?_
  refine CodeOk.cutR (tl 46 [(0, .sl false false (a0.map encSToken)), (1, V.int a1), (5, V.int 0)]) [] mix (by
      refine W.run D_ok 1 100 (by kernel_rfl) ?_
      exact W.fin (by decide) (by kernel_rfl) (Weak.sel [] [0, 1, 5] (by kernel_rfl) (by kernel_rfl) (by kernel_rfl))
      ) ?_
  refine CodeOk.block' ?_
  refine CodeOk.loopJ (fun (⟨a0, a1, y75⟩ : ((List (SToken)) × Int × Int)) => ⟨tl 46 [(0, .sl false false (a0.map encSToken)), (1, V.int a1), (5, V.int y75)], []⟩) (fun n i => m_spec_TokenAt_l1 N n i = some r) (n0 := N) (i0 := (a0, a1, 0)) (Weak.sel [] [0, 1, 5] (by kernel_rfl) (by kernel_rfl) (by kernel_rfl)) h (fun i h => by simp [m_spec_TokenAt_l1] at h) ?_
  rintro n1 ⟨a0, a1, y75⟩ h153 ih154
  rw [m_spec_TokenAt_l1] at h153
  refine CodeOk.seq' ?_
  refine CodeOk.cutR (tl 46 [(0, .sl false false (a0.map encSToken)), (1, V.int a1), (5, V.int y75), (9, V.bool (decide (y75 < (a0.length : Int))))]) [] mix (by
      refine W.run D_ok 2 140 (by kernel_rfl) ?_
      refine W.len D_ok encSToken a0 [] (by kernel_rfl) (by kernel_rfl) ?_
      refine W.run D_ok 1 140 (by kernel_rfl) ?_
      exact W.fin (by decide) (by kernel_rfl) (Weak.sel [] [0, 1, 5, 9] (by kernel_rfl) (by kernel_rfl) (by kernel_rfl))
      ) ?_
  rcases cond_some h153 with ⟨hc156, h153⟩ | ⟨hc156, h153⟩
  · refine CodeOk.ifT hc156 (by kernel_rfl) ?_
    refine CodeOk.skip ?_
    refine CodeOk.weak (st' := ⟨tl 46 [(0, .sl false false (a0.map encSToken)), (1, V.int a1), (5, V.int y75), (9, V.bool (decide (y75 < (a0.length : Int))))], []⟩) (Weak.refl _) ?_
    refine CodeOk.seq' ?_
    refine CodeOk.block' ?_
    obtain ⟨y108, hv177, h153⟩ := bind_some h153
    refine CodeOk.cutR (tl 46 [(0, .sl false false (a0.map encSToken)), (1, V.int a1), (5, V.int y75), (44, V.bool y108)]) [] mix (by
        refine W.run D_ok 2 140 (by kernel_rfl) ?_
        obtain ⟨e109, hx178, hv177⟩ := bind_some hv177
        refine W.ixD D_ok encSToken hx178 3 (by kernel_rfl) (by kernel_rfl) ?_
        refine W.run D_ok 5 140 (by kernel_rfl) ?_
        rcases cond_some hv177 with ⟨hc179, hv177⟩ | ⟨hc179, hv177⟩
        · refine W.is 19 hc179 (by kernel_rfl) ?_
          refine W.run D_ok 3 140 (by kernel_rfl) ?_
          obtain ⟨e110, hx180, hv177⟩ := bind_some hv177
          refine W.ixD D_ok encSToken hx180 3 (by kernel_rfl) (by kernel_rfl) ?_
          refine W.run D_ok 6 140 (by kernel_rfl) ?_
          rcases cond_some hv177 with ⟨hc181, hv177⟩ | ⟨hc181, hv177⟩
          · refine W.is 29 hc181 (by kernel_rfl) ?_
            refine W.run D_ok 3 140 (by kernel_rfl) ?_
            obtain ⟨e111, hx182, hv177⟩ := bind_some hv177
            refine W.ixD D_ok encSToken hx182 3 (by kernel_rfl) (by kernel_rfl) ?_
            refine W.run D_ok 5 140 (by kernel_rfl) ?_
            obtain ⟨e112, hx183, hv177⟩ := bind_some hv177
            refine W.ixD D_ok encSToken hx183 3 (by kernel_rfl) (by kernel_rfl) ?_
            refine W.run D_ok 5 140 (by kernel_rfl) ?_
            have hv177 := Option.some.inj hv177
            subst hv177
            exact W.fin (by decide) (by kernel_rfl) (Weak.sel [] [0, 1, 5, 44] (by kernel_rfl) (by kernel_rfl) (by kernel_rfl))
          · refine W.is 29 hc181 (by kernel_rfl) ?_
            refine W.run D_ok 15 140 (by kernel_rfl) ?_
            have hv177 := Option.some.inj hv177
            subst hv177
            exact W.fin (by decide) (by kernel_rfl) (Weak.sel [] [0, 1, 5, 44] (by kernel_rfl) (by kernel_rfl) (by kernel_rfl))
        · refine W.is 19 hc179 (by kernel_rfl) ?_
          refine W.run D_ok 25 140 (by kernel_rfl) ?_
          have hv177 := Option.some.inj hv177
          subst hv177
          exact W.fin (by decide) (by kernel_rfl) (Weak.sel [] [0, 1, 5, 44] (by kernel_rfl) (by kernel_rfl) (by kernel_rfl))
        ) ?_
    rcases cond_some h153 with ⟨hc184, h153⟩ | ⟨hc184, h153⟩
    · refine CodeOk.ifT hc184 (by kernel_rfl) ?_
      refine CodeOk.cutR (tl 46 [(4, V.int y75)]) [] mix (by
          refine W.run D_ok 2 140 (by kernel_rfl) ?_
          exact W.fin (by decide) (by kernel_rfl) (Weak.sel [] [4] (by kernel_rfl) (by kernel_rfl) (by kernel_rfl))
          ) ?_
      refine CodeOk.ret ?_
      have h153 := Option.some.inj h153
      subst h153
      exact Ends.one' (r := V.int y75) [] (.inr rfl) rfl (by kernel_rfl) (by kernel_rfl) (by kernel_rfl) (by kernel_rfl)
    · refine CodeOk.ifF hc184 (by kernel_rfl) ?_
      refine CodeOk.skip ?_
      refine CodeOk.weak (st' := ⟨tl 46 [(0, .sl false false (a0.map encSToken)), (1, V.int a1), (5, V.int y75), (44, V.bool y108)], []⟩) (Weak.refl _) ?_
      refine CodeOk.endR (tl 46 [(0, .sl false false (a0.map encSToken)), (1, V.int a1), (5, V.int (IntKind.wrap .i64 (y75 + 1)))]) [] mix (by
          refine W.run D_ok 3 140 (by kernel_rfl) ?_
          exact W.fin (by decide) (by kernel_rfl) (Weak.sel [] [0, 1, 5] (by kernel_rfl) (by kernel_rfl) (by kernel_rfl))
          ) (fun st hw => ?_)
      exact ih154 (a0, a1, (IntKind.wrap .i64 (y75 + 1))) h153 _ (hw.trans (Weak.sel [] [0, 1, 5] (by kernel_rfl) (by kernel_rfl) (by kernel_rfl)))
  · refine CodeOk.ifF hc156 (by kernel_rfl) ?_
    refine CodeOk.exit ?_
    refine CodeOk.weak (st' := ⟨tl 46 [(0, .sl false false (a0.map encSToken)), (1, V.int a1), (5, V.int y75), (9, V.bool (decide (y75 < (a0.length : Int))))], []⟩) (Weak.refl _) ?_
    refine CodeOk.cutR (tl 46 [(4, V.int (-1))]) [] mix (by
        refine W.run D_ok 1 140 (by kernel_rfl) ?_
        exact W.fin (by decide) (by kernel_rfl) (Weak.sel [] [4] (by kernel_rfl) (by kernel_rfl) (by kernel_rfl))
        ) ?_
    refine CodeOk.ret ?_
    have h153 := Option.some.inj h153
    subst h153
    exact Ends.one' (r := V.int (-1)) [] (.inr rfl) rfl (by kernel_rfl) (by kernel_rfl) (by kernel_rfl) (by kernel_rfl)

theorem cok16 : callOk Try.prog 16 := fun _ _ => Try.call16 _ _

/-! ### impl.TokenAt -/
def m_impl_TokenAt_l1 (N : Nat) : Nat → (Int × (List (SToken)) × Int) → Option Int
  | 0, _ => none
  | n1 + 1, (a1, a0, y27) => bif (decide (y27 < (a0.length : Int))) then Option.bind (ix a0 y27) fun e39 => Option.bind (bif (decide (e39.At ≤ a1)) then some (decide ((IntKind.wrap .u64 ((IntKind.wrap .u64 a1) - (IntKind.wrap .u64 e39.At))) < (IntKind.wrap .u64 (e39.Text.length : Int)))) else (some false)) fun y40 => bif y40 then some y27 else ((m_impl_TokenAt_l1 N n1) (a1, a0, (IntKind.wrap .i64 (y27 + 1)))) else (some (-1))
def m_impl_TokenAt (N : Nat) (a0 : List (SToken)) (a1 : Int) : Option Int :=
  m_impl_TokenAt_l1 N N (a1, a0, 0)

theorem m_impl_TokenAt_ok (N : Nat) (a0 : List (SToken)) (a1 : Int) {r : Int} (h : m_impl_TokenAt N a0 a1 = some r) :
    AC Try.prog GG 18 [.sl false false (a0.map encSToken), V.int a1] [] (V.int r) [] := by
  rw [m_impl_TokenAt] at h
  refine AC.enter Try.func18 rfl ?_
  refine CodeOk.cutR (tl 33 [(0, .sl false false (a0.map encSToken)), (1, V.int a1)]) [] mix (by
      refine W.run D_ok 1 100 (by kernel_rfl) ?_
      exact W.fin (by decide) (by kernel_rfl) (Weak.sel [] [0, 1] (by kernel_rfl) (by kernel_rfl) (by kernel_rfl))
      ) ?_
  refine CodeOk.seq' ?_
  refine CodeOk.cutR (tl 33 [(1, V.int a1), (7, .sl false false (a0.map encSToken)), (8, V.int (a0.length : Int)), (9, V.int 0)]) [] mix (by
      refine W.run D_ok 1 100 (by kernel_rfl) ?_
      refine W.len D_ok encSToken a0 [] (by kernel_rfl) (by kernel_rfl) ?_
      refine W.run D_ok 1 100 (by kernel_rfl) ?_
      exact W.fin (by decide) (by kernel_rfl) (Weak.sel [] [1, 7, 8, 9] (by kernel_rfl) (by kernel_rfl) (by kernel_rfl))
      ) ?_
  refine CodeOk.block' ?_
  refine CodeOk.loopJ (fun (⟨a1, a0, y27⟩ : (Int × (List (SToken)) × Int)) => ⟨tl 33 [(1, V.int a1), (7, .sl false false (a0.map encSToken)), (8, V.int (a0.length : Int)), (9, V.int y27)], []⟩) (fun n i => m_impl_TokenAt_l1 N n i = some r) (n0 := N) (i0 := (a1, a0, 0)) (Weak.sel [] [1, 7, 8, 9] (by kernel_rfl) (by kernel_rfl) (by kernel_rfl)) h (fun i h => by simp [m_impl_TokenAt_l1] at h) ?_
  rintro n1 ⟨a1, a0, y27⟩ h73 ih74
  rw [m_impl_TokenAt_l1] at h73
  refine CodeOk.cutR (tl 33 [(1, V.int a1), (7, .sl false false (a0.map encSToken)), (8, V.int (a0.length : Int)), (9, V.int y27), (10, V.bool (decide (y27 < (a0.length : Int))))]) [] mix (by
      refine W.run D_ok 1 141 (by kernel_rfl) ?_
      exact W.fin (by decide) (by kernel_rfl) (Weak.sel [] [1, 7, 8, 9, 10] (by kernel_rfl) (by kernel_rfl) (by kernel_rfl))
      ) ?_
  refine CodeOk.seq' ?_
  rcases cond_some h73 with ⟨hc76, h73⟩ | ⟨hc76, h73⟩
  · refine CodeOk.ifT hc76 (by kernel_rfl) ?_
    refine CodeOk.skip ?_
    refine CodeOk.weak (st' := ⟨tl 33 [(1, V.int a1), (7, .sl false false (a0.map encSToken)), (8, V.int (a0.length : Int)), (9, V.int y27), (10, V.bool (decide (y27 < (a0.length : Int))))], []⟩) (Weak.refl _) ?_
    refine CodeOk.seq' ?_
    refine CodeOk.block' ?_
    obtain ⟨e39, hx84, h73⟩ := bind_some h73
    refine CodeOk.cutR (tl 33 [(1, V.int a1), (5, V.int y27), (6, .loc 141 0), (7, .sl false false (a0.map encSToken)), (8, V.int (a0.length : Int)), (9, V.int y27)]) [(141, .cells 49 [V.int e39.Kind, V.str e39.Text, V.int e39.At])] mix (by
        refine W.run D_ok 1 141 (by kernel_rfl) ?_
        refine W.ixD D_ok encSToken hx84 3 (by kernel_rfl) (by kernel_rfl) ?_
        refine W.run D_ok 4 141 (by kernel_rfl) ?_
        exact W.fin (by decide) (by kernel_rfl) (Weak.sel [(141, 141)] [1, 5, 6, 7, 8, 9] (by kernel_rfl) (by kernel_rfl) (by kernel_rfl))
        ) ?_
    obtain ⟨y40, hv86, h73⟩ := bind_some h73
    refine CodeOk.cutR (tl 33 [(1, V.int a1), (5, V.int y27), (7, .sl false false (a0.map encSToken)), (8, V.int (a0.length : Int)), (9, V.int y27), (30, V.bool y40)]) [] mix (by
        refine W.run D_ok 5 142 (by kernel_rfl) ?_
        rcases cond_some hv86 with ⟨hc87, hv86⟩ | ⟨hc87, hv86⟩
        · refine W.is 18 hc87 (by kernel_rfl) ?_
          refine W.run D_ok 12 142 (by kernel_rfl) ?_
          have hv86 := Option.some.inj hv86
          subst hv86
          exact W.fin (by decide) (by kernel_rfl) (Weak.sel [] [1, 5, 7, 8, 9, 30] (by kernel_rfl) (by kernel_rfl) (by kernel_rfl))
        · refine W.is 18 hc87 (by kernel_rfl) ?_
          refine W.run D_ok 12 142 (by kernel_rfl) ?_
          have hv86 := Option.some.inj hv86
          subst hv86
          exact W.fin (by decide) (by kernel_rfl) (Weak.sel [] [1, 5, 7, 8, 9, 30] (by kernel_rfl) (by kernel_rfl) (by kernel_rfl))
        ) ?_
    rcases cond_some h73 with ⟨hc88, h73⟩ | ⟨hc88, h73⟩
    · refine CodeOk.ifT hc88 (by kernel_rfl) ?_
      refine CodeOk.cutR (tl 33 [(4, V.int y27)]) [] mix (by
          refine W.run D_ok 2 142 (by kernel_rfl) ?_
          exact W.fin (by decide) (by kernel_rfl) (Weak.sel [] [4] (by kernel_rfl) (by kernel_rfl) (by kernel_rfl))
          ) ?_
      refine CodeOk.ret ?_
      have h73 := Option.some.inj h73
      subst h73
      exact Ends.one' (r := V.int y27) [] (.inr rfl) rfl (by kernel_rfl) (by kernel_rfl) (by kernel_rfl) (by kernel_rfl)
    · refine CodeOk.ifF hc88 (by kernel_rfl) ?_
      refine CodeOk.skip ?_
      refine CodeOk.weak (st' := ⟨tl 33 [(1, V.int a1), (5, V.int y27), (7, .sl false false (a0.map encSToken)), (8, V.int (a0.length : Int)), (9, V.int y27), (30, V.bool y40)], []⟩) (Weak.refl _) ?_
      refine CodeOk.endR (tl 33 [(1, V.int a1), (7, .sl false false (a0.map encSToken)), (8, V.int (a0.length : Int)), (9, V.int (IntKind.wrap .i64 (y27 + 1)))]) [] mix (by
          refine W.run D_ok 2 142 (by kernel_rfl) ?_
          exact W.fin (by decide) (by kernel_rfl) (Weak.sel [] [1, 7, 8, 9] (by kernel_rfl) (by kernel_rfl) (by kernel_rfl))
          ) (fun st hw => ?_)
      exact ih74 (a1, a0, (IntKind.wrap .i64 (y27 + 1))) h73 _ (hw.trans (Weak.sel [] [1, 7, 8, 9] (by kernel_rfl) (by kernel_rfl) (by kernel_rfl)))
  · refine CodeOk.ifF hc76 (by kernel_rfl) ?_
    refine CodeOk.exit ?_
    refine CodeOk.weak (st' := ⟨tl 33 [(1, V.int a1), (7, .sl false false (a0.map encSToken)), (8, V.int (a0.length : Int)), (9, V.int y27), (10, V.bool (decide (y27 < (a0.length : Int))))], []⟩) (Weak.refl _) ?_
    refine CodeOk.cutR (tl 33 [(4, V.int (-1))]) [] mix (by
        refine W.run D_ok 1 141 (by kernel_rfl) ?_
        exact W.fin (by decide) (by kernel_rfl) (Weak.sel [] [4] (by kernel_rfl) (by kernel_rfl) (by kernel_rfl))
        ) ?_
    refine CodeOk.ret ?_
    have h73 := Option.some.inj h73
    subst h73
    exact Ends.one' (r := V.int (-1)) [] (.inr rfl) rfl (by kernel_rfl) (by kernel_rfl) (by kernel_rfl) (by kernel_rfl)

theorem cok18 : callOk Try.prog 18 := fun _ _ => Try.call18 _ _

/-! ### laws.FnExactTokenAt -/
def m_laws_FnExactTokenAt (N : Nat) (a0 : List (SToken)) (a1 : Int) : Option Bool :=
  Option.bind (m_laws_szTokenS N a0 1048576) fun r2 => bif (decide (r2 < 0)) then some true else (Option.bind (m_laws_toTokenS N a0) fun r5 => Option.bind (m_spec_TokenAt N r5 a1) fun r6 => Option.bind (m_laws_toTokenS N a0) fun r8 => Option.bind (m_impl_TokenAt N r8 a1) fun r11 => bif (r11 != r6) then some false else (Option.bind (m_laws_toTokenS N a0) fun r18 => Option.bind (m_laws_eqTokenS N r8 r18) fun r19 => bif (!r19) then some false else (some true)))

theorem m_laws_FnExactTokenAt_ok (N : Nat) (a0 : List (SToken)) (a1 : Int) {r : Bool} (h : m_laws_FnExactTokenAt N a0 a1 = some r) :
    AC Try.prog GG 6 [.sl false false (a0.map encSToken), V.int a1] [] (V.bool r) [] := by
  rw [m_laws_FnExactTokenAt] at h
  refine AC.enter Try.func6 rfl ?_
  refine CodeOk.cutR (tl 31 [(0, .sl false false (a0.map encSToken)), (1, V.int a1)]) [] mix (by
      refine W.run D_ok 1 100 (by kernel_rfl) ?_
      exact W.fin (by decide) (by kernel_rfl) (Weak.sel [] [0, 1] (by kernel_rfl) (by kernel_rfl) (by kernel_rfl))
      ) ?_
  refine CodeOk.cutR (tl 31 [(0, .sl false false (a0.map encSToken)), (1, V.int a1), (5, V.int 1048576)]) [] mix (by
      refine W.run D_ok 1 100 (by kernel_rfl) ?_
      exact W.fin (by decide) (by kernel_rfl) (Weak.sel [] [0, 1, 5] (by kernel_rfl) (by kernel_rfl) (by kernel_rfl))
      ) ?_
  obtain ⟨r2, hx2, h⟩ := bind_some h
  refine CodeOk.cutR (tl 31 [(0, .sl false false (a0.map encSToken)), (1, V.int a1), (5, V.int r2)]) [] mix (by
      refine W.run D_ok 2 100 (by kernel_rfl) ?_
      refine W.call0 (m_laws_szTokenS_ok N a0 1048576 hx2) cok15 rfl (by kernel_rfl) ?_
      refine W.run D_ok 1 100 (by kernel_rfl) ?_
      exact W.fin (by decide) (by kernel_rfl) (Weak.sel [] [0, 1, 5] (by kernel_rfl) (by kernel_rfl) (by kernel_rfl))
      ) ?_
  refine CodeOk.seq' ?_
  refine CodeOk.cutR (tl 31 [(0, .sl false false (a0.map encSToken)), (1, V.int a1), (13, V.bool (decide (r2 < 0)))]) [] mix (by
      refine W.run D_ok 2 100 (by kernel_rfl) ?_
      exact W.fin (by decide) (by kernel_rfl) (Weak.sel [] [0, 1, 13] (by kernel_rfl) (by kernel_rfl) (by kernel_rfl))
      ) ?_
  rcases cond_some h with ⟨hc4, h⟩ | ⟨hc4, h⟩
  · refine CodeOk.ifT hc4 (by kernel_rfl) ?_
    refine CodeOk.cutR (tl 31 [(4, V.bool true)]) [] mix (by
        refine W.run D_ok 1 100 (by kernel_rfl) ?_
        exact W.fin (by decide) (by kernel_rfl) (Weak.sel [] [4] (by kernel_rfl) (by kernel_rfl) (by kernel_rfl))
        ) ?_
    refine CodeOk.ret ?_
    have h := Option.some.inj h
    subst h
    exact Ends.one' (r := V.bool true) [] (.inr rfl) rfl (by kernel_rfl) (by kernel_rfl) (by kernel_rfl) (by kernel_rfl)
  · refine CodeOk.ifF hc4 (by kernel_rfl) ?_
    refine CodeOk.skip ?_
    refine CodeOk.weak (st' := ⟨tl 31 [(0, .sl false false (a0.map encSToken)), (1, V.int a1), (13, V.bool (decide (r2 < 0)))], []⟩) (Weak.refl _) ?_
    obtain ⟨r5, hx7, h⟩ := bind_some h
    obtain ⟨r6, hx8, h⟩ := bind_some h
    refine CodeOk.cutR (tl 31 [(0, .sl false false (a0.map encSToken)), (1, V.int a1), (6, V.int r6)]) [] mix (by
        refine W.run D_ok 1 100 (by kernel_rfl) ?_
        refine W.call (m_laws_toTokenS_ok N a0 hx7) cok17 [] [(100, 100)] [100] (show LayOk _ [] from trivial) (by kernel_rfl) (by kernel_rfl) ?_
        refine W.run D_ok 1 101 (by kernel_rfl) ?_
        refine W.call (m_spec_TokenAt_ok N r5 a1 hx8) cok16 [] [] [] (LayOk.cons (j := 100) encSToken encSToken r5 (by kernel_rfl) (fun _ => by first | rfl | kernel_rfl) (show LayOk _ [] from trivial)) (by kernel_rfl) (by kernel_rfl) ?_
        refine W.run D_ok 1 101 (by kernel_rfl) ?_
        exact W.fin (by decide) (by kernel_rfl) (Weak.sel [] [0, 1, 6] (by kernel_rfl) (by kernel_rfl) (by kernel_rfl))
        ) ?_
    obtain ⟨r8, hx10, h⟩ := bind_some h
    refine CodeOk.cutR (tl 31 [(0, .sl false false (a0.map encSToken)), (1, V.int a1), (6, V.int r6), (7, .own 101)]) [(101, .vec false 49 3 (r8.map encSToken))] mix (by
        refine W.run D_ok 1 101 (by kernel_rfl) ?_
        refine W.call (m_laws_toTokenS_ok N a0 hx10) cok17 [] [(100, 101)] [101] (show LayOk _ [] from trivial) (by kernel_rfl) (by kernel_rfl) ?_
        refine W.run D_ok 1 102 (by kernel_rfl) ?_
        exact W.fin (by decide) (by kernel_rfl) (Weak.sel [(101, 101)] [0, 1, 6, 7] (by kernel_rfl) (by kernel_rfl) (by kernel_rfl))
        ) ?_
    refine CodeOk.lay (tl 31 [(0, .sl false false (a0.map encSToken)), (1, V.int a1), (6, V.int r6), (7, .sl false false (r8.map encSToken))]) [] (LayOk.cons (j := 101) encSToken encSToken r8 (by kernel_rfl) (fun _ => by first | rfl | kernel_rfl) (show LayOk _ [] from trivial)) (by kernel_rfl) (by kernel_rfl) (by kernel_rfl) ?_
    obtain ⟨r11, hx13, h⟩ := bind_some h
    refine CodeOk.cutR (tl 31 [(0, .sl false false (a0.map encSToken)), (6, V.int r6), (7, .sl false false (r8.map encSToken)), (8, V.int r11)]) [] mix (by
        refine W.run D_ok 2 102 (by kernel_rfl) ?_
        refine W.call0 (m_impl_TokenAt_ok N r8 a1 hx13) cok18 rfl (by kernel_rfl) ?_
        refine W.run D_ok 1 102 (by kernel_rfl) ?_
        exact W.fin (by decide) (by kernel_rfl) (Weak.sel [] [0, 6, 7, 8] (by kernel_rfl) (by kernel_rfl) (by kernel_rfl))
        ) ?_
    refine CodeOk.seq' ?_
    refine CodeOk.cutR (tl 31 [(0, .sl false false (a0.map encSToken)), (7, .sl false false (r8.map encSToken)), (25, V.bool (r11 != r6))]) [] mix (by
        refine W.run D_ok 3 102 (by kernel_rfl) ?_
        exact W.fin (by decide) (by kernel_rfl) (Weak.sel [] [0, 7, 25] (by kernel_rfl) (by kernel_rfl) (by kernel_rfl))
        ) ?_
    rcases cond_some h with ⟨hc15, h⟩ | ⟨hc15, h⟩
    · refine CodeOk.ifT hc15 (by kernel_rfl) ?_
      refine CodeOk.cutR (tl 31 [(4, V.bool false)]) [] mix (by
          refine W.run D_ok 1 102 (by kernel_rfl) ?_
          exact W.fin (by decide) (by kernel_rfl) (Weak.sel [] [4] (by kernel_rfl) (by kernel_rfl) (by kernel_rfl))
          ) ?_
      refine CodeOk.ret ?_
      have h := Option.some.inj h
      subst h
      exact Ends.one' (r := V.bool false) [] (.inr rfl) rfl (by kernel_rfl) (by kernel_rfl) (by kernel_rfl) (by kernel_rfl)
    · refine CodeOk.ifF hc15 (by kernel_rfl) ?_
      refine CodeOk.skip ?_
      refine CodeOk.weak (st' := ⟨tl 31 [(0, .sl false false (a0.map encSToken)), (7, .sl false false (r8.map encSToken)), (25, V.bool (r11 != r6))], []⟩) (Weak.refl _) ?_
      refine CodeOk.seq' ?_
      obtain ⟨r18, hx23, h⟩ := bind_some h
      obtain ⟨r19, hx24, h⟩ := bind_some h
      refine CodeOk.cutR (tl 31 [(30, V.bool (!r19))]) [] mix (by
          refine W.run D_ok 2 102 (by kernel_rfl) ?_
          refine W.call (m_laws_toTokenS_ok N a0 hx23) cok17 [] [(100, 102)] [102] (show LayOk _ [] from trivial) (by kernel_rfl) (by kernel_rfl) ?_
          refine W.call (m_laws_eqTokenS_ok N r8 r18 hx24) cok19 [] [] [] (LayOk.cons (j := 102) encSToken encSToken r18 (by kernel_rfl) (fun _ => by first | rfl | kernel_rfl) (show LayOk _ [] from trivial)) (by kernel_rfl) (by kernel_rfl) ?_
          refine W.run D_ok 1 103 (by kernel_rfl) ?_
          exact W.fin (by decide) (by kernel_rfl) (Weak.sel [] [30] (by kernel_rfl) (by kernel_rfl) (by kernel_rfl))
          ) ?_
      rcases cond_some h with ⟨hc25, h⟩ | ⟨hc25, h⟩
      · refine CodeOk.ifT hc25 (by kernel_rfl) ?_
        refine CodeOk.cutR (tl 31 [(4, V.bool false)]) [] mix (by
            refine W.run D_ok 1 103 (by kernel_rfl) ?_
            exact W.fin (by decide) (by kernel_rfl) (Weak.sel [] [4] (by kernel_rfl) (by kernel_rfl) (by kernel_rfl))
            ) ?_
        refine CodeOk.ret ?_
        have h := Option.some.inj h
        subst h
        exact Ends.one' (r := V.bool false) [] (.inr rfl) rfl (by kernel_rfl) (by kernel_rfl) (by kernel_rfl) (by kernel_rfl)
      · refine CodeOk.ifF hc25 (by kernel_rfl) ?_
        refine CodeOk.skip ?_
        refine CodeOk.weak (st' := ⟨tl 31 [(30, V.bool (!r19))], []⟩) (Weak.refl _) ?_
        refine CodeOk.cutR (tl 31 [(4, V.bool true)]) [] mix (by
            refine W.run D_ok 1 103 (by kernel_rfl) ?_
            exact W.fin (by decide) (by kernel_rfl) (Weak.sel [] [4] (by kernel_rfl) (by kernel_rfl) (by kernel_rfl))
            ) ?_
        refine CodeOk.ret ?_
        have h := Option.some.inj h
        subst h
        exact Ends.one' (r := V.bool true) [] (.inr rfl) rfl (by kernel_rfl) (by kernel_rfl) (by kernel_rfl) (by kernel_rfl)

theorem cok6 : callOk Try.prog 6 := fun _ _ => Try.call6 _ _

/-! ### spec.KeptTokens -/
def m_spec_KeptTokens_l1 (N : Nat) : Nat → ((List (SToken)) × Int × Int) → Option Int
  | 0, _ => none
  | n1 + 1, (a0, a1, y75) => Option.bind (bif (decide (y75 < (a0.length : Int))) then Option.bind (ix a0 y75) fun e109 => Option.bind (m_spec_l1In e109.At 0 a1) fun r110 => bif r110 then Option.bind (ix a0 y75) fun e111 => Option.bind (ix a0 y75) fun e112 => some (decide ((IntKind.wrap .i64 ((e111.Text.length : Int) + 2)) < (IntKind.wrap .i64 (a1 - e112.At)))) else (some false) else (some false)) fun y108 => bif y108 then (m_spec_KeptTokens_l1 N n1) (a0, a1, (IntKind.wrap .i64 (y75 + 1))) else (some y75)
def m_spec_KeptTokens (N : Nat) (a0 : List (SToken)) (a1 : Int) : Option Int :=
  m_spec_KeptTokens_l1 N N (a0, a1, 0)

theorem m_spec_KeptTokens_ok (N : Nat) (a0 : List (SToken)) (a1 : Int) {r : Int} (h : m_spec_KeptTokens N a0 a1 = some r) :
    AC Try.prog GG 25 [.sl false false (a0.map encSToken), V.int a1] [] (V.int r) [] := by
  rw [m_spec_KeptTokens] at h
  refine AC.enter Try.func25 rfl ?_
  refine CodeOk.cutR (tl 39 [(0, .sl false false (a0.map encSToken)), (1, V.int a1)]) [] mix (by
      refine W.run D_ok 1 100 (by kernel_rfl) ?_
      exact W.fin (by decide) (by kernel_rfl) (Weak.sel [] [0, 1] (by kernel_rfl) (by kernel_rfl) (by kernel_rfl))
      ) ?_
  refine CodeOk.cutR (tl 39 [(0, .sl false false (a0.map encSToken)), (1, V.int a1), (5, V.int 0)]) [] mix (by
      refine W.run D_ok 1 100 (by kernel_rfl) ?_
      exact W.fin (by decide) (by kernel_rfl) (Weak.sel [] [0, 1, 5] (by kernel_rfl) (by kernel_rfl) (by kernel_rfl))
      ) ?_
  refine CodeOk.seq' ?_
  refine CodeOk.block' ?_
  refine CodeOk.loopJ (fun (⟨a0, a1, y75⟩ : ((List (SToken)) × Int × Int)) => ⟨tl 39 [(0, .sl false false (a0.map encSToken)), (1, V.int a1), (5, V.int y75)], []⟩) (fun n i => m_spec_KeptTokens_l1 N n i = some r) (n0 := N) (i0 := (a0, a1, 0)) (Weak.sel [] [0, 1, 5] (by kernel_rfl) (by kernel_rfl) (by kernel_rfl)) h (fun i h => by simp [m_spec_KeptTokens_l1] at h) ?_
  rintro n1 ⟨a0, a1, y75⟩ h143 ih144
  rw [m_spec_KeptTokens_l1] at h143
  refine CodeOk.seq' ?_
  obtain ⟨y108, hv165, h143⟩ := bind_some h143
  refine CodeOk.cutR (tl 39 [(0, .sl false false (a0.map encSToken)), (1, V.int a1), (5, V.int y75), (35, V.bool y108)]) [] mix (by
      refine W.run D_ok 2 140 (by kernel_rfl) ?_
      refine W.len D_ok encSToken a0 [] (by kernel_rfl) (by kernel_rfl) ?_
      refine W.run D_ok 2 140 (by kernel_rfl) ?_
      rcases cond_some hv165 with ⟨hc166, hv165⟩ | ⟨hc166, hv165⟩
      · refine W.is 10 hc166 (by kernel_rfl) ?_
        refine W.run D_ok 2 140 (by kernel_rfl) ?_
        obtain ⟨e109, hx167, hv165⟩ := bind_some hv165
        refine W.ixD D_ok encSToken hx167 3 (by kernel_rfl) (by kernel_rfl) ?_
        refine W.run D_ok 3 140 (by kernel_rfl) ?_
        obtain ⟨r110, hx168, hv165⟩ := bind_some hv165
        refine W.call0 (m_spec_l1In_ok e109.At 0 a1 hx168) cok27 rfl (by kernel_rfl) ?_
        refine W.run D_ok 2 140 (by kernel_rfl) ?_
        rcases cond_some hv165 with ⟨hc169, hv165⟩ | ⟨hc169, hv165⟩
        · refine W.is 19 hc169 (by kernel_rfl) ?_
          refine W.run D_ok 2 140 (by kernel_rfl) ?_
          obtain ⟨e111, hx170, hv165⟩ := bind_some hv165
          refine W.ixD D_ok encSToken hx170 3 (by kernel_rfl) (by kernel_rfl) ?_
          refine W.run D_ok 7 140 (by kernel_rfl) ?_
          obtain ⟨e112, hx171, hv165⟩ := bind_some hv165
          refine W.ixD D_ok encSToken hx171 3 (by kernel_rfl) (by kernel_rfl) ?_
          refine W.run D_ok 5 140 (by kernel_rfl) ?_
          have hv165 := Option.some.inj hv165
          subst hv165
          exact W.fin (by decide) (by kernel_rfl) (Weak.sel [] [0, 1, 5, 35] (by kernel_rfl) (by kernel_rfl) (by kernel_rfl))
        · refine W.is 19 hc169 (by kernel_rfl) ?_
          refine W.run D_ok 16 140 (by kernel_rfl) ?_
          have hv165 := Option.some.inj hv165
          subst hv165
          exact W.fin (by decide) (by kernel_rfl) (Weak.sel [] [0, 1, 5, 35] (by kernel_rfl) (by kernel_rfl) (by kernel_rfl))
      · refine W.is 10 hc166 (by kernel_rfl) ?_
        refine W.run D_ok 25 140 (by kernel_rfl) ?_
        have hv165 := Option.some.inj hv165
        subst hv165
        exact W.fin (by decide) (by kernel_rfl) (Weak.sel [] [0, 1, 5, 35] (by kernel_rfl) (by kernel_rfl) (by kernel_rfl))
      ) ?_
  rcases cond_some h143 with ⟨hc172, h143⟩ | ⟨hc172, h143⟩
  · refine CodeOk.ifT hc172 (by kernel_rfl) ?_
    refine CodeOk.skip ?_
    refine CodeOk.weak (st' := ⟨tl 39 [(0, .sl false false (a0.map encSToken)), (1, V.int a1), (5, V.int y75), (35, V.bool y108)], []⟩) (Weak.refl _) ?_
    refine CodeOk.block' ?_
    refine CodeOk.endR (tl 39 [(0, .sl false false (a0.map encSToken)), (1, V.int a1), (5, V.int (IntKind.wrap .i64 (y75 + 1)))]) [] mix (by
        refine W.run D_ok 3 140 (by kernel_rfl) ?_
        exact W.fin (by decide) (by kernel_rfl) (Weak.sel [] [0, 1, 5] (by kernel_rfl) (by kernel_rfl) (by kernel_rfl))
        ) (fun st hw => ?_)
    exact ih144 (a0, a1, (IntKind.wrap .i64 (y75 + 1))) h143 _ (hw.trans (Weak.sel [] [0, 1, 5] (by kernel_rfl) (by kernel_rfl) (by kernel_rfl)))
  · refine CodeOk.ifF hc172 (by kernel_rfl) ?_
    refine CodeOk.exit ?_
    refine CodeOk.weak (st' := ⟨tl 39 [(0, .sl false false (a0.map encSToken)), (1, V.int a1), (5, V.int y75), (35, V.bool y108)], []⟩) (Weak.refl _) ?_
    refine CodeOk.cutR (tl 39 [(4, V.int y75)]) [] mix (by
        refine W.run D_ok 2 140 (by kernel_rfl) ?_
        exact W.fin (by decide) (by kernel_rfl) (Weak.sel [] [4] (by kernel_rfl) (by kernel_rfl) (by kernel_rfl))
        ) ?_
    refine CodeOk.ret ?_
    have h143 := Option.some.inj h143
    subst h143
    exact Ends.one' (r := V.int y75) [] (.inr rfl) rfl (by kernel_rfl) (by kernel_rfl) (by kernel_rfl) (by kernel_rfl)

theorem cok25 : callOk Try.prog 25 := fun _ _ => Try.call25 _ _

/-! ### impl.KeptTokens -/
def m_impl_KeptTokens_l1 (N : Nat) : Nat → ((List (SToken)) × Int × Int) → Option Int
  | 0, _ => none
  | n1 + 1, (a0, a1, y43) => bif (decide (y43 < (a0.length : Int))) then Option.bind (ix a0 y43) fun e61 => Option.bind (Option.bind (m_impl_within e61.At 0 a1) fun r64 => bif (!r64) then some true else (some (decide ((IntKind.wrap .i64 (a1 - e61.At)) ≤ (IntKind.wrap .i64 ((e61.Text.length : Int) + 2)))))) fun y63 => bif y63 then some y43 else ((m_impl_KeptTokens_l1 N n1) (a0, a1, (IntKind.wrap .i64 (y43 + 1)))) else (some (a0.length : Int))
def m_impl_KeptTokens (N : Nat) (a0 : List (SToken)) (a1 : Int) : Option Int :=
  m_impl_KeptTokens_l1 N N (a0, a1, 0)

theorem m_impl_KeptTokens_ok (N : Nat) (a0 : List (SToken)) (a1 : Int) {r : Int} (h : m_impl_KeptTokens N a0 a1 = some r) :
    AC Try.prog GG 26 [.sl false false (a0.map encSToken), V.int a1] [] (V.int r) [] := by
  rw [m_impl_KeptTokens] at h
  refine AC.enter Try.func26 rfl ?_
  refine CodeOk.cutR (tl 34 [(0, .sl false false (a0.map encSToken)), (1, V.int a1)]) [] mix (by
      refine W.run D_ok 1 100 (by kernel_rfl) ?_
      exact W.fin (by decide) (by kernel_rfl) (Weak.sel [] [0, 1] (by kernel_rfl) (by kernel_rfl) (by kernel_rfl))
      ) ?_
  refine CodeOk.seq' ?_
  refine CodeOk.cutR (tl 34 [(0, .sl false false (a0.map encSToken)), (1, V.int a1), (7, .sl false false (a0.map encSToken)), (8, V.int (a0.length : Int)), (9, V.int 0)]) [] mix (by
      refine W.run D_ok 1 100 (by kernel_rfl) ?_
      refine W.len D_ok encSToken a0 [] (by kernel_rfl) (by kernel_rfl) ?_
      refine W.run D_ok 1 100 (by kernel_rfl) ?_
      exact W.fin (by decide) (by kernel_rfl) (Weak.sel [] [0, 1, 7, 8, 9] (by kernel_rfl) (by kernel_rfl) (by kernel_rfl))
      ) ?_
  refine CodeOk.block' ?_
  refine CodeOk.loopJ (fun (⟨a0, a1, y43⟩ : ((List (SToken)) × Int × Int)) => ⟨tl 34 [(0, .sl false false (a0.map encSToken)), (1, V.int a1), (7, .sl false false (a0.map encSToken)), (8, V.int (a0.length : Int)), (9, V.int y43)], []⟩) (fun n i => m_impl_KeptTokens_l1 N n i = some r) (n0 := N) (i0 := (a0, a1, 0)) (Weak.sel [] [0, 1, 7, 8, 9] (by kernel_rfl) (by kernel_rfl) (by kernel_rfl)) h (fun i h => by simp [m_impl_KeptTokens_l1] at h) ?_
  rintro n1 ⟨a0, a1, y43⟩ h93 ih94
  rw [m_impl_KeptTokens_l1] at h93
  refine CodeOk.cutR (tl 34 [(0, .sl false false (a0.map encSToken)), (1, V.int a1), (7, .sl false false (a0.map encSToken)), (8, V.int (a0.length : Int)), (9, V.int y43), (10, V.bool (decide (y43 < (a0.length : Int))))]) [] mix (by
      refine W.run D_ok 1 141 (by kernel_rfl) ?_
      exact W.fin (by decide) (by kernel_rfl) (Weak.sel [] [0, 1, 7, 8, 9, 10] (by kernel_rfl) (by kernel_rfl) (by kernel_rfl))
      ) ?_
  refine CodeOk.seq' ?_
  rcases cond_some h93 with ⟨hc96, h93⟩ | ⟨hc96, h93⟩
  · refine CodeOk.ifT hc96 (by kernel_rfl) ?_
    refine CodeOk.skip ?_
    refine CodeOk.weak (st' := ⟨tl 34 [(0, .sl false false (a0.map encSToken)), (1, V.int a1), (7, .sl false false (a0.map encSToken)), (8, V.int (a0.length : Int)), (9, V.int y43), (10, V.bool (decide (y43 < (a0.length : Int))))], []⟩) (Weak.refl _) ?_
    refine CodeOk.seq' ?_
    refine CodeOk.block' ?_
    obtain ⟨e61, hx106, h93⟩ := bind_some h93
    refine CodeOk.cutR (tl 34 [(0, .sl false false (a0.map encSToken)), (1, V.int a1), (5, V.int y43), (6, .loc 141 0), (7, .sl false false (a0.map encSToken)), (8, V.int (a0.length : Int)), (9, V.int y43)]) [(141, .cells 49 [V.int e61.Kind, V.str e61.Text, V.int e61.At])] mix (by
        refine W.run D_ok 1 141 (by kernel_rfl) ?_
        refine W.ixD D_ok encSToken hx106 3 (by kernel_rfl) (by kernel_rfl) ?_
        refine W.run D_ok 4 141 (by kernel_rfl) ?_
        exact W.fin (by decide) (by kernel_rfl) (Weak.sel [(141, 141)] [0, 1, 5, 6, 7, 8, 9] (by kernel_rfl) (by kernel_rfl) (by kernel_rfl))
        ) ?_
    obtain ⟨y63, hv109, h93⟩ := bind_some h93
    refine CodeOk.cutR (tl 34 [(0, .sl false false (a0.map encSToken)), (1, V.int a1), (5, V.int y43), (7, .sl false false (a0.map encSToken)), (8, V.int (a0.length : Int)), (9, V.int y43), (29, V.bool y63)]) [] mix (by
        refine W.run D_ok 3 142 (by kernel_rfl) ?_
        obtain ⟨r64, hx110, hv109⟩ := bind_some hv109
        refine W.call0 (m_impl_within_ok e61.At 0 a1 hx110) cok28 rfl (by kernel_rfl) ?_
        refine W.run D_ok 2 142 (by kernel_rfl) ?_
        rcases cond_some hv109 with ⟨hc111, hv109⟩ | ⟨hc111, hv109⟩
        · refine W.is 19 hc111 (by kernel_rfl) ?_
          refine W.run D_ok 10 142 (by kernel_rfl) ?_
          have hv109 := Option.some.inj hv109
          subst hv109
          exact W.fin (by decide) (by kernel_rfl) (Weak.sel [] [0, 1, 5, 7, 8, 9, 29] (by kernel_rfl) (by kernel_rfl) (by kernel_rfl))
        · refine W.is 19 hc111 (by kernel_rfl) ?_
          refine W.run D_ok 10 142 (by kernel_rfl) ?_
          have hv109 := Option.some.inj hv109
          subst hv109
          exact W.fin (by decide) (by kernel_rfl) (Weak.sel [] [0, 1, 5, 7, 8, 9, 29] (by kernel_rfl) (by kernel_rfl) (by kernel_rfl))
        ) ?_
    rcases cond_some h93 with ⟨hc112, h93⟩ | ⟨hc112, h93⟩
    · refine CodeOk.ifT hc112 (by kernel_rfl) ?_
      refine CodeOk.cutR (tl 34 [(4, V.int y43)]) [] mix (by
          refine W.run D_ok 2 142 (by kernel_rfl) ?_
          exact W.fin (by decide) (by kernel_rfl) (Weak.sel [] [4] (by kernel_rfl) (by kernel_rfl) (by kernel_rfl))
          ) ?_
      refine CodeOk.ret ?_
      have h93 := Option.some.inj h93
      subst h93
      exact Ends.one' (r := V.int y43) [] (.inr rfl) rfl (by kernel_rfl) (by kernel_rfl) (by kernel_rfl) (by kernel_rfl)
    · refine CodeOk.ifF hc112 (by kernel_rfl) ?_
      refine CodeOk.skip ?_
      refine CodeOk.weak (st' := ⟨tl 34 [(0, .sl false false (a0.map encSToken)), (1, V.int a1), (5, V.int y43), (7, .sl false false (a0.map encSToken)), (8, V.int (a0.length : Int)), (9, V.int y43), (29, V.bool y63)], []⟩) (Weak.refl _) ?_
      refine CodeOk.endR (tl 34 [(0, .sl false false (a0.map encSToken)), (1, V.int a1), (7, .sl false false (a0.map encSToken)), (8, V.int (a0.length : Int)), (9, V.int (IntKind.wrap .i64 (y43 + 1)))]) [] mix (by
          refine W.run D_ok 2 142 (by kernel_rfl) ?_
          exact W.fin (by decide) (by kernel_rfl) (Weak.sel [] [0, 1, 7, 8, 9] (by kernel_rfl) (by kernel_rfl) (by kernel_rfl))
          ) (fun st hw => ?_)
      exact ih94 (a0, a1, (IntKind.wrap .i64 (y43 + 1))) h93 _ (hw.trans (Weak.sel [] [0, 1, 7, 8, 9] (by kernel_rfl) (by kernel_rfl) (by kernel_rfl)))
  · refine CodeOk.ifF hc96 (by kernel_rfl) ?_
    refine CodeOk.exit ?_
    refine CodeOk.weak (st' := ⟨tl 34 [(0, .sl false false (a0.map encSToken)), (1, V.int a1), (7, .sl false false (a0.map encSToken)), (8, V.int (a0.length : Int)), (9, V.int y43), (10, V.bool (decide (y43 < (a0.length : Int))))], []⟩) (Weak.refl _) ?_
    refine CodeOk.cutR (tl 34 [(4, V.int (a0.length : Int))]) [] mix (by
        refine W.run D_ok 1 141 (by kernel_rfl) ?_
        refine W.len D_ok encSToken a0 [] (by kernel_rfl) (by kernel_rfl) ?_
        refine W.run D_ok 1 141 (by kernel_rfl) ?_
        exact W.fin (by decide) (by kernel_rfl) (Weak.sel [] [4] (by kernel_rfl) (by kernel_rfl) (by kernel_rfl))
        ) ?_
    refine CodeOk.ret ?_
    have h93 := Option.some.inj h93
    subst h93
    exact Ends.one' (r := V.int (a0.length : Int)) [] (.inr rfl) rfl (by kernel_rfl) (by kernel_rfl) (by kernel_rfl) (by kernel_rfl)

theorem cok26 : callOk Try.prog 26 := fun _ _ => Try.call26 _ _

/-! ### laws.FnExactKeptTokens -/
def m_laws_FnExactKeptTokens (N : Nat) (a0 : List (SToken)) (a1 : Int) : Option Bool :=
  Option.bind (m_laws_szTokenS N a0 1048576) fun r2 => bif (decide (r2 < 0)) then some true else (Option.bind (m_laws_toTokenS N a0) fun r5 => Option.bind (m_spec_KeptTokens N r5 a1) fun r6 => Option.bind (m_laws_toTokenS N a0) fun r8 => Option.bind (m_impl_KeptTokens N r8 a1) fun r11 => bif (r11 != r6) then some false else (Option.bind (m_laws_toTokenS N a0) fun r18 => Option.bind (m_laws_eqTokenS N r8 r18) fun r19 => bif (!r19) then some false else (some true)))

theorem m_laws_FnExactKeptTokens_ok (N : Nat) (a0 : List (SToken)) (a1 : Int) {r : Bool} (h : m_laws_FnExactKeptTokens N a0 a1 = some r) :
    AC Try.prog GG 8 [.sl false false (a0.map encSToken), V.int a1] [] (V.bool r) [] := by
  rw [m_laws_FnExactKeptTokens] at h
  refine AC.enter Try.func8 rfl ?_
  refine CodeOk.cutR (tl 31 [(0, .sl false false (a0.map encSToken)), (1, V.int a1)]) [] mix (by
      refine W.run D_ok 1 100 (by kernel_rfl) ?_
      exact W.fin (by decide) (by kernel_rfl) (Weak.sel [] [0, 1] (by kernel_rfl) (by kernel_rfl) (by kernel_rfl))
      ) ?_
  refine CodeOk.cutR (tl 31 [(0, .sl false false (a0.map encSToken)), (1, V.int a1), (5, V.int 1048576)]) [] mix (by
      refine W.run D_ok 1 100 (by kernel_rfl) ?_
      exact W.fin (by decide) (by kernel_rfl) (Weak.sel [] [0, 1, 5] (by kernel_rfl) (by kernel_rfl) (by kernel_rfl))
      ) ?_
  obtain ⟨r2, hx2, h⟩ := bind_some h
  refine CodeOk.cutR (tl 31 [(0, .sl false false (a0.map encSToken)), (1, V.int a1), (5, V.int r2)]) [] mix (by
      refine W.run D_ok 2 100 (by kernel_rfl) ?_
      refine W.call0 (m_laws_szTokenS_ok N a0 1048576 hx2) cok15 rfl (by kernel_rfl) ?_
      refine W.run D_ok 1 100 (by kernel_rfl) ?_
      exact W.fin (by decide) (by kernel_rfl) (Weak.sel [] [0, 1, 5] (by kernel_rfl) (by kernel_rfl) (by kernel_rfl))
      ) ?_
  refine CodeOk.seq' ?_
  refine CodeOk.cutR (tl 31 [(0, .sl false false (a0.map encSToken)), (1, V.int a1), (13, V.bool (decide (r2 < 0)))]) [] mix (by
      refine W.run D_ok 2 100 (by kernel_rfl) ?_
      exact W.fin (by decide) (by kernel_rfl) (Weak.sel [] [0, 1, 13] (by kernel_rfl) (by kernel_rfl) (by kernel_rfl))
      ) ?_
  rcases cond_some h with ⟨hc4, h⟩ | ⟨hc4, h⟩
  · refine CodeOk.ifT hc4 (by kernel_rfl) ?_
    refine CodeOk.cutR (tl 31 [(4, V.bool true)]) [] mix (by
        refine W.run D_ok 1 100 (by kernel_rfl) ?_
        exact W.fin (by decide) (by kernel_rfl) (Weak.sel [] [4] (by kernel_rfl) (by kernel_rfl) (by kernel_rfl))
        ) ?_
    refine CodeOk.ret ?_
    have h := Option.some.inj h
    subst h
    exact Ends.one' (r := V.bool true) [] (.inr rfl) rfl (by kernel_rfl) (by kernel_rfl) (by kernel_rfl) (by kernel_rfl)
  · refine CodeOk.ifF hc4 (by kernel_rfl) ?_
    refine CodeOk.skip ?_
    refine CodeOk.weak (st' := ⟨tl 31 [(0, .sl false false (a0.map encSToken)), (1, V.int a1), (13, V.bool (decide (r2 < 0)))], []⟩) (Weak.refl _) ?_
    obtain ⟨r5, hx7, h⟩ := bind_some h
    obtain ⟨r6, hx8, h⟩ := bind_some h
    refine CodeOk.cutR (tl 31 [(0, .sl false false (a0.map encSToken)), (1, V.int a1), (6, V.int r6)]) [] mix (by
        refine W.run D_ok 1 100 (by kernel_rfl) ?_
        refine W.call (m_laws_toTokenS_ok N a0 hx7) cok17 [] [(100, 100)] [100] (show LayOk _ [] from trivial) (by kernel_rfl) (by kernel_rfl) ?_
        refine W.run D_ok 1 101 (by kernel_rfl) ?_
        refine W.call (m_spec_KeptTokens_ok N r5 a1 hx8) cok25 [] [] [] (LayOk.cons (j := 100) encSToken encSToken r5 (by kernel_rfl) (fun _ => by first | rfl | kernel_rfl) (show LayOk _ [] from trivial)) (by kernel_rfl) (by kernel_rfl) ?_
        refine W.run D_ok 1 101 (by kernel_rfl) ?_
        exact W.fin (by decide) (by kernel_rfl) (Weak.sel [] [0, 1, 6] (by kernel_rfl) (by kernel_rfl) (by kernel_rfl))
        ) ?_
    obtain ⟨r8, hx10, h⟩ := bind_some h
    refine CodeOk.cutR (tl 31 [(0, .sl false false (a0.map encSToken)), (1, V.int a1), (6, V.int r6), (7, .own 101)]) [(101, .vec false 49 3 (r8.map encSToken))] mix (by
        refine W.run D_ok 1 101 (by kernel_rfl) ?_
        refine W.call (m_laws_toTokenS_ok N a0 hx10) cok17 [] [(100, 101)] [101] (show LayOk _ [] from trivial) (by kernel_rfl) (by kernel_rfl) ?_
        refine W.run D_ok 1 102 (by kernel_rfl) ?_
        exact W.fin (by decide) (by kernel_rfl) (Weak.sel [(101, 101)] [0, 1, 6, 7] (by kernel_rfl) (by kernel_rfl) (by kernel_rfl))
        ) ?_
    refine CodeOk.lay (tl 31 [(0, .sl false false (a0.map encSToken)), (1, V.int a1), (6, V.int r6), (7, .sl false false (r8.map encSToken))]) [] (LayOk.cons (j := 101) encSToken encSToken r8 (by kernel_rfl) (fun _ => by first | rfl | kernel_rfl) (show LayOk _ [] from trivial)) (by kernel_rfl) (by kernel_rfl) (by kernel_rfl) ?_
    obtain ⟨r11, hx13, h⟩ := bind_some h
    refine CodeOk.cutR (tl 31 [(0, .sl false false (a0.map encSToken)), (6, V.int r6), (7, .sl false false (r8.map encSToken)), (8, V.int r11)]) [] mix (by
        refine W.run D_ok 2 102 (by kernel_rfl) ?_
        refine W.call0 (m_impl_KeptTokens_ok N r8 a1 hx13) cok26 rfl (by kernel_rfl) ?_
        refine W.run D_ok 1 102 (by kernel_rfl) ?_
        exact W.fin (by decide) (by kernel_rfl) (Weak.sel [] [0, 6, 7, 8] (by kernel_rfl) (by kernel_rfl) (by kernel_rfl))
        ) ?_
    refine CodeOk.seq' ?_
    refine CodeOk.cutR (tl 31 [(0, .sl false false (a0.map encSToken)), (7, .sl false false (r8.map encSToken)), (25, V.bool (r11 != r6))]) [] mix (by
        refine W.run D_ok 3 102 (by kernel_rfl) ?_
        exact W.fin (by decide) (by kernel_rfl) (Weak.sel [] [0, 7, 25] (by kernel_rfl) (by kernel_rfl) (by kernel_rfl))
        ) ?_
    rcases cond_some h with ⟨hc15, h⟩ | ⟨hc15, h⟩
    · refine CodeOk.ifT hc15 (by kernel_rfl) ?_
      refine CodeOk.cutR (tl 31 [(4, V.bool false)]) [] mix (by
          refine W.run D_ok 1 102 (by kernel_rfl) ?_
          exact W.fin (by decide) (by kernel_rfl) (Weak.sel [] [4] (by kernel_rfl) (by kernel_rfl) (by kernel_rfl))
          ) ?_
      refine CodeOk.ret ?_
      have h := Option.some.inj h
      subst h
      exact Ends.one' (r := V.bool false) [] (.inr rfl) rfl (by kernel_rfl) (by kernel_rfl) (by kernel_rfl) (by kernel_rfl)
    · refine CodeOk.ifF hc15 (by kernel_rfl) ?_
      refine CodeOk.skip ?_
      refine CodeOk.weak (st' := ⟨tl 31 [(0, .sl false false (a0.map encSToken)), (7, .sl false false (r8.map encSToken)), (25, V.bool (r11 != r6))], []⟩) (Weak.refl _) ?_
      refine CodeOk.seq' ?_
      obtain ⟨r18, hx23, h⟩ := bind_some h
      obtain ⟨r19, hx24, h⟩ := bind_some h
      refine CodeOk.cutR (tl 31 [(30, V.bool (!r19))]) [] mix (by
          refine W.run D_ok 2 102 (by kernel_rfl) ?_
          refine W.call (m_laws_toTokenS_ok N a0 hx23) cok17 [] [(100, 102)] [102] (show LayOk _ [] from trivial) (by kernel_rfl) (by kernel_rfl) ?_
          refine W.call (m_laws_eqTokenS_ok N r8 r18 hx24) cok19 [] [] [] (LayOk.cons (j := 102) encSToken encSToken r18 (by kernel_rfl) (fun _ => by first | rfl | kernel_rfl) (show LayOk _ [] from trivial)) (by kernel_rfl) (by kernel_rfl) ?_
          refine W.run D_ok 1 103 (by kernel_rfl) ?_
          exact W.fin (by decide) (by kernel_rfl) (Weak.sel [] [30] (by kernel_rfl) (by kernel_rfl) (by kernel_rfl))
          ) ?_
      rcases cond_some h with ⟨hc25, h⟩ | ⟨hc25, h⟩
      · refine CodeOk.ifT hc25 (by kernel_rfl) ?_
        refine CodeOk.cutR (tl 31 [(4, V.bool false)]) [] mix (by
            refine W.run D_ok 1 103 (by kernel_rfl) ?_
            exact W.fin (by decide) (by kernel_rfl) (Weak.sel [] [4] (by kernel_rfl) (by kernel_rfl) (by kernel_rfl))
            ) ?_
        refine CodeOk.ret ?_
        have h := Option.some.inj h
        subst h
        exact Ends.one' (r := V.bool false) [] (.inr rfl) rfl (by kernel_rfl) (by kernel_rfl) (by kernel_rfl) (by kernel_rfl)
      · refine CodeOk.ifF hc25 (by kernel_rfl) ?_
        refine CodeOk.skip ?_
        refine CodeOk.weak (st' := ⟨tl 31 [(30, V.bool (!r19))], []⟩) (Weak.refl _) ?_
        refine CodeOk.cutR (tl 31 [(4, V.bool true)]) [] mix (by
            refine W.run D_ok 1 103 (by kernel_rfl) ?_
            exact W.fin (by decide) (by kernel_rfl) (Weak.sel [] [4] (by kernel_rfl) (by kernel_rfl) (by kernel_rfl))
            ) ?_
        refine CodeOk.ret ?_
        have h := Option.some.inj h
        subst h
        exact Ends.one' (r := V.bool true) [] (.inr rfl) rfl (by kernel_rfl) (by kernel_rfl) (by kernel_rfl) (by kernel_rfl)

theorem cok8 : callOk Try.prog 8 := fun _ _ => Try.call8 _ _

/-! ### laws.szNode -/
def m_laws_szNode (a0 : SNode) (a1 : Int) : Option Int :=
  bif (decide ((IntKind.wrap .i64 (a1 - (a0.Text.length : Int))) < 0)) then some (-1) else (bif (decide ((IntKind.wrap .i64 ((IntKind.wrap .i64 (a1 - (a0.Text.length : Int))) - (a0.Other.length : Int))) < 0)) then some (-1) else (Option.bind (m_laws_szIntS a0.Kids (IntKind.wrap .i64 ((IntKind.wrap .i64 (a1 - (a0.Text.length : Int))) - (a0.Other.length : Int)))) fun r2 => bif (decide (r2 < 0)) then some (-1) else (some r2)))

theorem m_laws_szNode_ok (a0 : SNode) (a1 : Int) {r : Int} (h : m_laws_szNode a0 a1 = some r) :
    AC Try.prog GG 20 [.agg [V.int a0.Kind, V.int a0.Op, V.str a0.Text, V.str a0.Other, .sl false false (a0.Kids.map encI)], V.int a1] [] (V.int r) [] := by
  rw [m_laws_szNode] at h
  refine AC.enter Try.func20 rfl ?_
  refine CodeOk.cutR (tl 26 [(1, V.int a1), (2, .loc 100 0)]) [(100, .cells 36 [V.int a0.Kind, V.int a0.Op, V.str a0.Text, V.str a0.Other, .sl false false (a0.Kids.map encI)])] mix (by
      refine W.run D_ok 2 100 (by kernel_rfl) ?_
      exact W.fin (by decide) (by kernel_rfl) (Weak.sel [(100, 100)] [1, 2] (by kernel_rfl) (by kernel_rfl) (by kernel_rfl))
      ) ?_
  refine CodeOk.cutR (tl 26 [(1, V.int (IntKind.wrap .i64 (a1 - (a0.Text.length : Int)))), (2, .loc 100 0)]) [(100, .cells 36 [V.int a0.Kind, V.int a0.Op, V.str a0.Text, V.str a0.Other, .sl false false (a0.Kids.map encI)])] mix (by
      refine W.run D_ok 6 101 (by kernel_rfl) ?_
      exact W.fin (by decide) (by kernel_rfl) (Weak.sel [(100, 100)] [1, 2] (by kernel_rfl) (by kernel_rfl) (by kernel_rfl))
      ) ?_
  refine CodeOk.seq' ?_
  refine CodeOk.cutR (tl 26 [(1, V.int (IntKind.wrap .i64 (a1 - (a0.Text.length : Int)))), (2, .loc 100 0), (11, V.bool (decide ((IntKind.wrap .i64 (a1 - (a0.Text.length : Int))) < 0)))]) [(100, .cells 36 [V.int a0.Kind, V.int a0.Op, V.str a0.Text, V.str a0.Other, .sl false false (a0.Kids.map encI)])] mix (by
      refine W.run D_ok 2 101 (by kernel_rfl) ?_
      exact W.fin (by decide) (by kernel_rfl) (Weak.sel [(100, 100)] [1, 2, 11] (by kernel_rfl) (by kernel_rfl) (by kernel_rfl))
      ) ?_
  rcases cond_some h with ⟨hc2, h⟩ | ⟨hc2, h⟩
  · refine CodeOk.ifT hc2 (by kernel_rfl) ?_
    refine CodeOk.cutR (tl 26 [(4, V.int (-1))]) [] mix (by
        refine W.run D_ok 1 101 (by kernel_rfl) ?_
        exact W.fin (by decide) (by kernel_rfl) (Weak.sel [] [4] (by kernel_rfl) (by kernel_rfl) (by kernel_rfl))
        ) ?_
    refine CodeOk.ret ?_
    have h := Option.some.inj h
    subst h
    exact Ends.one' (r := V.int (-1)) [] (.inr rfl) rfl (by kernel_rfl) (by kernel_rfl) (by kernel_rfl) (by kernel_rfl)
  · refine CodeOk.ifF hc2 (by kernel_rfl) ?_
    refine CodeOk.skip ?_
    refine CodeOk.weak (st' := ⟨tl 26 [(1, V.int (IntKind.wrap .i64 (a1 - (a0.Text.length : Int)))), (2, .loc 100 0), (11, V.bool (decide ((IntKind.wrap .i64 (a1 - (a0.Text.length : Int))) < 0)))], [(100, .cells 36 [V.int a0.Kind, V.int a0.Op, V.str a0.Text, V.str a0.Other, .sl false false (a0.Kids.map encI)])]⟩) (Weak.refl _) ?_
    refine CodeOk.cutR (tl 26 [(1, V.int (IntKind.wrap .i64 ((IntKind.wrap .i64 (a1 - (a0.Text.length : Int))) - (a0.Other.length : Int)))), (2, .loc 100 0)]) [(100, .cells 36 [V.int a0.Kind, V.int a0.Op, V.str a0.Text, V.str a0.Other, .sl false false (a0.Kids.map encI)])] mix (by
        refine W.run D_ok 6 101 (by kernel_rfl) ?_
        exact W.fin (by decide) (by kernel_rfl) (Weak.sel [(100, 100)] [1, 2] (by kernel_rfl) (by kernel_rfl) (by kernel_rfl))
        ) ?_
    refine CodeOk.seq' ?_
    refine CodeOk.cutR (tl 26 [(1, V.int (IntKind.wrap .i64 ((IntKind.wrap .i64 (a1 - (a0.Text.length : Int))) - (a0.Other.length : Int)))), (2, .loc 100 0), (18, V.bool (decide ((IntKind.wrap .i64 ((IntKind.wrap .i64 (a1 - (a0.Text.length : Int))) - (a0.Other.length : Int))) < 0)))]) [(100, .cells 36 [V.int a0.Kind, V.int a0.Op, V.str a0.Text, V.str a0.Other, .sl false false (a0.Kids.map encI)])] mix (by
        refine W.run D_ok 2 101 (by kernel_rfl) ?_
        exact W.fin (by decide) (by kernel_rfl) (Weak.sel [(100, 100)] [1, 2, 18] (by kernel_rfl) (by kernel_rfl) (by kernel_rfl))
        ) ?_
    rcases cond_some h with ⟨hc4, h⟩ | ⟨hc4, h⟩
    · refine CodeOk.ifT hc4 (by kernel_rfl) ?_
      refine CodeOk.cutR (tl 26 [(4, V.int (-1))]) [] mix (by
          refine W.run D_ok 1 101 (by kernel_rfl) ?_
          exact W.fin (by decide) (by kernel_rfl) (Weak.sel [] [4] (by kernel_rfl) (by kernel_rfl) (by kernel_rfl))
          ) ?_
      refine CodeOk.ret ?_
      have h := Option.some.inj h
      subst h
      exact Ends.one' (r := V.int (-1)) [] (.inr rfl) rfl (by kernel_rfl) (by kernel_rfl) (by kernel_rfl) (by kernel_rfl)
    · refine CodeOk.ifF hc4 (by kernel_rfl) ?_
      refine CodeOk.skip ?_
      refine CodeOk.weak (st' := ⟨tl 26 [(1, V.int (IntKind.wrap .i64 ((IntKind.wrap .i64 (a1 - (a0.Text.length : Int))) - (a0.Other.length : Int)))), (2, .loc 100 0), (18, V.bool (decide ((IntKind.wrap .i64 ((IntKind.wrap .i64 (a1 - (a0.Text.length : Int))) - (a0.Other.length : Int))) < 0)))], [(100, .cells 36 [V.int a0.Kind, V.int a0.Op, V.str a0.Text, V.str a0.Other, .sl false false (a0.Kids.map encI)])]⟩) (Weak.refl _) ?_
      obtain ⟨r2, hx6, h⟩ := bind_some h
      refine CodeOk.cutR (tl 26 [(1, V.int r2)]) [] mix (by
          refine W.run D_ok 3 101 (by kernel_rfl) ?_
          refine W.call0 (m_laws_szIntS_ok a0.Kids (IntKind.wrap .i64 ((IntKind.wrap .i64 (a1 - (a0.Text.length : Int))) - (a0.Other.length : Int))) hx6) cok34 rfl (by kernel_rfl) ?_
          refine W.run D_ok 1 101 (by kernel_rfl) ?_
          exact W.fin (by decide) (by kernel_rfl) (Weak.sel [] [1] (by kernel_rfl) (by kernel_rfl) (by kernel_rfl))
          ) ?_
      refine CodeOk.seq' ?_
      refine CodeOk.cutR (tl 26 [(1, V.int r2), (24, V.bool (decide (r2 < 0)))]) [] mix (by
          refine W.run D_ok 2 101 (by kernel_rfl) ?_
          exact W.fin (by decide) (by kernel_rfl) (Weak.sel [] [1, 24] (by kernel_rfl) (by kernel_rfl) (by kernel_rfl))
          ) ?_
      rcases cond_some h with ⟨hc8, h⟩ | ⟨hc8, h⟩
      · refine CodeOk.ifT hc8 (by kernel_rfl) ?_
        refine CodeOk.cutR (tl 26 [(4, V.int (-1))]) [] mix (by
            refine W.run D_ok 1 101 (by kernel_rfl) ?_
            exact W.fin (by decide) (by kernel_rfl) (Weak.sel [] [4] (by kernel_rfl) (by kernel_rfl) (by kernel_rfl))
            ) ?_
        refine CodeOk.ret ?_
        have h := Option.some.inj h
        subst h
        exact Ends.one' (r := V.int (-1)) [] (.inr rfl) rfl (by kernel_rfl) (by kernel_rfl) (by kernel_rfl) (by kernel_rfl)
      · refine CodeOk.ifF hc8 (by kernel_rfl) ?_
        refine CodeOk.skip ?_
        refine CodeOk.weak (st' := ⟨tl 26 [(1, V.int r2), (24, V.bool (decide (r2 < 0)))], []⟩) (Weak.refl _) ?_
        refine CodeOk.cutR (tl 26 [(4, V.int r2)]) [] mix (by
            refine W.run D_ok 2 101 (by kernel_rfl) ?_
            exact W.fin (by decide) (by kernel_rfl) (Weak.sel [] [4] (by kernel_rfl) (by kernel_rfl) (by kernel_rfl))
            ) ?_
        refine CodeOk.ret ?_
        have h := Option.some.inj h
        subst h
        exact Ends.one' (r := V.int r2) [] (.inr rfl) rfl (by kernel_rfl) (by kernel_rfl) (by kernel_rfl) (by kernel_rfl)

theorem cok20 : callOk Try.prog 20 := fun _ _ => Try.call20 _ _

/-! ### spec.IsHole -/
def m_spec_IsHole (a0 : SNode) : Option Bool :=
  Option.bind (bif (a0.Kind == 1) then bif ((a0.Text.length : Int) == 1) then Option.bind (ix a0.Text 0) fun b4 => Option.bind (m_spec_l1In (IntKind.wrap .i64 ((b4).toNat : Int)) 97 122) fun r5 => some r5 else (some false) else (some false)) fun y3 => some y3

theorem m_spec_IsHole_ok (a0 : SNode) {r : Bool} (h : m_spec_IsHole a0 = some r) :
    AC Try.prog GG 21 [.agg [V.int a0.Kind, V.int a0.Op, V.str a0.Text, V.str a0.Other, .sl false false (a0.Kids.map encI)]] [] (V.bool r) [] := by
  rw [m_spec_IsHole] at h
  refine AC.enter Try.func21 rfl ?_
  refine CodeOk.cutR (tl 19 [(1, .loc 100 0)]) [(100, .cells 39 [V.int a0.Kind, V.int a0.Op, V.str a0.Text, V.str a0.Other, .sl false false (a0.Kids.map encI)])] mix (by
      refine W.run D_ok 2 100 (by kernel_rfl) ?_
      exact W.fin (by decide) (by kernel_rfl) (Weak.sel [(100, 100)] [1] (by kernel_rfl) (by kernel_rfl) (by kernel_rfl))
      ) ?_
  obtain ⟨y3, hv5, h⟩ := bind_some h
  refine CodeOk.cutR (tl 19 [(2, V.bool y3)]) [] mix (by
      refine W.run D_ok 4 101 (by kernel_rfl) ?_
      rcases cond_some hv5 with ⟨hc6, hv5⟩ | ⟨hc6, hv5⟩
      · refine W.is 6 hc6 (by kernel_rfl) ?_
        refine W.run D_ok 6 101 (by kernel_rfl) ?_
        rcases cond_some hv5 with ⟨hc7, hv5⟩ | ⟨hc7, hv5⟩
        · refine W.is 12 hc7 (by kernel_rfl) ?_
          refine W.run D_ok 2 101 (by kernel_rfl) ?_
          obtain ⟨b4, hx8, hv5⟩ := bind_some hv5
          refine W.ixS D_ok hx8 (by kernel_rfl) ?_
          refine W.run D_ok 1 101 (by kernel_rfl) ?_
          obtain ⟨r5, hx9, hv5⟩ := bind_some hv5
          refine W.call0 (m_spec_l1In_ok (IntKind.wrap .i64 ((b4).toNat : Int)) 97 122 hx9) cok27 rfl (by kernel_rfl) ?_
          refine W.run D_ok 2 101 (by kernel_rfl) ?_
          have hv5 := Option.some.inj hv5
          subst hv5
          exact W.fin (by decide) (by kernel_rfl) (Weak.sel [] [2] (by kernel_rfl) (by kernel_rfl) (by kernel_rfl))
        · refine W.is 12 hc7 (by kernel_rfl) ?_
          refine W.run D_ok 7 101 (by kernel_rfl) ?_
          have hv5 := Option.some.inj hv5
          subst hv5
          exact W.fin (by decide) (by kernel_rfl) (Weak.sel [] [2] (by kernel_rfl) (by kernel_rfl) (by kernel_rfl))
      · refine W.is 6 hc6 (by kernel_rfl) ?_
        refine W.run D_ok 13 101 (by kernel_rfl) ?_
        have hv5 := Option.some.inj hv5
        subst hv5
        exact W.fin (by decide) (by kernel_rfl) (Weak.sel [] [2] (by kernel_rfl) (by kernel_rfl) (by kernel_rfl))
      ) ?_
  refine CodeOk.ret ?_
  have h := Option.some.inj h
  subst h
  exact Ends.one' (r := V.bool y3) [] (.inr rfl) rfl (by kernel_rfl) (by kernel_rfl) (by kernel_rfl) (by kernel_rfl)

theorem cok21 : callOk Try.prog 21 := fun _ _ => Try.call21 _ _

/-! ### laws.toNode -/
def m_laws_toNode (N : Nat) (a0 : SNode) : Option SNode :=
  Option.bind (m_laws_toIntS N a0.Kids) fun r2 => some (⟨a0.Kind, a0.Op, a0.Text, a0.Other, r2⟩ : SNode)

theorem m_laws_toNode_ok (N : Nat) (a0 : SNode) {r : SNode} (h : m_laws_toNode N a0 = some r) :
    AC Try.prog GG 22 [.agg [V.int a0.Kind, V.int a0.Op, V.str a0.Text, V.str a0.Other, .sl false false (a0.Kids.map encI)]] [] (.agg [V.int r.Kind, V.int r.Op, V.str r.Text, V.str r.Other, .own 100]) [(100, .vec false 3 1 (r.Kids.map encI))] := by
  rw [m_laws_toNode] at h
  refine AC.enter Try.func22 rfl ?_
  refine CodeOk.cutR (tl 21 [(1, .loc 100 0), (2, .loc 101 0)]) [(101, .cells 39 [V.int 0, V.int 0, V.str [], V.str [], .c (.slice none 0 0)]), (100, .cells 36 [V.int a0.Kind, V.int a0.Op, V.str a0.Text, V.str a0.Other, .sl false false (a0.Kids.map encI)])] mix (by
      refine W.run D_ok 2 100 (by kernel_rfl) ?_
      exact W.fin (by decide) (by kernel_rfl) (Weak.sel [(101, 101), (100, 100)] [1, 2] (by kernel_rfl) (by kernel_rfl) (by kernel_rfl))
      ) ?_
  refine CodeOk.cutR (tl 21 [(1, .loc 100 0), (2, .loc 101 0), (3, .loc 102 0)]) [(102, .cells 39 [V.int 0, V.int 0, V.str [], V.str [], .c (.slice none 0 0)]), (101, .cells 39 [V.int 0, V.int 0, V.str [], V.str [], .c (.slice none 0 0)]), (100, .cells 36 [V.int a0.Kind, V.int a0.Op, V.str a0.Text, V.str a0.Other, .sl false false (a0.Kids.map encI)])] mix (by
      refine W.run D_ok 1 102 (by kernel_rfl) ?_
      exact W.fin (by decide) (by kernel_rfl) (Weak.sel [(102, 102), (101, 101), (100, 100)] [1, 2, 3] (by kernel_rfl) (by kernel_rfl) (by kernel_rfl))
      ) ?_
  refine CodeOk.cutR (tl 21 [(1, .loc 100 0), (2, .loc 101 0), (3, .loc 102 0)]) [(102, .cells 39 [V.int a0.Kind, V.int 0, V.str [], V.str [], .c (.slice none 0 0)]), (101, .cells 39 [V.int 0, V.int 0, V.str [], V.str [], .c (.slice none 0 0)]), (100, .cells 36 [V.int a0.Kind, V.int a0.Op, V.str a0.Text, V.str a0.Other, .sl false false (a0.Kids.map encI)])] mix (by
      refine W.run D_ok 4 103 (by kernel_rfl) ?_
      exact W.fin (by decide) (by kernel_rfl) (Weak.sel [(102, 102), (101, 101), (100, 100)] [1, 2, 3] (by kernel_rfl) (by kernel_rfl) (by kernel_rfl))
      ) ?_
  refine CodeOk.cutR (tl 21 [(1, .loc 100 0), (2, .loc 101 0), (3, .loc 102 0)]) [(102, .cells 39 [V.int a0.Kind, V.int a0.Op, V.str [], V.str [], .c (.slice none 0 0)]), (101, .cells 39 [V.int 0, V.int 0, V.str [], V.str [], .c (.slice none 0 0)]), (100, .cells 36 [V.int a0.Kind, V.int a0.Op, V.str a0.Text, V.str a0.Other, .sl false false (a0.Kids.map encI)])] mix (by
      refine W.run D_ok 4 103 (by kernel_rfl) ?_
      exact W.fin (by decide) (by kernel_rfl) (Weak.sel [(102, 102), (101, 101), (100, 100)] [1, 2, 3] (by kernel_rfl) (by kernel_rfl) (by kernel_rfl))
      ) ?_
  refine CodeOk.cutR (tl 21 [(1, .loc 100 0), (2, .loc 101 0), (3, .loc 102 0)]) [(102, .cells 39 [V.int a0.Kind, V.int a0.Op, V.str a0.Text, V.str [], .c (.slice none 0 0)]), (101, .cells 39 [V.int 0, V.int 0, V.str [], V.str [], .c (.slice none 0 0)]), (100, .cells 36 [V.int a0.Kind, V.int a0.Op, V.str a0.Text, V.str a0.Other, .sl false false (a0.Kids.map encI)])] mix (by
      refine W.run D_ok 4 103 (by kernel_rfl) ?_
      exact W.fin (by decide) (by kernel_rfl) (Weak.sel [(102, 102), (101, 101), (100, 100)] [1, 2, 3] (by kernel_rfl) (by kernel_rfl) (by kernel_rfl))
      ) ?_
  refine CodeOk.cutR (tl 21 [(1, .loc 100 0), (2, .loc 101 0), (3, .loc 102 0)]) [(102, .cells 39 [V.int a0.Kind, V.int a0.Op, V.str a0.Text, V.str a0.Other, .c (.slice none 0 0)]), (101, .cells 39 [V.int 0, V.int 0, V.str [], V.str [], .c (.slice none 0 0)]), (100, .cells 36 [V.int a0.Kind, V.int a0.Op, V.str a0.Text, V.str a0.Other, .sl false false (a0.Kids.map encI)])] mix (by
      refine W.run D_ok 4 103 (by kernel_rfl) ?_
      exact W.fin (by decide) (by kernel_rfl) (Weak.sel [(102, 102), (101, 101), (100, 100)] [1, 2, 3] (by kernel_rfl) (by kernel_rfl) (by kernel_rfl))
      ) ?_
  obtain ⟨r2, hx2, h⟩ := bind_some h
  refine CodeOk.cutR (tl 21 [(2, .loc 101 0), (3, .loc 102 0)]) [(102, .cells 39 [V.int a0.Kind, V.int a0.Op, V.str a0.Text, V.str a0.Other, .own 103]), (103, .vec false 3 1 (r2.map encI)), (101, .cells 39 [V.int 0, V.int 0, V.str [], V.str [], .c (.slice none 0 0)])] mix (by
      refine W.run D_ok 2 103 (by kernel_rfl) ?_
      refine W.call (m_laws_toIntS_ok N a0.Kids hx2) cok35 [] [(100, 103)] [103] (show LayOk _ [] from trivial) (by kernel_rfl) (by kernel_rfl) ?_
      refine W.run D_ok 2 104 (by kernel_rfl) ?_
      exact W.fin (by decide) (by kernel_rfl) (Weak.sel [(102, 102), (103, 103), (101, 101)] [2, 3] (by kernel_rfl) (by kernel_rfl) (by kernel_rfl))
      ) ?_
  refine CodeOk.cutR (tl 21 [(2, .loc 101 0)]) [(101, .cells 39 [V.int a0.Kind, V.int a0.Op, V.str a0.Text, V.str a0.Other, .own 103]), (103, .vec false 3 1 (r2.map encI))] mix (by
      refine W.run D_ok 2 104 (by kernel_rfl) ?_
      exact W.fin (by decide) (by kernel_rfl) (Weak.sel [(101, 101), (103, 103)] [2] (by kernel_rfl) (by kernel_rfl) (by kernel_rfl))
      ) ?_
  refine CodeOk.ret ?_
  have h := Option.some.inj h
  subst h
  exact Ends.cell' D_ok (.agg [V.int a0.Kind, V.int a0.Op, V.str a0.Text, V.str a0.Other, .own 103]) 101 39 [V.int a0.Kind, V.int a0.Op, V.str a0.Text, V.str a0.Other, .own 103] [(103, 100)] (.inr rfl) rfl (by kernel_rfl) (by kernel_rfl) (by kernel_rfl) (by kernel_rfl) (by kernel_rfl) (by kernel_rfl)

theorem cok22 : callOk Try.prog 22 := fun _ _ => Try.call22 _ _

/-! ### impl.IsHole -/
def m_impl_IsHole (a0 : SNode) : Option Bool :=
  Option.bind (bif (a0.Kind == 1) then bif ((a0.Text.length : Int) == 1) then Option.bind (ix a0.Text 0) fun b4 => bif (decide (((b4).toNat : Int) ≥ 97)) then Option.bind (ix a0.Text 0) fun b5 => some (decide (((b5).toNat : Int) ≤ 122)) else (some false) else (some false) else (some false)) fun y3 => some y3

theorem m_impl_IsHole_ok (a0 : SNode) {r : Bool} (h : m_impl_IsHole a0 = some r) :
    AC Try.prog GG 23 [.agg [V.int a0.Kind, V.int a0.Op, V.str a0.Text, V.str a0.Other, .sl false false (a0.Kids.map encI)]] [] (V.bool r) [] := by
  rw [m_impl_IsHole] at h
  refine AC.enter Try.func23 rfl ?_
  refine CodeOk.cutR (tl 24 [(1, .loc 100 0)]) [(100, .cells 39 [V.int a0.Kind, V.int a0.Op, V.str a0.Text, V.str a0.Other, .sl false false (a0.Kids.map encI)])] mix (by
      refine W.run D_ok 2 100 (by kernel_rfl) ?_
      exact W.fin (by decide) (by kernel_rfl) (Weak.sel [(100, 100)] [1] (by kernel_rfl) (by kernel_rfl) (by kernel_rfl))
      ) ?_
  obtain ⟨y3, hv6, h⟩ := bind_some h
  refine CodeOk.cutR (tl 24 [(2, V.bool y3)]) [] mix (by
      refine W.run D_ok 4 101 (by kernel_rfl) ?_
      rcases cond_some hv6 with ⟨hc7, hv6⟩ | ⟨hc7, hv6⟩
      · refine W.is 6 hc7 (by kernel_rfl) ?_
        refine W.run D_ok 6 101 (by kernel_rfl) ?_
        rcases cond_some hv6 with ⟨hc8, hv6⟩ | ⟨hc8, hv6⟩
        · refine W.is 12 hc8 (by kernel_rfl) ?_
          refine W.run D_ok 2 101 (by kernel_rfl) ?_
          obtain ⟨b4, hx9, hv6⟩ := bind_some hv6
          refine W.ixS D_ok hx9 (by kernel_rfl) ?_
          refine W.run D_ok 3 101 (by kernel_rfl) ?_
          rcases cond_some hv6 with ⟨hc10, hv6⟩ | ⟨hc10, hv6⟩
          · refine W.is 18 hc10 (by kernel_rfl) ?_
            refine W.run D_ok 2 101 (by kernel_rfl) ?_
            obtain ⟨b5, hx11, hv6⟩ := bind_some hv6
            refine W.ixS D_ok hx11 (by kernel_rfl) ?_
            refine W.run D_ok 3 101 (by kernel_rfl) ?_
            have hv6 := Option.some.inj hv6
            subst hv6
            exact W.fin (by decide) (by kernel_rfl) (Weak.sel [] [2] (by kernel_rfl) (by kernel_rfl) (by kernel_rfl))
          · refine W.is 18 hc10 (by kernel_rfl) ?_
            refine W.run D_ok 6 101 (by kernel_rfl) ?_
            have hv6 := Option.some.inj hv6
            subst hv6
            exact W.fin (by decide) (by kernel_rfl) (Weak.sel [] [2] (by kernel_rfl) (by kernel_rfl) (by kernel_rfl))
        · refine W.is 12 hc8 (by kernel_rfl) ?_
          refine W.run D_ok 12 101 (by kernel_rfl) ?_
          have hv6 := Option.some.inj hv6
          subst hv6
          exact W.fin (by decide) (by kernel_rfl) (Weak.sel [] [2] (by kernel_rfl) (by kernel_rfl) (by kernel_rfl))
      · refine W.is 6 hc7 (by kernel_rfl) ?_
        refine W.run D_ok 18 101 (by kernel_rfl) ?_
        have hv6 := Option.some.inj hv6
        subst hv6
        exact W.fin (by decide) (by kernel_rfl) (Weak.sel [] [2] (by kernel_rfl) (by kernel_rfl) (by kernel_rfl))
      ) ?_
  refine CodeOk.ret ?_
  have h := Option.some.inj h
  subst h
  exact Ends.one' (r := V.bool y3) [] (.inr rfl) rfl (by kernel_rfl) (by kernel_rfl) (by kernel_rfl) (by kernel_rfl)

theorem cok23 : callOk Try.prog 23 := fun _ _ => Try.call23 _ _

/-! ### laws.eqNode -/
def m_laws_eqNode (N : Nat) (a0 : SNode) (a1 : SNode) : Option Bool :=
  bif (a0.Kind != a1.Kind) then some false else (bif (a0.Op != a1.Op) then some false else (bif (!(a0.Text == a1.Text)) then some false else (bif (!(a0.Other == a1.Other)) then some false else (Option.bind (m_laws_eqIntS N a0.Kids a1.Kids) fun r4 => bif (!r4) then some false else (some true)))))

theorem m_laws_eqNode_ok (N : Nat) (a0 : SNode) (a1 : SNode) {r : Bool} (h : m_laws_eqNode N a0 a1 = some r) :
    AC Try.prog GG 24 [.agg [V.int a0.Kind, V.int a0.Op, V.str a0.Text, V.str a0.Other, .sl false false (a0.Kids.map encI)], .agg [V.int a1.Kind, V.int a1.Op, V.str a1.Text, V.str a1.Other, .sl false false (a1.Kids.map encI)]] [] (V.bool r) [] := by
  rw [m_laws_eqNode] at h
  refine AC.enter Try.func24 rfl ?_
  refine CodeOk.cutR (tl 31 [(2, .loc 100 0), (3, .loc 101 0)]) [(101, .cells 39 [V.int a1.Kind, V.int a1.Op, V.str a1.Text, V.str a1.Other, .sl false false (a1.Kids.map encI)]), (100, .cells 39 [V.int a0.Kind, V.int a0.Op, V.str a0.Text, V.str a0.Other, .sl false false (a0.Kids.map encI)])] mix (by
      refine W.run D_ok 3 100 (by kernel_rfl) ?_
      exact W.fin (by decide) (by kernel_rfl) (Weak.sel [(101, 101), (100, 100)] [2, 3] (by kernel_rfl) (by kernel_rfl) (by kernel_rfl))
      ) ?_
  refine CodeOk.seq' ?_
  refine CodeOk.cutR (tl 31 [(2, .loc 100 0), (3, .loc 101 0), (9, V.bool (a0.Kind != a1.Kind))]) [(101, .cells 39 [V.int a1.Kind, V.int a1.Op, V.str a1.Text, V.str a1.Other, .sl false false (a1.Kids.map encI)]), (100, .cells 39 [V.int a0.Kind, V.int a0.Op, V.str a0.Text, V.str a0.Other, .sl false false (a0.Kids.map encI)])] mix (by
      refine W.run D_ok 5 102 (by kernel_rfl) ?_
      exact W.fin (by decide) (by kernel_rfl) (Weak.sel [(101, 101), (100, 100)] [2, 3, 9] (by kernel_rfl) (by kernel_rfl) (by kernel_rfl))
      ) ?_
  rcases cond_some h with ⟨hc2, h⟩ | ⟨hc2, h⟩
  · refine CodeOk.ifT hc2 (by kernel_rfl) ?_
    refine CodeOk.cutR (tl 31 [(4, V.bool false)]) [] mix (by
        refine W.run D_ok 1 102 (by kernel_rfl) ?_
        exact W.fin (by decide) (by kernel_rfl) (Weak.sel [] [4] (by kernel_rfl) (by kernel_rfl) (by kernel_rfl))
        ) ?_
    refine CodeOk.ret ?_
    have h := Option.some.inj h
    subst h
    exact Ends.one' (r := V.bool false) [] (.inr rfl) rfl (by kernel_rfl) (by kernel_rfl) (by kernel_rfl) (by kernel_rfl)
  · refine CodeOk.ifF hc2 (by kernel_rfl) ?_
    refine CodeOk.skip ?_
    refine CodeOk.weak (st' := ⟨tl 31 [(2, .loc 100 0), (3, .loc 101 0), (9, V.bool (a0.Kind != a1.Kind))], [(101, .cells 39 [V.int a1.Kind, V.int a1.Op, V.str a1.Text, V.str a1.Other, .sl false false (a1.Kids.map encI)]), (100, .cells 39 [V.int a0.Kind, V.int a0.Op, V.str a0.Text, V.str a0.Other, .sl false false (a0.Kids.map encI)])]⟩) (Weak.refl _) ?_
    refine CodeOk.seq' ?_
    refine CodeOk.cutR (tl 31 [(2, .loc 100 0), (3, .loc 101 0), (14, V.bool (a0.Op != a1.Op))]) [(101, .cells 39 [V.int a1.Kind, V.int a1.Op, V.str a1.Text, V.str a1.Other, .sl false false (a1.Kids.map encI)]), (100, .cells 39 [V.int a0.Kind, V.int a0.Op, V.str a0.Text, V.str a0.Other, .sl false false (a0.Kids.map encI)])] mix (by
        refine W.run D_ok 5 102 (by kernel_rfl) ?_
        exact W.fin (by decide) (by kernel_rfl) (Weak.sel [(101, 101), (100, 100)] [2, 3, 14] (by kernel_rfl) (by kernel_rfl) (by kernel_rfl))
        ) ?_
    rcases cond_some h with ⟨hc4, h⟩ | ⟨hc4, h⟩
    · refine CodeOk.ifT hc4 (by kernel_rfl) ?_
      refine CodeOk.cutR (tl 31 [(4, V.bool false)]) [] mix (by
          refine W.run D_ok 1 102 (by kernel_rfl) ?_
          exact W.fin (by decide) (by kernel_rfl) (Weak.sel [] [4] (by kernel_rfl) (by kernel_rfl) (by kernel_rfl))
          ) ?_
      refine CodeOk.ret ?_
      have h := Option.some.inj h
      subst h
      exact Ends.one' (r := V.bool false) [] (.inr rfl) rfl (by kernel_rfl) (by kernel_rfl) (by kernel_rfl) (by kernel_rfl)
    · refine CodeOk.ifF hc4 (by kernel_rfl) ?_
      refine CodeOk.skip ?_
      refine CodeOk.weak (st' := ⟨tl 31 [(2, .loc 100 0), (3, .loc 101 0), (14, V.bool (a0.Op != a1.Op))], [(101, .cells 39 [V.int a1.Kind, V.int a1.Op, V.str a1.Text, V.str a1.Other, .sl false false (a1.Kids.map encI)]), (100, .cells 39 [V.int a0.Kind, V.int a0.Op, V.str a0.Text, V.str a0.Other, .sl false false (a0.Kids.map encI)])]⟩) (Weak.refl _) ?_
      refine CodeOk.seq' ?_
      refine CodeOk.cutR (tl 31 [(2, .loc 100 0), (3, .loc 101 0), (19, V.bool (!(a0.Text == a1.Text)))]) [(101, .cells 39 [V.int a1.Kind, V.int a1.Op, V.str a1.Text, V.str a1.Other, .sl false false (a1.Kids.map encI)]), (100, .cells 39 [V.int a0.Kind, V.int a0.Op, V.str a0.Text, V.str a0.Other, .sl false false (a0.Kids.map encI)])] mix (by
          refine W.run D_ok 5 102 (by kernel_rfl) ?_
          exact W.fin (by decide) (by kernel_rfl) (Weak.sel [(101, 101), (100, 100)] [2, 3, 19] (by kernel_rfl) (by kernel_rfl) (by kernel_rfl))
          ) ?_
      rcases cond_some h with ⟨hc6, h⟩ | ⟨hc6, h⟩
      · refine CodeOk.ifT hc6 (by kernel_rfl) ?_
        refine CodeOk.cutR (tl 31 [(4, V.bool false)]) [] mix (by
            refine W.run D_ok 1 102 (by kernel_rfl) ?_
            exact W.fin (by decide) (by kernel_rfl) (Weak.sel [] [4] (by kernel_rfl) (by kernel_rfl) (by kernel_rfl))
            ) ?_
        refine CodeOk.ret ?_
        have h := Option.some.inj h
        subst h
        exact Ends.one' (r := V.bool false) [] (.inr rfl) rfl (by kernel_rfl) (by kernel_rfl) (by kernel_rfl) (by kernel_rfl)
      · refine CodeOk.ifF hc6 (by kernel_rfl) ?_
        refine CodeOk.skip ?_
        refine CodeOk.weak (st' := ⟨tl 31 [(2, .loc 100 0), (3, .loc 101 0), (19, V.bool (!(a0.Text == a1.Text)))], [(101, .cells 39 [V.int a1.Kind, V.int a1.Op, V.str a1.Text, V.str a1.Other, .sl false false (a1.Kids.map encI)]), (100, .cells 39 [V.int a0.Kind, V.int a0.Op, V.str a0.Text, V.str a0.Other, .sl false false (a0.Kids.map encI)])]⟩) (Weak.refl _) ?_
        refine CodeOk.seq' ?_
        refine CodeOk.cutR (tl 31 [(2, .loc 100 0), (3, .loc 101 0), (24, V.bool (!(a0.Other == a1.Other)))]) [(101, .cells 39 [V.int a1.Kind, V.int a1.Op, V.str a1.Text, V.str a1.Other, .sl false false (a1.Kids.map encI)]), (100, .cells 39 [V.int a0.Kind, V.int a0.Op, V.str a0.Text, V.str a0.Other, .sl false false (a0.Kids.map encI)])] mix (by
            refine W.run D_ok 5 102 (by kernel_rfl) ?_
            exact W.fin (by decide) (by kernel_rfl) (Weak.sel [(101, 101), (100, 100)] [2, 3, 24] (by kernel_rfl) (by kernel_rfl) (by kernel_rfl))
            ) ?_
        rcases cond_some h with ⟨hc8, h⟩ | ⟨hc8, h⟩
        · refine CodeOk.ifT hc8 (by kernel_rfl) ?_
          refine CodeOk.cutR (tl 31 [(4, V.bool false)]) [] mix (by
              refine W.run D_ok 1 102 (by kernel_rfl) ?_
              exact W.fin (by decide) (by kernel_rfl) (Weak.sel [] [4] (by kernel_rfl) (by kernel_rfl) (by kernel_rfl))
              ) ?_
          refine CodeOk.ret ?_
          have h := Option.some.inj h
          subst h
          exact Ends.one' (r := V.bool false) [] (.inr rfl) rfl (by kernel_rfl) (by kernel_rfl) (by kernel_rfl) (by kernel_rfl)
        · refine CodeOk.ifF hc8 (by kernel_rfl) ?_
          refine CodeOk.skip ?_
          refine CodeOk.weak (st' := ⟨tl 31 [(2, .loc 100 0), (3, .loc 101 0), (24, V.bool (!(a0.Other == a1.Other)))], [(101, .cells 39 [V.int a1.Kind, V.int a1.Op, V.str a1.Text, V.str a1.Other, .sl false false (a1.Kids.map encI)]), (100, .cells 39 [V.int a0.Kind, V.int a0.Op, V.str a0.Text, V.str a0.Other, .sl false false (a0.Kids.map encI)])]⟩) (Weak.refl _) ?_
          refine CodeOk.seq' ?_
          obtain ⟨r4, hx13, h⟩ := bind_some h
          refine CodeOk.cutR (tl 31 [(30, V.bool (!r4))]) [] mix (by
              refine W.run D_ok 4 102 (by kernel_rfl) ?_
              refine W.call0 (m_laws_eqIntS_ok N a0.Kids a1.Kids hx13) cok36 rfl (by kernel_rfl) ?_
              refine W.run D_ok 1 102 (by kernel_rfl) ?_
              exact W.fin (by decide) (by kernel_rfl) (Weak.sel [] [30] (by kernel_rfl) (by kernel_rfl) (by kernel_rfl))
              ) ?_
          rcases cond_some h with ⟨hc14, h⟩ | ⟨hc14, h⟩
          · refine CodeOk.ifT hc14 (by kernel_rfl) ?_
            refine CodeOk.cutR (tl 31 [(4, V.bool false)]) [] mix (by
                refine W.run D_ok 1 102 (by kernel_rfl) ?_
                exact W.fin (by decide) (by kernel_rfl) (Weak.sel [] [4] (by kernel_rfl) (by kernel_rfl) (by kernel_rfl))
                ) ?_
            refine CodeOk.ret ?_
            have h := Option.some.inj h
            subst h
            exact Ends.one' (r := V.bool false) [] (.inr rfl) rfl (by kernel_rfl) (by kernel_rfl) (by kernel_rfl) (by kernel_rfl)
          · refine CodeOk.ifF hc14 (by kernel_rfl) ?_
            refine CodeOk.skip ?_
            refine CodeOk.weak (st' := ⟨tl 31 [(30, V.bool (!r4))], []⟩) (Weak.refl _) ?_
            refine CodeOk.cutR (tl 31 [(4, V.bool true)]) [] mix (by
                refine W.run D_ok 1 102 (by kernel_rfl) ?_
                exact W.fin (by decide) (by kernel_rfl) (Weak.sel [] [4] (by kernel_rfl) (by kernel_rfl) (by kernel_rfl))
                ) ?_
            refine CodeOk.ret ?_
            have h := Option.some.inj h
            subst h
            exact Ends.one' (r := V.bool true) [] (.inr rfl) rfl (by kernel_rfl) (by kernel_rfl) (by kernel_rfl) (by kernel_rfl)

theorem cok24 : callOk Try.prog 24 := fun _ _ => Try.call24 _ _

/-! ### laws.FnExactIsHole -/
def m_laws_FnExactIsHole (N : Nat) (a0 : SNode) : Option Bool :=
  Option.bind (m_laws_szNode a0 1048576) fun r2 => bif (decide (r2 < 0)) then some true else (Option.bind (m_laws_toNode N a0) fun r5 => Option.bind (m_spec_IsHole r5) fun r6 => Option.bind (m_laws_toNode N a0) fun r8 => Option.bind (m_impl_IsHole r8) fun r11 => bif (!(r11 == r6)) then some false else (Option.bind (m_laws_toNode N a0) fun r18 => Option.bind (m_laws_eqNode N r8 r18) fun r19 => bif (!r19) then some false else (some true)))

theorem m_laws_FnExactIsHole_ok (N : Nat) (a0 : SNode) {r : Bool} (h : m_laws_FnExactIsHole N a0 = some r) :
    AC Try.prog GG 7 [.agg [V.int a0.Kind, V.int a0.Op, V.str a0.Text, V.str a0.Other, .sl false false (a0.Kids.map encI)]] [] (V.bool r) [] := by
  rw [m_laws_FnExactIsHole] at h
  refine AC.enter Try.func7 rfl ?_
  refine CodeOk.cutR (tl 27 [(1, .loc 100 0)]) [(100, .cells 36 [V.int a0.Kind, V.int a0.Op, V.str a0.Text, V.str a0.Other, .sl false false (a0.Kids.map encI)])] mix (by
      refine W.run D_ok 2 100 (by kernel_rfl) ?_
      exact W.fin (by decide) (by kernel_rfl) (Weak.sel [(100, 100)] [1] (by kernel_rfl) (by kernel_rfl) (by kernel_rfl))
      ) ?_
  refine CodeOk.cutR (tl 27 [(1, .loc 100 0), (3, V.int 1048576)]) [(100, .cells 36 [V.int a0.Kind, V.int a0.Op, V.str a0.Text, V.str a0.Other, .sl false false (a0.Kids.map encI)])] mix (by
      refine W.run D_ok 1 101 (by kernel_rfl) ?_
      exact W.fin (by decide) (by kernel_rfl) (Weak.sel [(100, 100)] [1, 3] (by kernel_rfl) (by kernel_rfl) (by kernel_rfl))
      ) ?_
  obtain ⟨r2, hx2, h⟩ := bind_some h
  refine CodeOk.cutR (tl 27 [(1, .loc 100 0), (3, V.int r2)]) [(100, .cells 36 [V.int a0.Kind, V.int a0.Op, V.str a0.Text, V.str a0.Other, .sl false false (a0.Kids.map encI)])] mix (by
      refine W.run D_ok 2 101 (by kernel_rfl) ?_
      refine W.call0 (m_laws_szNode_ok a0 1048576 hx2) cok20 rfl (by kernel_rfl) ?_
      refine W.run D_ok 1 101 (by kernel_rfl) ?_
      exact W.fin (by decide) (by kernel_rfl) (Weak.sel [(100, 100)] [1, 3] (by kernel_rfl) (by kernel_rfl) (by kernel_rfl))
      ) ?_
  refine CodeOk.seq' ?_
  refine CodeOk.cutR (tl 27 [(1, .loc 100 0), (11, V.bool (decide (r2 < 0)))]) [(100, .cells 36 [V.int a0.Kind, V.int a0.Op, V.str a0.Text, V.str a0.Other, .sl false false (a0.Kids.map encI)])] mix (by
      refine W.run D_ok 2 101 (by kernel_rfl) ?_
      exact W.fin (by decide) (by kernel_rfl) (Weak.sel [(100, 100)] [1, 11] (by kernel_rfl) (by kernel_rfl) (by kernel_rfl))
      ) ?_
  rcases cond_some h with ⟨hc4, h⟩ | ⟨hc4, h⟩
  · refine CodeOk.ifT hc4 (by kernel_rfl) ?_
    refine CodeOk.cutR (tl 27 [(2, V.bool true)]) [] mix (by
        refine W.run D_ok 1 101 (by kernel_rfl) ?_
        exact W.fin (by decide) (by kernel_rfl) (Weak.sel [] [2] (by kernel_rfl) (by kernel_rfl) (by kernel_rfl))
        ) ?_
    refine CodeOk.ret ?_
    have h := Option.some.inj h
    subst h
    exact Ends.one' (r := V.bool true) [] (.inr rfl) rfl (by kernel_rfl) (by kernel_rfl) (by kernel_rfl) (by kernel_rfl)
  · refine CodeOk.ifF hc4 (by kernel_rfl) ?_
    refine CodeOk.skip ?_
    refine CodeOk.weak (st' := ⟨tl 27 [(1, .loc 100 0), (11, V.bool (decide (r2 < 0)))], [(100, .cells 36 [V.int a0.Kind, V.int a0.Op, V.str a0.Text, V.str a0.Other, .sl false false (a0.Kids.map encI)])]⟩) (Weak.refl _) ?_
    obtain ⟨r5, hx7, h⟩ := bind_some h
    obtain ⟨r6, hx8, h⟩ := bind_some h
    refine CodeOk.cutR (tl 27 [(1, .loc 100 0), (4, V.bool r6)]) [(100, .cells 36 [V.int a0.Kind, V.int a0.Op, V.str a0.Text, V.str a0.Other, .sl false false (a0.Kids.map encI)])] mix (by
        refine W.run D_ok 1 101 (by kernel_rfl) ?_
        refine W.call (m_laws_toNode_ok N a0 hx7) cok22 [] [(100, 101)] [101] (show LayOk _ [] from trivial) (by kernel_rfl) (by kernel_rfl) ?_
        refine W.call (m_spec_IsHole_ok r5 hx8) cok21 [] [] [] (LayOk.cons (j := 101) encI encI r5.Kids (by kernel_rfl) (fun _ => by first | rfl | kernel_rfl) (show LayOk _ [] from trivial)) (by kernel_rfl) (by kernel_rfl) ?_
        refine W.run D_ok 1 102 (by kernel_rfl) ?_
        exact W.fin (by decide) (by kernel_rfl) (Weak.sel [(100, 100)] [1, 4] (by kernel_rfl) (by kernel_rfl) (by kernel_rfl))
        ) ?_
    obtain ⟨r8, hx10, h⟩ := bind_some h
    refine CodeOk.cutR (tl 27 [(1, .loc 100 0), (4, V.bool r6), (5, .loc 103 0)]) [(103, .cells 39 [V.int r8.Kind, V.int r8.Op, V.str r8.Text, V.str r8.Other, .own 102]), (102, .vec false 3 1 (r8.Kids.map encI)), (100, .cells 36 [V.int a0.Kind, V.int a0.Op, V.str a0.Text, V.str a0.Other, .sl false false (a0.Kids.map encI)])] mix (by
        refine W.run D_ok 1 102 (by kernel_rfl) ?_
        refine W.call (m_laws_toNode_ok N a0 hx10) cok22 [] [(100, 102)] [102] (show LayOk _ [] from trivial) (by kernel_rfl) (by kernel_rfl) ?_
        refine W.run D_ok 2 103 (by kernel_rfl) ?_
        exact W.fin (by decide) (by kernel_rfl) (Weak.sel [(103, 103), (102, 102), (100, 100)] [1, 4, 5] (by kernel_rfl) (by kernel_rfl) (by kernel_rfl))
        ) ?_
    refine CodeOk.lay (tl 27 [(1, .loc 100 0), (4, V.bool r6), (5, .loc 103 0)]) [(103, .cells 39 [V.int r8.Kind, V.int r8.Op, V.str r8.Text, V.str r8.Other, .sl false false (r8.Kids.map encI)]), (100, .cells 36 [V.int a0.Kind, V.int a0.Op, V.str a0.Text, V.str a0.Other, .sl false false (a0.Kids.map encI)])] (LayOk.cons (j := 102) encI encI r8.Kids (by kernel_rfl) (fun _ => by first | rfl | kernel_rfl) (show LayOk _ [] from trivial)) (by kernel_rfl) (by kernel_rfl) (by kernel_rfl) ?_
    obtain ⟨r11, hx13, h⟩ := bind_some h
    refine CodeOk.cutR (tl 27 [(1, .loc 100 0), (4, V.bool r6), (5, .loc 103 0), (6, V.bool r11)]) [(103, .cells 39 [V.int r8.Kind, V.int r8.Op, V.str r8.Text, V.str r8.Other, .sl false false (r8.Kids.map encI)]), (100, .cells 36 [V.int a0.Kind, V.int a0.Op, V.str a0.Text, V.str a0.Other, .sl false false (a0.Kids.map encI)])] mix (by
        refine W.run D_ok 1 104 (by kernel_rfl) ?_
        refine W.call0 (m_impl_IsHole_ok r8 hx13) cok23 rfl (by kernel_rfl) ?_
        refine W.run D_ok 1 104 (by kernel_rfl) ?_
        exact W.fin (by decide) (by kernel_rfl) (Weak.sel [(103, 103), (100, 100)] [1, 4, 5, 6] (by kernel_rfl) (by kernel_rfl) (by kernel_rfl))
        ) ?_
    refine CodeOk.seq' ?_
    refine CodeOk.cutR (tl 27 [(1, .loc 100 0), (5, .loc 103 0), (21, V.bool (!(r11 == r6)))]) [(103, .cells 39 [V.int r8.Kind, V.int r8.Op, V.str r8.Text, V.str r8.Other, .sl false false (r8.Kids.map encI)]), (100, .cells 36 [V.int a0.Kind, V.int a0.Op, V.str a0.Text, V.str a0.Other, .sl false false (a0.Kids.map encI)])] mix (by
        refine W.run D_ok 3 104 (by kernel_rfl) ?_
        exact W.fin (by decide) (by kernel_rfl) (Weak.sel [(103, 103), (100, 100)] [1, 5, 21] (by kernel_rfl) (by kernel_rfl) (by kernel_rfl))
        ) ?_
    rcases cond_some h with ⟨hc15, h⟩ | ⟨hc15, h⟩
    · refine CodeOk.ifT hc15 (by kernel_rfl) ?_
      refine CodeOk.cutR (tl 27 [(2, V.bool false)]) [] mix (by
          refine W.run D_ok 1 104 (by kernel_rfl) ?_
          exact W.fin (by decide) (by kernel_rfl) (Weak.sel [] [2] (by kernel_rfl) (by kernel_rfl) (by kernel_rfl))
          ) ?_
      refine CodeOk.ret ?_
      have h := Option.some.inj h
      subst h
      exact Ends.one' (r := V.bool false) [] (.inr rfl) rfl (by kernel_rfl) (by kernel_rfl) (by kernel_rfl) (by kernel_rfl)
    · refine CodeOk.ifF hc15 (by kernel_rfl) ?_
      refine CodeOk.skip ?_
      refine CodeOk.weak (st' := ⟨tl 27 [(1, .loc 100 0), (5, .loc 103 0), (21, V.bool (!(r11 == r6)))], [(103, .cells 39 [V.int r8.Kind, V.int r8.Op, V.str r8.Text, V.str r8.Other, .sl false false (r8.Kids.map encI)]), (100, .cells 36 [V.int a0.Kind, V.int a0.Op, V.str a0.Text, V.str a0.Other, .sl false false (a0.Kids.map encI)])]⟩) (Weak.refl _) ?_
      refine CodeOk.seq' ?_
      obtain ⟨r18, hx23, h⟩ := bind_some h
      obtain ⟨r19, hx24, h⟩ := bind_some h
      refine CodeOk.cutR (tl 27 [(26, V.bool (!r19))]) [] mix (by
          refine W.run D_ok 2 104 (by kernel_rfl) ?_
          refine W.call (m_laws_toNode_ok N a0 hx23) cok22 [] [(100, 104)] [104] (show LayOk _ [] from trivial) (by kernel_rfl) (by kernel_rfl) ?_
          refine W.call (m_laws_eqNode_ok N r8 r18 hx24) cok24 [] [] [] (LayOk.cons (j := 104) encI encI r18.Kids (by kernel_rfl) (fun _ => by first | rfl | kernel_rfl) (show LayOk _ [] from trivial)) (by kernel_rfl) (by kernel_rfl) ?_
          refine W.run D_ok 1 105 (by kernel_rfl) ?_
          exact W.fin (by decide) (by kernel_rfl) (Weak.sel [] [26] (by kernel_rfl) (by kernel_rfl) (by kernel_rfl))
          ) ?_
      rcases cond_some h with ⟨hc25, h⟩ | ⟨hc25, h⟩
      · refine CodeOk.ifT hc25 (by kernel_rfl) ?_
        refine CodeOk.cutR (tl 27 [(2, V.bool false)]) [] mix (by
            refine W.run D_ok 1 105 (by kernel_rfl) ?_
            exact W.fin (by decide) (by kernel_rfl) (Weak.sel [] [2] (by kernel_rfl) (by kernel_rfl) (by kernel_rfl))
            ) ?_
        refine CodeOk.ret ?_
        have h := Option.some.inj h
        subst h
        exact Ends.one' (r := V.bool false) [] (.inr rfl) rfl (by kernel_rfl) (by kernel_rfl) (by kernel_rfl) (by kernel_rfl)
      · refine CodeOk.ifF hc25 (by kernel_rfl) ?_
        refine CodeOk.skip ?_
        refine CodeOk.weak (st' := ⟨tl 27 [(26, V.bool (!r19))], []⟩) (Weak.refl _) ?_
        refine CodeOk.cutR (tl 27 [(2, V.bool true)]) [] mix (by
            refine W.run D_ok 1 105 (by kernel_rfl) ?_
            exact W.fin (by decide) (by kernel_rfl) (Weak.sel [] [2] (by kernel_rfl) (by kernel_rfl) (by kernel_rfl))
            ) ?_
        refine CodeOk.ret ?_
        have h := Option.some.inj h
        subst h
        exact Ends.one' (r := V.bool true) [] (.inr rfl) rfl (by kernel_rfl) (by kernel_rfl) (by kernel_rfl) (by kernel_rfl)

theorem cok7 : callOk Try.prog 7 := fun _ _ => Try.call7 _ _

end Go.Proofs.Try

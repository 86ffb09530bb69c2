/-
  The walks that show that the code computes the models, part 2.
-/
import Derived.Test.YtefhoiablidajaaDoorDcW1
namespace Go.Proofs.Tryd
open Go.Av
set_option maxRecDepth 100000
set_option maxHeartbeats 8000000
set_option linter.unusedSimpArgs false
set_option linter.unusedVariables false

theorem m_impl_writer__lay_ok (N : Nat) (a1 : SDoc) (p0_1 : Int) (p2_0 : Int) (p3 : List UInt8) (p4 : List SPiece) {r : ((List UInt8) × Int × (List SPiece))} (h : m_impl_writer__lay N a1 p0_1 p2_0 p3 p4 = some r) :
    AC Tryd.prog (GS []) 28 [.loc 0 0, .agg [V.int a1.kind, V.int a1.n, V.str a1.text, .sl false false (a1.kids.map encSDoc), V.int a1.group], .fn 29 [.loc 1 0, .loc 2 0]] [(0, .cells 58 [.own 3, V.int p0_1, .own 4]), (1, .cells 55 [.loc 0 0]), (2, .cells 3 [V.int p2_0]), (3, .vec false 5 1 (p3.map byteRow)), (4, .vec false 72 7 (p4.map encSPiece))] (.tup []) [(0, .cells 58 [.own 100, V.int r.2.1, .own 101]), (1, .cells 55 [.loc 0 0]), (2, .cells 3 [V.int p2_0]), (100, .vec false 5 1 (r.1.map byteRow)), (101, .vec false (.sp 72) 7 (r.2.2.map encSPiece))] := by
 rw [m_impl_writer__lay] at h
 refine AC.enter Tryd.func28 rfl ?_
 refine cu D_ok mix 1 100 (tl 140 [(0, .loc 0 0), (2, .fn 29 [.loc 1 0, .loc 2 0]), (4, .loc 100 0)]) [(100, .cells 43 [V.int a1.kind, V.int a1.n, V.str a1.text, .sl false false (a1.kids.map encSDoc), V.int a1.group]), (0, .cells 58 [.own 3, V.int p0_1, .own 4]), (1, .cells 55 [.loc 0 0]), (2, .cells 3 [V.int p2_0]), (3, .vec false 5 1 (p3.map byteRow)), (4, .vec false 72 7 (p4.map encSPiece))] (by kernel_rfl) ?_
 refine CodeOk.cutR (tl 140 [(0, .loc 0 0), (2, .fn 29 [.loc 1 0, .loc 2 0])]) [(0, .cells 58 [.own 3, V.int p0_1, .own 101]), (101, .vec false 72 7 ([(⟨a1, 0, false⟩ : SPiece)].map encSPiece)), (1, .cells 55 [.loc 0 0]), (2, .cells 3 [V.int p2_0]), (3, .vec false 5 1 (p3.map byteRow)), (4, .vec false 72 7 (p4.map encSPiece))] mix (by
  refine W.run D_ok 3 101 (by kernel_rfl) ?_
  refine W.layop D_ok (show LayOk _ [] from trivial) (by kernel_rfl) 101 { v := .own 101, R := [], new := [(101, .vec true 72 7 [[V.int a1.kind, V.int a1.n, V.str a1.text, .sl false false (a1.kids.map encSDoc), V.int a1.group, V.int 0, V.bool false]])], N := [101] } (by kernel_rfl) ?_
  refine W.vecEq 101 (nn := true) (e := 72) (k := 7) (rows := [[V.int a1.kind, V.int a1.n, V.str a1.text, .sl false false (a1.kids.map encSDoc), V.int a1.group, V.int 0, V.bool false]]) (rows' := [(⟨a1, 0, false⟩ : SPiece)].map encSPiece) (by kernel_rfl) (by kernel_rfl) ?_
  refine W.run D_ok 3 102 (by kernel_rfl) ?_
  exact W.fi (by kernel_rfl)
  ) ?_
 refine CodeOk.block' ?_
 refine CodeOk.loopJ (fun (⟨p4, y24, y25, y26⟩ : ((List SPiece) × Int × (List UInt8) × (List SPiece))) => ⟨tl 140 [(0, .loc 0 0), (2, .fn 29 [.loc 1 0, .loc 2 0])], [(0, .cells 58 [.own 100, V.int y24, .own 101]), (1, .cells 55 [.loc 0 0]), (2, .cells 3 [V.int p2_0]), (4, .vec false 72 7 (p4.map encSPiece)), (100, .vec false 5 1 (y25.map byteRow)), (101, .vec false (.sp 72) 7 (y26.map encSPiece))]⟩) (fun n i => m_impl_writer__lay_l1 N p0_1 p2_0 n i = some r) (n0 := N) (i0 := (p4, p0_1, p3, [(⟨a1, 0, false⟩ : SPiece)])) ((Weak.toSp 101 (nn := false) (e := 72) (k := 7) (rows := ([(⟨a1, 0, false⟩ : SPiece)] : List SPiece).map encSPiece) (by kernel_rfl)).trans (Weak.sel [(0, 0), (1, 1), (2, 2), (4, 4), (3, 100), (101, 101)] [0, 2] (by kernel_rfl) (by kernel_rfl) (by kernel_rfl))) h (fun i h => by simp [m_impl_writer__lay_l1] at h) ?_
 rintro n1 ⟨p4, y24, y25, y26⟩ h65 ih66
 rw [m_impl_writer__lay_l1] at h65
 refine CodeOk.seq' ?_
 refine CodeOk.cutR (tl 140 [(0, .loc 0 0), (2, .fn 29 [.loc 1 0, .loc 2 0]), (18, V.bool (decide ((y26.length : Int) > 0)))]) [(0, .cells 58 [.own 100, V.int y24, .own 101]), (1, .cells 55 [.loc 0 0]), (2, .cells 3 [V.int p2_0]), (4, .vec false 72 7 (p4.map encSPiece)), (100, .vec false 5 1 (y25.map byteRow)), (101, .vec false (.sp 72) 7 (y26.map encSPiece))] mix (by
  refine W.run D_ok 4 170 (by kernel_rfl) ?_
  refine W.len D_ok encSPiece y26 [101] (by kernel_rfl) (by kernel_rfl) ?_
  refine W.run D_ok 1 170 (by kernel_rfl) ?_
  exact W.fi (by kernel_rfl)
  ) ?_
 (revert h65; refine cond_rev (fun hc68 h65 => ?_) (fun hc68 h65 => ?_))
 ·refine CodeOk.ifT hc68 (by kernel_rfl) ?_
  refine CodeOk.skip ?_
  refine CodeOk.block' ?_
  (revert h65; refine bind_rev fun e54 hx70 h65 => ?_)
  refine CodeOk.cutR (tl 140 [(0, .loc 0 0), (2, .fn 29 [.loc 1 0, .loc 2 0]), (6, .loc 170 0)]) [(170, .cells 72 [V.int e54.doc.kind, V.int e54.doc.n, V.str e54.doc.text, .sl false false (e54.doc.kids.map encSDoc), V.int e54.doc.group, V.int e54.indent, V.bool e54.flat]), (0, .cells 58 [.own 100, V.int y24, .own 101]), (1, .cells 55 [.loc 0 0]), (2, .cells 3 [V.int p2_0]), (4, .vec false 72 7 (p4.map encSPiece)), (100, .vec false 5 1 (y25.map byteRow)), (101, .vec false (.sp 72) 7 (y26.map encSPiece))] mix (by
   refine W.run D_ok 8 170 (by kernel_rfl) ?_
   refine W.len D_ok encSPiece y26 [101] (by kernel_rfl) (by kernel_rfl) ?_
   refine W.run D_ok 1 170 (by kernel_rfl) ?_
   refine W.ixO D_ok encSPiece hx70 101 7 (by kernel_rfl) ?_
   refine W.ldO D_ok encSPiece hx70 72 101 0 (.agg [V.int e54.doc.kind, V.int e54.doc.n, V.str e54.doc.text, .sl false false (e54.doc.kids.map encSDoc), V.int e54.doc.group, V.int e54.indent, V.bool e54.flat]) (by kernel_rfl) (by kernel_rfl) ?_
   refine W.run D_ok 2 170 (by kernel_rfl) ?_
   exact W.fi (by kernel_rfl)
   ) ?_
  (revert h65; refine bind_rev fun l56 hx72 h65 => ?_)
  refine CodeOk.cutR (tl 140 [(0, .loc 0 0), (2, .fn 29 [.loc 1 0, .loc 2 0]), (6, .loc 170 0)]) [(0, .cells 58 [.own 100, V.int y24, .own 171]), (171, .vec false (.sp 72) 7 (l56.map encSPiece)), (170, .cells 72 [V.int e54.doc.kind, V.int e54.doc.n, V.str e54.doc.text, .sl false false (e54.doc.kids.map encSDoc), V.int e54.doc.group, V.int e54.indent, V.bool e54.flat]), (1, .cells 55 [.loc 0 0]), (2, .cells 3 [V.int p2_0]), (4, .vec false 72 7 (p4.map encSPiece)), (100, .vec false 5 1 (y25.map byteRow))] mix (by
   refine W.run D_ok 9 171 (by kernel_rfl) ?_
   refine W.len D_ok encSPiece y26 [101] (by kernel_rfl) (by kernel_rfl) ?_
   refine W.run D_ok 1 171 (by kernel_rfl) ?_
   refine W.cutO D_ok encSPiece hx72 171 (j := 101) (el := 72) (sz := 7) (by kernel_rfl) ?_
   refine W.run D_ok 3 172 (by kernel_rfl) ?_
   exact W.fi (by kernel_rfl)
   ) ?_
  refine cu D_ok mix 3 172 (tl 140 [(0, .loc 0 0), (2, .fn 29 [.loc 1 0, .loc 2 0]), (6, .loc 170 0), (47, V.int e54.doc.kind)]) [(0, .cells 58 [.own 100, V.int y24, .own 171]), (171, .vec false (.sp 72) 7 (l56.map encSPiece)), (170, .cells 72 [V.int e54.doc.kind, V.int e54.doc.n, V.str e54.doc.text, .sl false false (e54.doc.kids.map encSDoc), V.int e54.doc.group, V.int e54.indent, V.bool e54.flat]), (1, .cells 55 [.loc 0 0]), (2, .cells 3 [V.int p2_0]), (4, .vec false 72 7 (p4.map encSPiece)), (100, .vec false 5 1 (y25.map byteRow))] (by kernel_rfl) ?_
  refine CodeOk.block' ?_
  refine cu D_ok mix 2 172 (tl 140 [(0, .loc 0 0), (2, .fn 29 [.loc 1 0, .loc 2 0]), (6, .loc 170 0), (47, V.int e54.doc.kind), (56, V.bool (e54.doc.kind == 1))]) [(0, .cells 58 [.own 100, V.int y24, .own 171]), (171, .vec false (.sp 72) 7 (l56.map encSPiece)), (170, .cells 72 [V.int e54.doc.kind, V.int e54.doc.n, V.str e54.doc.text, .sl false false (e54.doc.kids.map encSDoc), V.int e54.doc.group, V.int e54.indent, V.bool e54.flat]), (1, .cells 55 [.loc 0 0]), (2, .cells 3 [V.int p2_0]), (4, .vec false 72 7 (p4.map encSPiece)), (100, .vec false 5 1 (y25.map byteRow))] (by kernel_rfl) ?_
  (revert h65; refine cond_rev (fun hc73 h65 => ?_) (fun hc73 h65 => ?_))
  ·refine CodeOk.ifT hc73 (by kernel_rfl) ?_
   (revert h65; refine bind_rev fun x58 hx75 h65 => ?_)
   refine CodeOk.cutR (tl 140 [(0, .loc 0 0), (2, .fn 29 [.loc 1 0, .loc 2 0]), (6, .loc 170 0)]) [(0, .cells 58 [.own 172, V.int y24, .own 171]), (172, .vec false 5 1 (x58.map byteRow)), (171, .vec false (.sp 72) 7 (l56.map encSPiece)), (170, .cells 72 [V.int e54.doc.kind, V.int e54.doc.n, V.str e54.doc.text, .sl false false (e54.doc.kids.map encSDoc), V.int e54.doc.group, V.int e54.indent, V.bool e54.flat]), (1, .cells 55 [.loc 0 0]), (2, .cells 3 [V.int p2_0]), (4, .vec false 72 7 (p4.map encSPiece))] mix (by
    refine W.run D_ok 8 172 (by kernel_rfl) ?_
    refine W.appS D_ok (a := 100) (el := 5) 1 hx75 rfl 172 (by kernel_rfl) ?_
    refine W.run D_ok 3 173 (by kernel_rfl) ?_
    exact W.fi (by kernel_rfl)
    ) ?_
   refine ce D_ok mix 12 173 (tl 140 [(0, .loc 0 0), (2, .fn 29 [.loc 1 0, .loc 2 0])]) [(0, .cells 58 [.own 172, V.int (IntKind.wrap .i64 (y24 + (e54.doc.text.length : Int))), .own 171]), (172, .vec false 5 1 (x58.map byteRow)), (171, .vec false (.sp 72) 7 (l56.map encSPiece)), (1, .cells 55 [.loc 0 0]), (2, .cells 3 [V.int p2_0]), (4, .vec false 72 7 (p4.map encSPiece))] (by kernel_rfl) (fun st hw => ?_)
   exact ih66 (p4, (IntKind.wrap .i64 (y24 + (e54.doc.text.length : Int))), x58, l56) h65 _ (hw.trans (Weak.sel [(0, 0), (1, 1), (2, 2), (4, 4), (172, 100), (171, 101)] [0, 2] (by kernel_rfl) (by kernel_rfl) (by kernel_rfl)))
  refine CodeOk.ifF hc73 (by kernel_rfl) ?_
  refine cu D_ok mix 2 172 (tl 140 [(0, .loc 0 0), (2, .fn 29 [.loc 1 0, .loc 2 0]), (6, .loc 170 0), (47, V.int e54.doc.kind), (80, V.bool (e54.doc.kind == 2))]) [(0, .cells 58 [.own 100, V.int y24, .own 171]), (171, .vec false (.sp 72) 7 (l56.map encSPiece)), (170, .cells 72 [V.int e54.doc.kind, V.int e54.doc.n, V.str e54.doc.text, .sl false false (e54.doc.kids.map encSDoc), V.int e54.doc.group, V.int e54.indent, V.bool e54.flat]), (1, .cells 55 [.loc 0 0]), (2, .cells 3 [V.int p2_0]), (4, .vec false 72 7 (p4.map encSPiece)), (100, .vec false 5 1 (y25.map byteRow))] (by kernel_rfl) ?_
  (revert h65; refine cond_rev (fun hc76 h65 => ?_) (fun hc76 h65 => ?_))
  ·refine CodeOk.ifT hc76 (by kernel_rfl) ?_
   refine cu D_ok mix 2 172 (tl 140 [(0, .loc 0 0), (2, .fn 29 [.loc 1 0, .loc 2 0]), (6, .loc 170 0), (83, V.bool e54.flat)]) [(0, .cells 58 [.own 100, V.int y24, .own 171]), (171, .vec false (.sp 72) 7 (l56.map encSPiece)), (170, .cells 72 [V.int e54.doc.kind, V.int e54.doc.n, V.str e54.doc.text, .sl false false (e54.doc.kids.map encSDoc), V.int e54.doc.group, V.int e54.indent, V.bool e54.flat]), (1, .cells 55 [.loc 0 0]), (2, .cells 3 [V.int p2_0]), (4, .vec false 72 7 (p4.map encSPiece)), (100, .vec false 5 1 (y25.map byteRow))] (by kernel_rfl) ?_
   (revert h65; refine cond_rev (fun hc77 h65 => ?_) (fun hc77 h65 => ?_))
   ·refine CodeOk.ifT hc77 (by kernel_rfl) ?_
    (revert h65; refine bind_rev fun x60 hx79 h65 => ?_)
    refine CodeOk.cutR (tl 140 [(0, .loc 0 0), (2, .fn 29 [.loc 1 0, .loc 2 0])]) [(0, .cells 58 [.own 173, V.int y24, .own 171]), (173, .vec false 5 1 (x60.map byteRow)), (171, .vec false (.sp 72) 7 (l56.map encSPiece)), (1, .cells 55 [.loc 0 0]), (2, .cells 3 [V.int p2_0]), (4, .vec false 72 7 (p4.map encSPiece))] mix (by
     refine W.run D_ok 6 172 (by kernel_rfl) ?_
     refine W.appO D_ok byteRow (a := 100) (c := 172) (el := 5) (sz := 1) 1 hx79 rfl 173 (by kernel_rfl) ?_
     refine W.run D_ok 3 174 (by kernel_rfl) ?_
     exact W.fi (by kernel_rfl)
     ) ?_
    refine ce D_ok mix 8 174 (tl 140 [(0, .loc 0 0), (2, .fn 29 [.loc 1 0, .loc 2 0])]) [(0, .cells 58 [.own 173, V.int (IntKind.wrap .i64 (y24 + 1)), .own 171]), (173, .vec false 5 1 (x60.map byteRow)), (171, .vec false (.sp 72) 7 (l56.map encSPiece)), (1, .cells 55 [.loc 0 0]), (2, .cells 3 [V.int p2_0]), (4, .vec false 72 7 (p4.map encSPiece))] (by kernel_rfl) (fun st hw => ?_)
    exact ih66 (p4, (IntKind.wrap .i64 (y24 + 1)), x60, l56) h65 _ (hw.trans (Weak.sel [(0, 0), (1, 1), (2, 2), (4, 4), (173, 100), (171, 101)] [0, 2] (by kernel_rfl) (by kernel_rfl) (by kernel_rfl)))
   refine CodeOk.ifF hc77 (by kernel_rfl) ?_
   (revert h65; refine bind_rev fun r62 hx81 h65 => ?_)
   refine CodeOk.endR (tl 140 [(0, .loc 0 0), (2, .fn 29 [.loc 1 0, .loc 2 0])]) [(172, .vec false 5 1 (r62.1.map byteRow)), (0, .cells 58 [.own 172, V.int r62.2, .own 171]), (171, .vec false (.sp 72) 7 (l56.map encSPiece)), (1, .cells 55 [.loc 0 0]), (2, .cells 3 [V.int p2_0]), (4, .vec false 72 7 (p4.map encSPiece))] mix (by
    refine W.run D_ok 3 172 (by kernel_rfl) ?_
    refine W.call (m_impl_writer__line_ok e54.indent y24 y25 l56 hx81) cok41 [(0, 0), (100, 1), (171, 2)] [(0, 0), (2, 171), (100, 172)] [172] (show LayOk _ [] from trivial) (by kernel_rfl) (by kernel_rfl) ?_
    exact W.fi (by kernel_rfl)
    ) (fun st hw => ?_)
   exact ih66 (p4, r62.2, r62.1, l56) h65 _ (hw.trans (Weak.sel [(0, 0), (1, 1), (2, 2), (4, 4), (172, 100), (171, 101)] [0, 2] (by kernel_rfl) (by kernel_rfl) (by kernel_rfl)))
  refine CodeOk.ifF hc76 (by kernel_rfl) ?_
  refine cu D_ok mix 2 172 (tl 140 [(0, .loc 0 0), (2, .fn 29 [.loc 1 0, .loc 2 0]), (6, .loc 170 0), (47, V.int e54.doc.kind), (104, V.bool (e54.doc.kind == 3))]) [(0, .cells 58 [.own 100, V.int y24, .own 171]), (171, .vec false (.sp 72) 7 (l56.map encSPiece)), (170, .cells 72 [V.int e54.doc.kind, V.int e54.doc.n, V.str e54.doc.text, .sl false false (e54.doc.kids.map encSDoc), V.int e54.doc.group, V.int e54.indent, V.bool e54.flat]), (1, .cells 55 [.loc 0 0]), (2, .cells 3 [V.int p2_0]), (4, .vec false 72 7 (p4.map encSPiece)), (100, .vec false 5 1 (y25.map byteRow))] (by kernel_rfl) ?_
  (revert h65; refine cond_rev (fun hc82 h65 => ?_) (fun hc82 h65 => ?_))
  ·refine CodeOk.ifT hc82 (by kernel_rfl) ?_
   (revert h65; refine bind_rev fun r64 hx84 h65 => ?_)
   refine CodeOk.endR (tl 140 [(0, .loc 0 0), (2, .fn 29 [.loc 1 0, .loc 2 0])]) [(172, .vec false 5 1 (r64.1.map byteRow)), (0, .cells 58 [.own 172, V.int r64.2, .own 171]), (171, .vec false (.sp 72) 7 (l56.map encSPiece)), (1, .cells 55 [.loc 0 0]), (2, .cells 3 [V.int p2_0]), (4, .vec false 72 7 (p4.map encSPiece))] mix (by
    refine W.run D_ok 3 172 (by kernel_rfl) ?_
    refine W.call (m_impl_writer__line_ok e54.indent y24 y25 l56 hx84) cok41 [(0, 0), (100, 1), (171, 2)] [(0, 0), (2, 171), (100, 172)] [172] (show LayOk _ [] from trivial) (by kernel_rfl) (by kernel_rfl) ?_
    exact W.fi (by kernel_rfl)
    ) (fun st hw => ?_)
   exact ih66 (p4, r64.2, r64.1, l56) h65 _ (hw.trans (Weak.sel [(0, 0), (1, 1), (2, 2), (4, 4), (172, 100), (171, 101)] [0, 2] (by kernel_rfl) (by kernel_rfl) (by kernel_rfl)))
  refine CodeOk.ifF hc82 (by kernel_rfl) ?_
  refine cu D_ok mix 2 172 (tl 140 [(0, .loc 0 0), (2, .fn 29 [.loc 1 0, .loc 2 0]), (6, .loc 170 0), (47, V.int e54.doc.kind), (110, V.bool (e54.doc.kind == 4))]) [(0, .cells 58 [.own 100, V.int y24, .own 171]), (171, .vec false (.sp 72) 7 (l56.map encSPiece)), (170, .cells 72 [V.int e54.doc.kind, V.int e54.doc.n, V.str e54.doc.text, .sl false false (e54.doc.kids.map encSDoc), V.int e54.doc.group, V.int e54.indent, V.bool e54.flat]), (1, .cells 55 [.loc 0 0]), (2, .cells 3 [V.int p2_0]), (4, .vec false 72 7 (p4.map encSPiece)), (100, .vec false 5 1 (y25.map byteRow))] (by kernel_rfl) ?_
  (revert h65; refine cond_rev (fun hc85 h65 => ?_) (fun hc85 h65 => ?_))
  ·refine CodeOk.ifT hc85 (by kernel_rfl) ?_
   (revert h65; refine bind_rev fun r66 hx87 h65 => ?_)
   refine CodeOk.endR (tl 140 [(0, .loc 0 0), (2, .fn 29 [.loc 1 0, .loc 2 0])]) [(172, .vec false (.sp 72) 7 (r66.map encSPiece)), (0, .cells 58 [.own 100, V.int y24, .own 172]), (1, .cells 55 [.loc 0 0]), (2, .cells 3 [V.int p2_0]), (4, .vec false 72 7 (p4.map encSPiece)), (100, .vec false 5 1 (y25.map byteRow))] mix (by
    refine W.run D_ok 11 172 (by kernel_rfl) ?_
    refine W.call (m_impl_writer__push_ok N e54.doc (IntKind.wrap .i64 (e54.indent + e54.doc.n)) e54.flat y24 y25 l56 hx87) cok42 [(0, 0), (100, 1), (171, 2)] [(0, 0), (1, 100), (100, 172)] [172] (show LayOk _ [] from trivial) (by kernel_rfl) (by kernel_rfl) ?_
    exact W.fi (by kernel_rfl)
    ) (fun st hw => ?_)
   exact ih66 (p4, y24, y25, r66) h65 _ (hw.trans (Weak.sel [(0, 0), (1, 1), (2, 2), (4, 4), (100, 100), (172, 101)] [0, 2] (by kernel_rfl) (by kernel_rfl) (by kernel_rfl)))
  refine CodeOk.ifF hc85 (by kernel_rfl) ?_
  refine cu D_ok mix 2 172 (tl 140 [(0, .loc 0 0), (2, .fn 29 [.loc 1 0, .loc 2 0]), (6, .loc 170 0), (124, V.bool (e54.doc.kind == 5))]) [(0, .cells 58 [.own 100, V.int y24, .own 171]), (171, .vec false (.sp 72) 7 (l56.map encSPiece)), (170, .cells 72 [V.int e54.doc.kind, V.int e54.doc.n, V.str e54.doc.text, .sl false false (e54.doc.kids.map encSDoc), V.int e54.doc.group, V.int e54.indent, V.bool e54.flat]), (1, .cells 55 [.loc 0 0]), (2, .cells 3 [V.int p2_0]), (4, .vec false 72 7 (p4.map encSPiece)), (100, .vec false 5 1 (y25.map byteRow))] (by kernel_rfl) ?_
  (revert h65; refine cond_rev (fun hc88 h65 => ?_) (fun hc88 h65 => ?_))
  ·refine CodeOk.ifT hc88 (by kernel_rfl) ?_
   (revert h65; refine bind_rev fun y70 hv93 h65 => ?_)
   refine CodeOk.endR (tl 140 [(0, .loc 0 0), (2, .fn 29 [.loc 1 0, .loc 2 0])]) [(0, .cells 58 [.own 100, V.int y24, .own 101]), (1, .cells 55 [.loc 0 0]), (2, .cells 3 [V.int p2_0]), (4, .vec false 72 7 (p4.map encSPiece)), (100, .vec false 5 1 (y25.map byteRow)), (101, .vec false (.sp 72) 7 (y70.map encSPiece))] mix (by
    refine W.run D_ok 8 172 (by kernel_rfl) ?_
    (revert hv93; refine cond_rev (fun hc94 hv93 => ?_) (fun hc94 hv93 => ?_))
    ·refine W.is 133 hc94 (by kernel_rfl) ?_
     refine W.run D_ok 5 172 (by kernel_rfl) ?_
     (revert hv93; refine bind_rev fun r71 hx95 hv93 => ?_)
     refine W.call (m_impl_writer__push_ok N e54.doc e54.indent true y24 y25 l56 hx95) cok42 [(0, 0), (100, 1), (171, 2)] [(0, 0), (1, 100), (100, 172)] [172] (show LayOk _ [] from trivial) (by kernel_rfl) (by kernel_rfl) ?_
     have hv93 := Option.some.inj hv93
     subst hv93
     exact W.fs [(0, 0), (1, 1), (2, 2), (4, 4), (100, 100), (172, 101)] [0, 2] (by kernel_rfl)
    refine W.is 133 hc94 (by kernel_rfl) ?_
    refine W.run D_ok 3 172 (by kernel_rfl) ?_
    (revert hv93; refine bind_rev fun r72 hx96 hv93 => ?_)
    refine W.call (m_impl_Render_1_ok e54.doc p2_0 y24 y25 l56 hx96) cok29 [(1, 0), (2, 1), (0, 2), (100, 3), (171, 4)] [(0, 1), (1, 2), (2, 0), (3, 100), (4, 171)] [] (show LayOk _ [] from trivial) (by kernel_rfl) (by kernel_rfl) ?_
    refine W.run D_ok 1 172 (by kernel_rfl) ?_
    (revert hv93; refine bind_rev fun r73 hx97 hv93 => ?_)
    refine W.call (m_impl_writer__push_ok N e54.doc e54.indent r72 y24 y25 l56 hx97) cok42 [(0, 0), (100, 1), (171, 2)] [(0, 0), (1, 100), (100, 172)] [172] (show LayOk _ [] from trivial) (by kernel_rfl) (by kernel_rfl) ?_
    have hv93 := Option.some.inj hv93
    subst hv93
    exact W.fs [(0, 0), (1, 1), (2, 2), (4, 4), (100, 100), (172, 101)] [0, 2] (by kernel_rfl)
    ) (fun st hw => ?_)
   exact ih66 (p4, y24, y25, y70) h65 _ (hw.trans (Weak.sel [(0, 0), (1, 1), (2, 2), (4, 4), (100, 100), (101, 101)] [0, 2] (by kernel_rfl) (by kernel_rfl) (by kernel_rfl)))
  refine CodeOk.ifF hc88 (by kernel_rfl) ?_
  (revert h65; refine bind_rev fun r75 hx99 h65 => ?_)
  refine CodeOk.endR (tl 140 [(0, .loc 0 0), (2, .fn 29 [.loc 1 0, .loc 2 0])]) [(172, .vec false (.sp 72) 7 (r75.map encSPiece)), (0, .cells 58 [.own 100, V.int y24, .own 172]), (1, .cells 55 [.loc 0 0]), (2, .cells 3 [V.int p2_0]), (4, .vec false 72 7 (p4.map encSPiece)), (100, .vec false 5 1 (y25.map byteRow))] mix (by
   refine W.run D_ok 7 172 (by kernel_rfl) ?_
   refine W.call (m_impl_writer__push_ok N e54.doc e54.indent e54.flat y24 y25 l56 hx99) cok42 [(0, 0), (100, 1), (171, 2)] [(0, 0), (1, 100), (100, 172)] [172] (show LayOk _ [] from trivial) (by kernel_rfl) (by kernel_rfl) ?_
   exact W.fi (by kernel_rfl)
   ) (fun st hw => ?_)
  exact ih66 (p4, y24, y25, r75) h65 _ (hw.trans (Weak.sel [(0, 0), (1, 1), (2, 2), (4, 4), (100, 100), (172, 101)] [0, 2] (by kernel_rfl) (by kernel_rfl) (by kernel_rfl)))
 refine CodeOk.ifF hc68 (by kernel_rfl) ?_
 refine CodeOk.exit ?_
 have h65 := Option.some.inj h65
 subst h65
 exact Ends.gen [(0, 0), (1, 1), (2, 2), (100, 100), (101, 101)] (.inl rfl) (RetV.none rfl) (by kernel_rfl) (by kernel_rfl) (by kernel_rfl)

theorem m_impl_Render_ok (N : Nat) (a0 : List SDNode) (a1 : Int) {r : ((List UInt8) × Bool)} (h : m_impl_Render N a0 a1 = some r) :
    AC Tryd.prog (GS []) 10 [.sl false false (a0.map (encSDNode false)), V.int a1] [] (.tup [V.str r.1, V.bool r.2]) [] := by
 rw [m_impl_Render] at h
 refine AC.enter Tryd.func10 rfl ?_
 refine cu D_ok mix 3 100 (tl 27 [(0, .sl false false (a0.map (encSDNode false))), (3, .loc 100 0)]) [(100, .cells 3 [V.int a1])] (by kernel_rfl) ?_
 refine CodeOk.seq' ?_
 (revert h; refine bind_rev fun y8 hv12 h => ?_)
 refine CodeOk.cutR (tl 27 [(0, .sl false false (a0.map (encSDNode false))), (3, .loc 100 0), (14, V.bool y8)]) [(100, .cells 3 [V.int a1])] mix (by
  refine W.run D_ok 1 101 (by kernel_rfl) ?_
  (revert hv12; refine bind_rev fun r9 hx13 hv12 => ?_)
  refine W.call0 (m_impl_DocOk_ok N a0 hx13) cok19 rfl (by kernel_rfl) ?_
  refine W.run D_ok 2 101 (by kernel_rfl) ?_
  (revert hv12; refine cond_rev (fun hc14 hv12 => ?_) (fun hc14 hv12 => ?_))
  ·refine W.is 10 hc14 (by kernel_rfl) ?_
   refine W.run D_ok 4 101 (by kernel_rfl) ?_
   have hv12 := Option.some.inj hv12
   subst hv12
   exact W.fs [(100, 100)] [0, 3, 14] (by kernel_rfl)
  refine W.is 10 hc14 (by kernel_rfl) ?_
  refine W.run D_ok 1 101 (by kernel_rfl) ?_
  (revert hv12; refine bind_rev fun r10 hx15 hv12 => ?_)
  refine W.call0 (m_impl_within_ok a1 0 10000 hx15) cok27 rfl (by kernel_rfl) ?_
  refine W.run D_ok 2 101 (by kernel_rfl) ?_
  have hv12 := Option.some.inj hv12
  subst hv12
  exact W.fs [(100, 100)] [0, 3, 14] (by kernel_rfl)
  ) ?_
 (revert h; refine cond_rev (fun hc16 h => ?_) (fun hc16 h => ?_))
 ·refine CodeOk.ifT hc16 (by kernel_rfl) ?_
  refine cu D_ok mix 2 101 (tl 27 [(4, V.str []), (5, V.bool false)]) [] (by kernel_rfl) ?_
  refine CodeOk.ret ?_
  have h := Option.some.inj h
  subst h
  exact Ends.gen [] (.inr rfl) (RetV.two rfl (OneR.tmp (t := 4) (r := V.str []) (by kernel_rfl)) (OneR.tmp (t := 5) (r := V.bool false) (by kernel_rfl))) (by kernel_rfl) (by kernel_rfl) (by kernel_rfl)
 refine CodeOk.ifF hc16 (by kernel_rfl) ?_
 refine CodeOk.skip ?_
 refine cu D_ok mix 4 101 (tl 27 [(0, .sl false false (a0.map (encSDNode false))), (3, .loc 100 0), (6, .loc 102 0)]) [(102, .cells 55 [.loc 101 0]), (101, .cells 58 [.c (.slice none 0 0), V.int 0, .c (.slice none 0 0)]), (100, .cells 3 [V.int a1])] (by kernel_rfl) ?_
 refine CodeOk.weak (st' := ⟨tl 27 [(0, .sl false false (a0.map (encSDNode false))), (3, .loc 100 0), (6, .loc 102 0)], [(103, .vec false 5 1 ([].map byteRow)), (102, .cells 55 [.loc 101 0]), (101, .cells 58 [.own 103, V.int 0, .c (.slice none 0 0)]), (100, .cells 3 [V.int a1])]⟩) ((Weak.nilCell 101 0 103 5 1 (ety := 58) (cs := [.c (.slice none 0 0), V.int 0, .c (.slice none 0 0)]) (by kernel_rfl) (by kernel_rfl) (by kernel_rfl)).trans (Weak.eq (by kernel_rfl) (by kernel_rfl))) ?_
 refine CodeOk.weak (st' := ⟨tl 27 [(0, .sl false false (a0.map (encSDNode false))), (3, .loc 100 0), (6, .loc 102 0)], [(104, .vec false 72 7 ([].map encSPiece)), (103, .vec false 5 1 ([].map byteRow)), (102, .cells 55 [.loc 101 0]), (101, .cells 58 [.own 103, V.int 0, .own 104]), (100, .cells 3 [V.int a1])]⟩) ((Weak.nilCell 101 2 104 72 7 (ety := 58) (cs := [.own 103, V.int 0, .c (.slice none 0 0)]) (by kernel_rfl) (by kernel_rfl) (by kernel_rfl)).trans (Weak.eq (by kernel_rfl) (by kernel_rfl))) ?_
 (revert h; refine bind_rev fun r17 hx23 h => ?_)
 (revert h; refine bind_rev fun r18 hx24 h => ?_)
 refine CodeOk.cutR (tl 27 [(6, .loc 102 0)]) [(105, .vec false 5 1 (r18.1.map byteRow)), (106, .vec false (.sp 72) 7 (r18.2.2.map encSPiece)), (102, .cells 55 [.loc 101 0]), (101, .cells 58 [.own 105, V.int r18.2.1, .own 106])] mix (by
  refine W.run D_ok 2 105 (by kernel_rfl) ?_
  refine W.call0 (m_impl_docOf_ok N a0 hx23) cok21 rfl (by kernel_rfl) ?_
  refine W.run D_ok 1 105 (by kernel_rfl) ?_
  refine W.call (m_impl_writer__lay_ok N r17 0 a1 [] [] hx24) cok28 [(101, 0), (102, 1), (100, 2), (103, 3), (104, 4)] [(0, 101), (1, 102), (2, 100), (100, 105), (101, 106)] [105, 106] (show LayOk _ [] from trivial) (by kernel_rfl) (by kernel_rfl) ?_
  exact W.fi (by kernel_rfl)
  ) ?_
 refine CodeOk.cutR (tl 27 [(4, V.str r18.1), (5, V.bool true)]) [] mix (by
  refine W.run D_ok 4 107 (by kernel_rfl) ?_
  refine W.strO D_ok r18.1 (a := 105) (by kernel_rfl) ?_
  refine W.run D_ok 2 107 (by kernel_rfl) ?_
  exact W.fi (by kernel_rfl)
  ) ?_
 refine CodeOk.ret ?_
 have h := Option.some.inj h
 subst h
 exact Ends.gen [] (.inr rfl) (RetV.two rfl (OneR.tmp (t := 4) (r := V.str r18.1) (by kernel_rfl)) (OneR.tmp (t := 5) (r := V.bool true) (by kernel_rfl))) (by kernel_rfl) (by kernel_rfl) (by kernel_rfl)

theorem m_impl_Softened_ok (N : Nat) (a0 : List SDNode) {r : (List SDNode)} (h : m_impl_Softened N a0 = some r) :
    AC Tryd.prog (GS []) 12 [.sl false false (a0.map (encSDNode false))] [] (.own 100) [(100, .vec false 51 4 (r.map (encSDNode true)))] := by
 rw [m_impl_Softened] at h
 refine AC.enter Tryd.func12 rfl ?_
 refine cu D_ok mix 1 100 (tl 8 [(0, .sl false false (a0.map (encSDNode false)))]) [] (by kernel_rfl) ?_
 refine CodeOk.seq' ?_
 (revert h; refine bind_rev fun r4 hx5 h => ?_)
 refine CodeOk.cutR (tl 8 [(0, .sl false false (a0.map (encSDNode false))), (5, V.bool (!r4))]) [] mix (by
  refine W.run D_ok 1 100 (by kernel_rfl) ?_
  refine W.call0 (m_impl_DocOk_ok N a0 hx5) cok19 rfl (by kernel_rfl) ?_
  refine W.run D_ok 1 100 (by kernel_rfl) ?_
  exact W.fi (by kernel_rfl)
  ) ?_
 (revert h; refine cond_rev (fun hc6 h => ?_) (fun hc6 h => ?_))
 ·refine CodeOk.ifT hc6 (by kernel_rfl) ?_
  refine cu D_ok mix 1 100 (tl 8 [(2, .c (.slice none 0 0))]) [] (by kernel_rfl) ?_
  refine CodeOk.weak (Weak.nil 2 100 51 4 (by kernel_rfl) (by kernel_rfl)) ?_
  refine CodeOk.ret ?_
  have h := Option.some.inj h
  subst h
  exact Ends.gen [(100, 100)] (.inr rfl) (RetV.one rfl (OneR.tmp (t := 2) (r := .own 100) (by kernel_rfl))) (by kernel_rfl) (by kernel_rfl) (by kernel_rfl)
 refine CodeOk.ifF hc6 (by kernel_rfl) ?_
 refine CodeOk.skip ?_
 (revert h; refine bind_rev fun r6 hx8 h => ?_)
 refine CodeOk.cutR (tl 8 [(2, .own 100)]) [(100, .vec false 51 4 (r6.map (encSDNode true)))] mix (by
  refine W.run D_ok 1 100 (by kernel_rfl) ?_
  refine W.call (m_impl_copyDoc_ok N a0 3 2 hx8) cok26 [] [(100, 100)] [100] (show LayOk _ [] from trivial) (by kernel_rfl) (by kernel_rfl) ?_
  refine W.run D_ok 1 101 (by kernel_rfl) ?_
  exact W.fi (by kernel_rfl)
  ) ?_
 refine CodeOk.ret ?_
 have h := Option.some.inj h
 subst h
 exact Ends.gen [(100, 100)] (.inr rfl) (RetV.one rfl (OneR.tmp (t := 2) (r := .own 100) (by kernel_rfl))) (by kernel_rfl) (by kernel_rfl) (by kernel_rfl)

structure RecOk4 (R : Rec4) : Prop where
  m_impl_doc__flat : ∀ (a0 : SDoc) (r : ((List UInt8) × Bool)), R.m_impl_doc__flat a0 = some r → AC Tryd.prog (GS []) 30 [.agg [V.int a0.kind, V.int a0.n, V.str a0.text, .sl false false (a0.kids.map encSDoc), V.int a0.group]] [] (.tup [V.str r.1, V.bool r.2]) []

theorem m_impl_doc__flat_F_ok (N : Nat) (R : Rec4) (HR : RecOk4 R) (a0 : SDoc) {r : ((List UInt8) × Bool)} (h : m_impl_doc__flat_F N R a0 = some r) :
    AC Tryd.prog (GS []) 30 [.agg [V.int a0.kind, V.int a0.n, V.str a0.text, .sl false false (a0.kids.map encSDoc), V.int a0.group]] [] (.tup [V.str r.1, V.bool r.2]) [] := by
 rw [m_impl_doc__flat_F] at h
 refine AC.enter Tryd.func30 rfl ?_
 refine cu D_ok mix 3 100 (tl 40 [(1, .loc 100 0)]) [(100, .cells 43 [V.int a0.kind, V.int a0.n, V.str a0.text, .sl false false (a0.kids.map encSDoc), V.int a0.group])] (by kernel_rfl) ?_
 refine CodeOk.seq' ?_
 refine cu D_ok mix 2 101 (tl 40 [(1, .loc 100 0), (10, V.int a0.kind)]) [(100, .cells 43 [V.int a0.kind, V.int a0.n, V.str a0.text, .sl false false (a0.kids.map encSDoc), V.int a0.group])] (by kernel_rfl) ?_
 refine CodeOk.block' ?_
 refine cu D_ok mix 2 101 (tl 40 [(1, .loc 100 0), (10, V.int a0.kind), (11, V.bool (a0.kind == 1))]) [(100, .cells 43 [V.int a0.kind, V.int a0.n, V.str a0.text, .sl false false (a0.kids.map encSDoc), V.int a0.group])] (by kernel_rfl) ?_
 (revert h; refine cond_rev (fun hc4 h => ?_) (fun hc4 h => ?_))
 ·refine CodeOk.ifT hc4 (by kernel_rfl) ?_
  refine cu D_ok mix 4 101 (tl 40 [(2, V.str a0.text), (3, V.bool true)]) [] (by kernel_rfl) ?_
  refine CodeOk.ret ?_
  have h := Option.some.inj h
  subst h
  exact Ends.gen [] (.inr rfl) (RetV.two rfl (OneR.tmp (t := 2) (r := V.str a0.text) (by kernel_rfl)) (OneR.tmp (t := 3) (r := V.bool true) (by kernel_rfl))) (by kernel_rfl) (by kernel_rfl) (by kernel_rfl)
 refine CodeOk.ifF hc4 (by kernel_rfl) ?_
 refine cu D_ok mix 2 101 (tl 40 [(1, .loc 100 0), (10, V.int a0.kind), (15, V.bool (a0.kind == 2))]) [(100, .cells 43 [V.int a0.kind, V.int a0.n, V.str a0.text, .sl false false (a0.kids.map encSDoc), V.int a0.group])] (by kernel_rfl) ?_
 (revert h; refine cond_rev (fun hc5 h => ?_) (fun hc5 h => ?_))
 ·refine CodeOk.ifT hc5 (by kernel_rfl) ?_
  refine cu D_ok mix 2 101 (tl 40 [(2, V.str [32]), (3, V.bool true)]) [] (by kernel_rfl) ?_
  refine CodeOk.ret ?_
  have h := Option.some.inj h
  subst h
  exact Ends.gen [] (.inr rfl) (RetV.two rfl (OneR.tmp (t := 2) (r := V.str [32]) (by kernel_rfl)) (OneR.tmp (t := 3) (r := V.bool true) (by kernel_rfl))) (by kernel_rfl) (by kernel_rfl) (by kernel_rfl)
 refine CodeOk.ifF hc5 (by kernel_rfl) ?_
 refine cu D_ok mix 2 101 (tl 40 [(1, .loc 100 0), (17, V.bool (a0.kind == 3))]) [(100, .cells 43 [V.int a0.kind, V.int a0.n, V.str a0.text, .sl false false (a0.kids.map encSDoc), V.int a0.group])] (by kernel_rfl) ?_
 (revert h; refine cond_rev (fun hc6 h => ?_) (fun hc6 h => ?_))
 ·refine CodeOk.ifT hc6 (by kernel_rfl) ?_
  refine cu D_ok mix 2 101 (tl 40 [(2, V.str []), (3, V.bool false)]) [] (by kernel_rfl) ?_
  refine CodeOk.ret ?_
  have h := Option.some.inj h
  subst h
  exact Ends.gen [] (.inr rfl) (RetV.two rfl (OneR.tmp (t := 2) (r := V.str []) (by kernel_rfl)) (OneR.tmp (t := 3) (r := V.bool false) (by kernel_rfl))) (by kernel_rfl) (by kernel_rfl) (by kernel_rfl)
 refine CodeOk.ifF hc6 (by kernel_rfl) ?_
 refine CodeOk.skip ?_
 refine cu D_ok mix 2 101 (tl 40 [(1, .loc 100 0), (4, .own 101)]) [(101, .vec false 5 1 ([].map byteRow)), (100, .cells 43 [V.int a0.kind, V.int a0.n, V.str a0.text, .sl false false (a0.kids.map encSDoc), V.int a0.group])] (by kernel_rfl) ?_
 refine CodeOk.seq' ?_
 refine CodeOk.cutR (tl 40 [(4, .own 101), (21, .sl false false (a0.kids.map encSDoc)), (22, V.int (a0.kids.length : Int)), (23, V.int 0)]) [(101, .vec false 5 1 ([].map byteRow))] mix (by
  refine W.run D_ok 2 102 (by kernel_rfl) ?_
  refine W.len D_ok encSDoc a0.kids [] (by kernel_rfl) (by kernel_rfl) ?_
  refine W.run D_ok 1 102 (by kernel_rfl) ?_
  exact W.fi (by kernel_rfl)
  ) ?_
 refine CodeOk.block' ?_
 refine CodeOk.loopJ (fun (⟨a0, y53, y54⟩ : (SDoc × Int × (List UInt8))) => ⟨tl 40 [(4, .own 100), (21, .sl false false (a0.kids.map encSDoc)), (22, V.int (a0.kids.length : Int)), (23, V.int y53)], [(100, .vec false 5 1 (y54.map byteRow))]⟩) (fun n i => m_impl_doc__flat_l1 N R n i = some r) (n0 := N) (i0 := (a0, 0, [])) (Weak.sel [(101, 100)] [4, 21, 22, 23] (by kernel_rfl) (by kernel_rfl) (by kernel_rfl)) h (fun i h => by simp [m_impl_doc__flat_l1] at h) ?_
 rintro n1 ⟨a0, y53, y54⟩ h99 ih100
 rw [m_impl_doc__flat_l1] at h99
 refine cu D_ok mix 1 166 (tl 40 [(4, .own 100), (21, .sl false false (a0.kids.map encSDoc)), (22, V.int (a0.kids.length : Int)), (23, V.int y53), (24, V.bool (decide (y53 < (a0.kids.length : Int))))]) [(100, .vec false 5 1 (y54.map byteRow))] (by kernel_rfl) ?_
 refine CodeOk.seq' ?_
 (revert h99; refine cond_rev (fun hc102 h99 => ?_) (fun hc102 h99 => ?_))
 ·refine CodeOk.ifT hc102 (by kernel_rfl) ?_
  refine CodeOk.skip ?_
  refine CodeOk.seq' ?_
  refine CodeOk.block' ?_
  (revert h99; refine bind_rev fun e76 hx112 h99 => ?_)
  refine CodeOk.cutR (tl 40 [(4, .own 100), (6, .loc 166 0), (21, .sl false false (a0.kids.map encSDoc)), (22, V.int (a0.kids.length : Int)), (23, V.int y53)]) [(166, .cells 43 [V.int e76.kind, V.int e76.n, V.str e76.text, .sl false false (e76.kids.map encSDoc), V.int e76.group]), (100, .vec false 5 1 (y54.map byteRow))] mix (by
   refine W.ixDr D_ok encSDoc hx112 5 (by kernel_rfl) (encSDoc_eq e76) (by kernel_rfl) ?_
   refine W.run D_ok 3 166 (by kernel_rfl) ?_
   exact W.fi (by kernel_rfl)
   ) ?_
  (revert h99; refine bind_rev fun r78 hx114 h99 => ?_)
  refine CodeOk.cutR (tl 40 [(4, .own 100), (7, V.str r78.1), (8, V.bool r78.2), (21, .sl false false (a0.kids.map encSDoc)), (22, V.int (a0.kids.length : Int)), (23, V.int y53)]) [(100, .vec false 5 1 (y54.map byteRow))] mix (by
   refine W.run D_ok 1 167 (by kernel_rfl) ?_
   refine W.call0 (HR.m_impl_doc__flat e76 _ hx114) cok30 rfl (by kernel_rfl) ?_
   refine W.run D_ok 5 167 (by kernel_rfl) ?_
   exact W.fi (by kernel_rfl)
   ) ?_
  refine CodeOk.seq' ?_
  refine cu D_ok mix 2 167 (tl 40 [(4, .own 100), (7, V.str r78.1), (21, .sl false false (a0.kids.map encSDoc)), (22, V.int (a0.kids.length : Int)), (23, V.int y53), (33, V.bool (!r78.2))]) [(100, .vec false 5 1 (y54.map byteRow))] (by kernel_rfl) ?_
  (revert h99; refine cond_rev (fun hc116 h99 => ?_) (fun hc116 h99 => ?_))
  ·refine CodeOk.ifT hc116 (by kernel_rfl) ?_
   refine cu D_ok mix 2 167 (tl 40 [(2, V.str []), (3, V.bool false)]) [] (by kernel_rfl) ?_
   refine CodeOk.ret ?_
   have h99 := Option.some.inj h99
   subst h99
   exact Ends.gen [] (.inr rfl) (RetV.two rfl (OneR.tmp (t := 2) (r := V.str []) (by kernel_rfl)) (OneR.tmp (t := 3) (r := V.bool false) (by kernel_rfl))) (by kernel_rfl) (by kernel_rfl) (by kernel_rfl)
  refine CodeOk.ifF hc116 (by kernel_rfl) ?_
  refine CodeOk.skip ?_
  (revert h99; refine bind_rev fun x80 hx118 h99 => ?_)
  refine CodeOk.endR (tl 40 [(4, .own 167), (21, .sl false false (a0.kids.map encSDoc)), (22, V.int (a0.kids.length : Int)), (23, V.int y53)]) [(167, .vec false 5 1 (x80.map byteRow))] mix (by
   refine W.run D_ok 2 167 (by kernel_rfl) ?_
   refine W.appS D_ok (a := 100) (el := 5) 1 hx118 rfl 167 (by kernel_rfl) ?_
   refine W.run D_ok 1 168 (by kernel_rfl) ?_
   exact W.fi (by kernel_rfl)
   ) (fun st hw => ?_)
  refine CodeOk.weak hw ?_
  refine ce D_ok mix 2 168 (tl 40 [(4, .own 167), (21, .sl false false (a0.kids.map encSDoc)), (22, V.int (a0.kids.length : Int)), (23, V.int (IntKind.wrap .i64 (y53 + 1)))]) [(167, .vec false 5 1 (x80.map byteRow))] (by kernel_rfl) (fun st hw => ?_)
  exact ih100 (a0, (IntKind.wrap .i64 (y53 + 1)), x80) h99 _ (hw.trans (Weak.sel [(167, 100)] [4, 21, 22, 23] (by kernel_rfl) (by kernel_rfl) (by kernel_rfl)))
 refine CodeOk.ifF hc102 (by kernel_rfl) ?_
 refine CodeOk.exit ?_
 refine CodeOk.cutR (tl 40 [(2, V.str y54), (3, V.bool true)]) [] mix (by
  refine W.run D_ok 1 166 (by kernel_rfl) ?_
  refine W.strO D_ok y54 (a := 100) (by kernel_rfl) ?_
  refine W.run D_ok 2 166 (by kernel_rfl) ?_
  exact W.fi (by kernel_rfl)
  ) ?_
 refine CodeOk.ret ?_
 have h99 := Option.some.inj h99
 subst h99
 exact Ends.gen [] (.inr rfl) (RetV.two rfl (OneR.tmp (t := 2) (r := V.str y54) (by kernel_rfl)) (OneR.tmp (t := 3) (r := V.bool true) (by kernel_rfl))) (by kernel_rfl) (by kernel_rfl) (by kernel_rfl)

theorem scc4_ok : ∀ N, RecOk4 (scc4 N)
  | 0 => ⟨fun _ _ h => (by cases h)⟩
  | N + 1 => ⟨fun a0 _ h => m_impl_doc__flat_F_ok N (scc4 N) (scc4_ok N) a0 h⟩

theorem m_impl_doc__flat_ok (N : Nat) (a0 : SDoc) {r : ((List UInt8) × Bool)} (h : m_impl_doc__flat N a0 = some r) :
    AC Tryd.prog (GS []) 30 [.agg [V.int a0.kind, V.int a0.n, V.str a0.text, .sl false false (a0.kids.map encSDoc), V.int a0.group]] [] (.tup [V.str r.1, V.bool r.2]) [] :=
  (scc4_ok N).m_impl_doc__flat a0 r h

theorem m_impl_FlatText_ok (N : Nat) (a0 : List SDNode) {r : ((List UInt8) × Bool)} (h : m_impl_FlatText N a0 = some r) :
    AC Tryd.prog (GS []) 11 [.sl false false (a0.map (encSDNode false))] [] (.tup [V.str r.1, V.bool r.2]) [] := by
 rw [m_impl_FlatText] at h
 refine AC.enter Tryd.func11 rfl ?_
 refine cu D_ok mix 2 100 (tl 12 [(0, .sl false false (a0.map (encSDNode false)))]) [] (by kernel_rfl) ?_
 refine CodeOk.seq' ?_
 (revert h; refine bind_rev fun r4 hx5 h => ?_)
 refine CodeOk.cutR (tl 12 [(0, .sl false false (a0.map (encSDNode false))), (6, V.bool (!r4))]) [] mix (by
  refine W.run D_ok 1 100 (by kernel_rfl) ?_
  refine W.call0 (m_impl_DocOk_ok N a0 hx5) cok19 rfl (by kernel_rfl) ?_
  refine W.run D_ok 1 100 (by kernel_rfl) ?_
  exact W.fi (by kernel_rfl)
  ) ?_
 (revert h; refine cond_rev (fun hc6 h => ?_) (fun hc6 h => ?_))
 ·refine CodeOk.ifT hc6 (by kernel_rfl) ?_
  refine cu D_ok mix 2 100 (tl 12 [(2, V.str []), (3, V.bool false)]) [] (by kernel_rfl) ?_
  refine CodeOk.ret ?_
  have h := Option.some.inj h
  subst h
  exact Ends.gen [] (.inr rfl) (RetV.two rfl (OneR.tmp (t := 2) (r := V.str []) (by kernel_rfl)) (OneR.tmp (t := 3) (r := V.bool false) (by kernel_rfl))) (by kernel_rfl) (by kernel_rfl) (by kernel_rfl)
 refine CodeOk.ifF hc6 (by kernel_rfl) ?_
 refine CodeOk.skip ?_
 (revert h; refine bind_rev fun r7 hx9 h => ?_)
 (revert h; refine bind_rev fun r8 hx10 h => ?_)
 refine CodeOk.cutR (tl 12 [(2, V.str r8.1), (3, V.bool r8.2)]) [] mix (by
  refine W.run D_ok 1 100 (by kernel_rfl) ?_
  refine W.call0 (m_impl_docOf_ok N a0 hx9) cok21 rfl (by kernel_rfl) ?_
  refine W.call0 (m_impl_doc__flat_ok N r7 hx10) cok30 rfl (by kernel_rfl) ?_
  refine W.run D_ok 4 100 (by kernel_rfl) ?_
  exact W.fi (by kernel_rfl)
  ) ?_
 refine CodeOk.ret ?_
 have h := Option.some.inj h
 subst h
 exact Ends.gen [] (.inr rfl) (RetV.two rfl (OneR.tmp (t := 2) (r := V.str r8.1) (by kernel_rfl)) (OneR.tmp (t := 3) (r := V.bool r8.2) (by kernel_rfl))) (by kernel_rfl) (by kernel_rfl) (by kernel_rfl)

theorem m_impl_Deeper_ok (N : Nat) (a0 : List SDNode) (a1 : Int) {r : (List SDNode)} (h : m_impl_Deeper N a0 a1 = some r) :
    AC Tryd.prog (GS []) 13 [.sl false false (a0.map (encSDNode false)), V.int a1] [] (.own 100) [(100, .vec false 51 4 (r.map (encSDNode true)))] := by
 rw [m_impl_Deeper] at h
 refine AC.enter Tryd.func13 rfl ?_
 refine cu D_ok mix 1 100 (tl 25 [(0, .sl false false (a0.map (encSDNode false))), (1, V.int a1)]) [] (by kernel_rfl) ?_
 refine CodeOk.seq' ?_
 (revert h; refine bind_rev fun y8 hv15 h => ?_)
 refine CodeOk.cutR (tl 25 [(0, .sl false false (a0.map (encSDNode false))), (1, V.int a1), (18, V.bool y8)]) [] mix (by
  refine W.run D_ok 1 100 (by kernel_rfl) ?_
  (revert hv15; refine bind_rev fun r9 hx16 hv15 => ?_)
  refine W.call0 (m_impl_DocOk_ok N a0 hx16) cok19 rfl (by kernel_rfl) ?_
  refine W.run D_ok 2 100 (by kernel_rfl) ?_
  (revert hv15; refine cond_rev (fun hc17 hv15 => ?_) (fun hc17 hv15 => ?_))
  ·refine W.is 8 hc17 (by kernel_rfl) ?_
   refine W.run D_ok 10 100 (by kernel_rfl) ?_
   have hv15 := Option.some.inj hv15
   subst hv15
   exact W.fs [] [0, 1, 18] (by kernel_rfl)
  refine W.is 8 hc17 (by kernel_rfl) ?_
  refine W.run D_ok 1 100 (by kernel_rfl) ?_
  (revert hv15; refine bind_rev fun r10 hx18 hv15 => ?_)
  refine W.call0 (m_impl_within_ok a1 0 40 hx18) cok27 rfl (by kernel_rfl) ?_
  refine W.run D_ok 3 100 (by kernel_rfl) ?_
  (revert hv15; refine cond_rev (fun hc19 hv15 => ?_) (fun hc19 hv15 => ?_))
  ·refine W.is 13 hc19 (by kernel_rfl) ?_
   refine W.run D_ok 5 100 (by kernel_rfl) ?_
   have hv15 := Option.some.inj hv15
   subst hv15
   exact W.fs [] [0, 1, 18] (by kernel_rfl)
  refine W.is 13 hc19 (by kernel_rfl) ?_
  refine W.run D_ok 1 100 (by kernel_rfl) ?_
  refine W.len D_ok (encSDNode false) a0 [] (by kernel_rfl) (by kernel_rfl) ?_
  refine W.run D_ok 3 100 (by kernel_rfl) ?_
  have hv15 := Option.some.inj hv15
  subst hv15
  exact W.fs [] [0, 1, 18] (by kernel_rfl)
  ) ?_
 (revert h; refine cond_rev (fun hc20 h => ?_) (fun hc20 h => ?_))
 ·refine CodeOk.ifT hc20 (by kernel_rfl) ?_
  refine cu D_ok mix 1 100 (tl 25 [(4, .c (.slice none 0 0))]) [] (by kernel_rfl) ?_
  refine CodeOk.weak (Weak.nil 4 100 51 4 (by kernel_rfl) (by kernel_rfl)) ?_
  refine CodeOk.ret ?_
  have h := Option.some.inj h
  subst h
  exact Ends.gen [(100, 100)] (.inr rfl) (RetV.one rfl (OneR.tmp (t := 4) (r := .own 100) (by kernel_rfl))) (by kernel_rfl) (by kernel_rfl) (by kernel_rfl)
 refine CodeOk.ifF hc20 (by kernel_rfl) ?_
 refine CodeOk.skip ?_
 (revert h; refine bind_rev fun r13 hx23 h => ?_)
 (revert h; refine bind_rev fun r14 hx24 h => ?_)
 refine CodeOk.cutR (tl 25 [(4, .own 101)]) [(101, .vec false 51 4 (r14.map (encSDNode true)))] mix (by
  refine W.run D_ok 2 100 (by kernel_rfl) ?_
  refine W.call0 (m_impl_docOf_ok N a0 hx23) cok21 rfl (by kernel_rfl) ?_
  refine W.layop D_ok (show LayOk _ [] from trivial) (by kernel_rfl) 100 { v := .own 100, R := [], new := [(100, .vec true 43 5 [[V.int r13.kind, V.int r13.n, V.str r13.text, .sl false false (r13.kids.map encSDoc), V.int r13.group]])], N := [100] } (by kernel_rfl) ?_
  refine W.vecEq 100 (nn := true) (e := 43) (k := 5) (rows := [[V.int r13.kind, V.int r13.n, V.str r13.text, .sl false false (r13.kids.map encSDoc), V.int r13.group]]) (rows' := [r13].map encSDoc) (by kernel_rfl) (by simp only [List.map_cons, List.map_nil, encSDoc_eq]) ?_
  refine W.run D_ok 1 101 (by kernel_rfl) ?_
  refine W.lend (m_impl_doc__list_ok N (⟨4, a1, [], [r13], 0⟩ : SDoc) hx24) cok22 [(100, 101)] [101] (LayOk.cons (j := 100) encSDoc encSDoc ([r13] : List SDoc) (by kernel_rfl) (share_encSDoc) (show LayOk _ [] from trivial)) (.own _) (.cons (DeepR.map (fun _ => (.cons (.c _) (.cons (.c _) (.cons (.c _) (.cons (.sl _ _ (DeepR.map (fun _ => (.cons (.c _) .nil)) _)) .nil))))) _) .nil) (by kernel_rfl) (by kernel_rfl) ?_
  refine W.run D_ok 1 102 (by kernel_rfl) ?_
  exact W.fi (by kernel_rfl)
  ) ?_
 refine CodeOk.ret ?_
 have h := Option.some.inj h
 subst h
 exact Ends.gen [(101, 100)] (.inr rfl) (RetV.one rfl (OneR.tmp (t := 4) (r := .own 101) (by kernel_rfl))) (by kernel_rfl) (by kernel_rfl) (by kernel_rfl)

theorem m_strings_Count_ok (a0 : List UInt8) {r : Int} (h : m_strings_Count a0 = some r) :
    AC Tryd.prog (GS []) 54 [V.str a0, V.str [10]] [] (V.int r) [] := by
 rw [m_strings_Count] at h
 refine AC.enter Tryd.func54 rfl ?_
 refine cu D_ok mix 1 100 (tl 34 [(0, V.str a0), (1, V.str [10])]) [] (by kernel_rfl) ?_
 refine CodeOk.seq' ?_
 refine cu D_ok mix 3 100 (tl 34 [(0, V.str a0), (1, V.str [10]), (9, V.bool false)]) [] (by kernel_rfl) ?_
 refine CodeOk.ifF (c := false) rfl (by kernel_rfl) ?_
 refine CodeOk.skip ?_
 refine CodeOk.seq' ?_
 refine cu D_ok mix 3 100 (tl 34 [(0, V.str a0), (1, V.str [10]), (15, V.bool true)]) [] (by kernel_rfl) ?_
 refine CodeOk.ifT (c := true) rfl (by kernel_rfl) ?_
 (revert h; refine bind_rev fun b4 hx4 h => ?_)
 refine CodeOk.cutR (tl 34 [(4, V.int ((Go.Lib.countByte a0 (Int.toNat ((b4).toNat : Int)).toUInt8) : Int))]) [] mix (by
  refine W.run D_ok 2 100 (by kernel_rfl) ?_
  refine W.ixS D_ok hx4 (by kernel_rfl) ?_
  refine W.ext (vs := [.string ⟨⟨a0⟩⟩, .int .u8 ((b4).toNat : Int)]) (ext65 _ _) (by kernel_rfl) ?_
  refine W.run D_ok 1 100 (by kernel_rfl) ?_
  exact W.fi (by kernel_rfl)
  ) ?_
 refine CodeOk.ret ?_
 have h := Option.some.inj h
 subst h
 exact Ends.gen [] (.inr rfl) (RetV.one rfl (OneR.tmp (t := 4) (r := V.int ((Go.Lib.countByte a0 (Int.toNat ((b4).toNat : Int)).toUInt8) : Int)) (by kernel_rfl))) (by kernel_rfl) (by kernel_rfl) (by kernel_rfl)

theorem m_strings_genSplit_ok (N : Nat) (a0 : List UInt8) (a2 : Int) (a3 : Int) {r : (List (List UInt8))} (h : m_strings_genSplit N a0 a2 a3 = some r) :
    AC Tryd.prog (GS []) 43 [V.str a0, V.str [10], V.int a2, V.int a3] [] (.own 100) [(100, .vec false 9 1 (r.map encS))] := by
 rw [m_strings_genSplit] at h
 refine AC.enter Tryd.func43 rfl ?_
 refine cu D_ok mix 1 100 (tl 66 [(0, V.str a0), (1, V.str [10]), (2, V.int a2), (3, V.int a3)]) [] (by kernel_rfl) ?_
 refine CodeOk.seq' ?_
 refine cu D_ok mix 2 100 (tl 66 [(0, V.str a0), (1, V.str [10]), (2, V.int a2), (3, V.int a3), (13, V.bool (a3 == 0))]) [] (by kernel_rfl) ?_
 (revert h; refine cond_rev (fun hc2 h => ?_) (fun hc2 h => ?_))
 ·refine CodeOk.ifT hc2 (by kernel_rfl) ?_
  refine cu D_ok mix 1 100 (tl 66 [(8, .c (.slice none 0 0))]) [] (by kernel_rfl) ?_
  refine CodeOk.weak (Weak.nil 8 100 9 1 (by kernel_rfl) (by kernel_rfl)) ?_
  refine CodeOk.ret ?_
  have h := Option.some.inj h
  subst h
  exact Ends.gen [(100, 100)] (.inr rfl) (RetV.one rfl (OneR.tmp (t := 8) (r := .own 100) (by kernel_rfl))) (by kernel_rfl) (by kernel_rfl) (by kernel_rfl)
 refine CodeOk.ifF hc2 (by kernel_rfl) ?_
 refine CodeOk.skip ?_
 refine CodeOk.seq' ?_
 refine cu D_ok mix 2 100 (tl 66 [(0, V.str a0), (1, V.str [10]), (2, V.int a2), (3, V.int a3), (15, V.bool false)]) [] (by kernel_rfl) ?_
 refine CodeOk.ifF (c := false) rfl (by kernel_rfl) ?_
 refine CodeOk.skip ?_
 refine CodeOk.join (fun (⟨a0, a2, y3⟩ : ((List UInt8) × Int × Int)) => ⟨tl 66 [(0, V.str a0), (1, V.str [10]), (2, V.int a2), (3, V.int y3)], []⟩) (fun i => m_strings_genSplit_k1 N i = some r) ?_ ?_
 · rintro ⟨a0, a2, y3⟩ h6
   rw [m_strings_genSplit_k1] at h6
   refine cu D_ok mix 6 100 (tl 66 [(0, V.str a0), (1, V.str [10]), (2, V.int a2), (3, V.int (if (IntKind.wrap .i64 ((a0.length : Int) + 1)) < y3 then (IntKind.wrap .i64 ((a0.length : Int) + 1)) else y3))]) [] (by kernel_rfl) ?_
   (revert h6; refine bind_rev fun x5 hx8 h6 => ?_)
   refine CodeOk.cutR (tl 66 [(0, V.str a0), (1, V.str [10]), (2, V.int a2), (3, V.int (if (IntKind.wrap .i64 ((a0.length : Int) + 1)) < y3 then (IntKind.wrap .i64 ((a0.length : Int) + 1)) else y3)), (9, .own 100)]) [(100, .vec false 9 1 (x5.map encS))] mix (by
    refine W.run D_ok 1 100 (by kernel_rfl) ?_
    refine W.mk D_ok encS 16 hx8 100 9 1 [.string ⟨#[]⟩] (by kernel_rfl) (by kernel_rfl) ?_
    refine W.run D_ok 1 101 (by kernel_rfl) ?_
    exact W.fi (by kernel_rfl)
    ) ?_
   refine cu D_ok mix 3 101 (tl 66 [(0, V.str a0), (1, V.str [10]), (2, V.int a2), (3, V.int (IntKind.wrap .i64 ((if (IntKind.wrap .i64 ((a0.length : Int) + 1)) < y3 then (IntKind.wrap .i64 ((a0.length : Int) + 1)) else y3) - 1))), (9, .own 100)]) [(100, .vec false 9 1 (x5.map encS))] (by kernel_rfl) ?_
   refine cu D_ok mix 1 101 (tl 66 [(0, V.str a0), (1, V.str [10]), (2, V.int a2), (3, V.int (IntKind.wrap .i64 ((if (IntKind.wrap .i64 ((a0.length : Int) + 1)) < y3 then (IntKind.wrap .i64 ((a0.length : Int) + 1)) else y3) - 1))), (9, .own 100), (10, V.int 0)]) [(100, .vec false 9 1 (x5.map encS))] (by kernel_rfl) ?_
   refine CodeOk.join (fun (⟨y42, y43, y44⟩ : ((List UInt8) × Int × (List (List UInt8)))) => ⟨tl 66 [(0, V.str y42), (9, .own 100), (10, V.int y43)], [(100, .vec false 9 1 (y44.map encS))]⟩) (fun i => m_strings_genSplit_k2 N i = some r) ?_ ?_
   · rintro ⟨y42, y43, y44⟩ h53
     rw [m_strings_genSplit_k2] at h53
     (revert h53; refine bind_rev fun e47 hx56 h53 => ?_)
     (revert h53; refine bind_rev fun x48 hu57 h53 => ?_)
     refine CodeOk.cutR (tl 66 [(9, .own 100), (10, V.int y43)]) [(100, .vec false 9 1 (x48.map encS))] mix (by
      refine W.run D_ok 3 161 (by kernel_rfl) ?_
      refine W.ixO D_ok encS hx56 100 1 (by kernel_rfl) ?_
      refine W.stO D_ok encS (x' := y42) hx56 hu57 (j := 100) (nn := false) (ety := 9) (sz := 1) (b := 0) (ys := [V.str y42]) (C := []) (R := []) (by kernel_rfl) (by kernel_rfl) ?_
      exact W.fi (by kernel_rfl)
      ) ?_
     (revert h53; refine bind_rev fun l50 hx59 h53 => ?_)
     refine CodeOk.cutR (tl 66 [(8, .own 161)]) [(161, .vec false 9 1 (l50.map encS))] mix (by
      refine W.run D_ok 3 161 (by kernel_rfl) ?_
      refine W.cutO D_ok encS hx59 161 (j := 100) (el := 9) (sz := 1) (by kernel_rfl) ?_
      refine W.run D_ok 1 162 (by kernel_rfl) ?_
      exact W.fi (by kernel_rfl)
      ) ?_
     refine CodeOk.ret ?_
     have h53 := Option.some.inj h53
     subst h53
     exact Ends.gen [(161, 100)] (.inr rfl) (RetV.one rfl (OneR.tmp (t := 8) (r := .own 161) (by kernel_rfl))) (by kernel_rfl) (by kernel_rfl) (by kernel_rfl)
   intro hk60
   refine CodeOk.block' ?_
   refine CodeOk.loopJ (fun (⟨a2, a0, y3, y61, y62, y63⟩ : (Int × (List UInt8) × Int × (List UInt8) × Int × (List (List UInt8)))) => ⟨tl 66 [(0, V.str y61), (1, V.str [10]), (2, V.int a2), (3, V.int (IntKind.wrap .i64 ((if (IntKind.wrap .i64 ((a0.length : Int) + 1)) < y3 then (IntKind.wrap .i64 ((a0.length : Int) + 1)) else y3) - 1))), (9, .own 100), (10, V.int y62)], [(100, .vec false 9 1 (y63.map encS))]⟩) (fun n i => m_strings_genSplit_l3 N n i = some r) (n0 := N) (i0 := (a2, a0, y3, a0, 0, x5)) (Weak.sel [(100, 100)] [0, 1, 2, 3, 9, 10] (by kernel_rfl) (by kernel_rfl) (by kernel_rfl)) h6 (fun i h => by simp [m_strings_genSplit_l3] at h) ?_
   rintro n3 ⟨a2, a0, y3, y61, y62, y63⟩ h89 ih90
   rw [m_strings_genSplit_l3] at h89
   refine CodeOk.seq' ?_
   refine cu D_ok mix 3 161 (tl 66 [(0, V.str y61), (1, V.str [10]), (2, V.int a2), (3, V.int (IntKind.wrap .i64 ((if (IntKind.wrap .i64 ((a0.length : Int) + 1)) < y3 then (IntKind.wrap .i64 ((a0.length : Int) + 1)) else y3) - 1))), (9, .own 100), (10, V.int y62), (36, V.bool (decide (y62 < (IntKind.wrap .i64 ((if (IntKind.wrap .i64 ((a0.length : Int) + 1)) < y3 then (IntKind.wrap .i64 ((a0.length : Int) + 1)) else y3) - 1)))))]) [(100, .vec false 9 1 (y63.map encS))] (by kernel_rfl) ?_
   (revert h89; refine cond_rev (fun hc92 h89 => ?_) (fun hc92 h89 => ?_))
   ·refine CodeOk.ifT hc92 (by kernel_rfl) ?_
    refine CodeOk.skip ?_
    refine CodeOk.block' ?_
    (revert h89; refine bind_rev fun r78 hx94 h89 => ?_)
    refine CodeOk.cutR (tl 66 [(0, V.str y61), (1, V.str [10]), (2, V.int a2), (3, V.int (IntKind.wrap .i64 ((if (IntKind.wrap .i64 ((a0.length : Int) + 1)) < y3 then (IntKind.wrap .i64 ((a0.length : Int) + 1)) else y3) - 1))), (9, .own 100), (10, V.int y62), (11, V.int r78)]) [(100, .vec false 9 1 (y63.map encS))] mix (by
     refine W.run D_ok 2 161 (by kernel_rfl) ?_
     refine W.call0 (m_strings_Index_ok y61 hx94) cok55 rfl (by kernel_rfl) ?_
     refine W.run D_ok 1 161 (by kernel_rfl) ?_
     exact W.fi (by kernel_rfl)
     ) ?_
    refine CodeOk.seq' ?_
    refine cu D_ok mix 2 161 (tl 66 [(0, V.str y61), (1, V.str [10]), (2, V.int a2), (3, V.int (IntKind.wrap .i64 ((if (IntKind.wrap .i64 ((a0.length : Int) + 1)) < y3 then (IntKind.wrap .i64 ((a0.length : Int) + 1)) else y3) - 1))), (9, .own 100), (10, V.int y62), (11, V.int r78), (41, V.bool (decide (r78 < 0)))]) [(100, .vec false 9 1 (y63.map encS))] (by kernel_rfl) ?_
    (revert h89; refine cond_rev (fun hc96 h89 => ?_) (fun hc96 h89 => ?_))
    ·refine CodeOk.ifT hc96 (by kernel_rfl) ?_
     refine CodeOk.exit ?_
     exact hk60 (y61, y62, y63) h89 _ (Weak.sel [(100, 100)] [0, 9, 10] (by kernel_rfl) (by kernel_rfl) (by kernel_rfl))
    refine CodeOk.ifF hc96 (by kernel_rfl) ?_
    refine CodeOk.skip ?_
    (revert h89; refine bind_rev fun s82 hx100 h89 => ?_)
    (revert h89; refine bind_rev fun e83 hx101 h89 => ?_)
    (revert h89; refine bind_rev fun x84 hu102 h89 => ?_)
    refine CodeOk.cutR (tl 66 [(0, V.str y61), (1, V.str [10]), (2, V.int a2), (3, V.int (IntKind.wrap .i64 ((if (IntKind.wrap .i64 ((a0.length : Int) + 1)) < y3 then (IntKind.wrap .i64 ((a0.length : Int) + 1)) else y3) - 1))), (9, .own 100), (10, V.int y62), (11, V.int r78)]) [(100, .vec false 9 1 (x84.map encS))] mix (by
     refine W.run D_ok 6 161 (by kernel_rfl) ?_
     refine W.cutS D_ok hx100 (by kernel_rfl) ?_
     refine W.ixO D_ok encS hx101 100 1 (by kernel_rfl) ?_
     refine W.stO D_ok encS (x' := s82) hx101 hu102 (j := 100) (nn := false) (ety := 9) (sz := 1) (b := 0) (ys := [V.str s82]) (C := []) (R := []) (by kernel_rfl) (by kernel_rfl) ?_
     exact W.fi (by kernel_rfl)
     ) ?_
    (revert h89; refine bind_rev fun s86 hx104 h89 => ?_)
    refine CodeOk.cutR (tl 66 [(0, V.str s86), (1, V.str [10]), (2, V.int a2), (3, V.int (IntKind.wrap .i64 ((if (IntKind.wrap .i64 ((a0.length : Int) + 1)) < y3 then (IntKind.wrap .i64 ((a0.length : Int) + 1)) else y3) - 1))), (9, .own 100), (10, V.int y62)]) [(100, .vec false 9 1 (x84.map encS))] mix (by
     refine W.run D_ok 5 161 (by kernel_rfl) ?_
     refine W.cutS D_ok hx104 (by kernel_rfl) ?_
     refine W.run D_ok 1 161 (by kernel_rfl) ?_
     exact W.fi (by kernel_rfl)
     ) ?_
    refine ce D_ok mix 3 161 (tl 66 [(0, V.str s86), (1, V.str [10]), (2, V.int a2), (3, V.int (IntKind.wrap .i64 ((if (IntKind.wrap .i64 ((a0.length : Int) + 1)) < y3 then (IntKind.wrap .i64 ((a0.length : Int) + 1)) else y3) - 1))), (9, .own 100), (10, V.int (IntKind.wrap .i64 (y62 + 1)))]) [(100, .vec false 9 1 (x84.map encS))] (by kernel_rfl) (fun st hw => ?_)
    exact ih90 (a2, a0, y3, s86, (IntKind.wrap .i64 (y62 + 1)), x84) h89 _ (hw.trans (Weak.sel [(100, 100)] [0, 1, 2, 3, 9, 10] (by kernel_rfl) (by kernel_rfl) (by kernel_rfl)))
   refine CodeOk.ifF hc92 (by kernel_rfl) ?_
   refine CodeOk.exit ?_
   exact hk60 (y61, y62, y63) h89 _ (Weak.sel [(100, 100)] [0, 9, 10] (by kernel_rfl) (by kernel_rfl) (by kernel_rfl))
 intro hk105
 refine cu D_ok mix 2 100 (tl 66 [(0, V.str a0), (1, V.str [10]), (2, V.int a2), (3, V.int a3), (20, V.bool (decide (a3 < 0)))]) [] (by kernel_rfl) ?_
 (revert h; refine cond_rev (fun hc106 h => ?_) (fun hc106 h => ?_))
 ·refine CodeOk.ifT hc106 (by kernel_rfl) ?_
  (revert h; refine bind_rev fun r88 hx108 h => ?_)
  refine CodeOk.endR (tl 66 [(0, V.str a0), (1, V.str [10]), (2, V.int a2), (3, V.int (IntKind.wrap .i64 (r88 + 1)))]) [] mix (by
   refine W.run D_ok 2 100 (by kernel_rfl) ?_
   refine W.call0 (m_strings_Count_ok a0 hx108) cok54 rfl (by kernel_rfl) ?_
   refine W.run D_ok 2 100 (by kernel_rfl) ?_
   exact W.fi (by kernel_rfl)
   ) (fun st hw => ?_)
  exact hk105 (a0, a2, (IntKind.wrap .i64 (r88 + 1))) h _ (hw.trans (Weak.sel [] [0, 1, 2, 3] (by kernel_rfl) (by kernel_rfl) (by kernel_rfl)))
 refine CodeOk.ifF hc106 (by kernel_rfl) ?_
 refine CodeOk.skip ?_
 exact hk105 (a0, a2, a3) h _ (Weak.sel [] [0, 1, 2, 3] (by kernel_rfl) (by kernel_rfl) (by kernel_rfl))

theorem m_strings_Split_ok (N : Nat) (a0 : List UInt8) {r : (List (List UInt8))} (h : m_strings_Split N a0 = some r) :
    AC Tryd.prog (GS []) 32 [V.str a0, V.str [10]] [] (.own 100) [(100, .vec false 9 1 (r.map encS))] := by
 rw [m_strings_Split] at h
 refine AC.enter Tryd.func32 rfl ?_
 refine cu D_ok mix 1 100 (tl 8 [(0, V.str a0), (1, V.str [10])]) [] (by kernel_rfl) ?_
 (revert h; refine bind_rev fun r2 hx2 h => ?_)
 refine CodeOk.cutR (tl 8 [(4, .own 100)]) [(100, .vec false 9 1 (r2.map encS))] mix (by
  refine W.run D_ok 2 100 (by kernel_rfl) ?_
  refine W.call (m_strings_genSplit_ok N a0 0 (-1) hx2) cok43 [] [(100, 100)] [100] (show LayOk _ [] from trivial) (by kernel_rfl) (by kernel_rfl) ?_
  refine W.run D_ok 1 101 (by kernel_rfl) ?_
  exact W.fi (by kernel_rfl)
  ) ?_
 refine CodeOk.ret ?_
 have h := Option.some.inj h
 subst h
 exact Ends.gen [(100, 100)] (.inr rfl) (RetV.one rfl (OneR.tmp (t := 4) (r := .own 100) (by kernel_rfl))) (by kernel_rfl) (by kernel_rfl) (by kernel_rfl)

theorem m_impl_LinesOf_ok (N : Nat) (a0 : List UInt8) {r : (List (List UInt8))} (h : m_impl_LinesOf N a0 = some r) :
    AC Tryd.prog (GS []) 14 [V.str a0] [] (.own 100) [(100, .vec false 9 1 (r.map encS))] := by
 rw [m_impl_LinesOf] at h
 refine AC.enter Tryd.func14 rfl ?_
 refine cu D_ok mix 1 100 (tl 19 [(0, V.str a0)]) [] (by kernel_rfl) ?_
 (revert h; refine bind_rev fun r2 hx2 h => ?_)
 refine CodeOk.cutR (tl 19 [(3, .own 100)]) [(100, .vec false 9 1 (r2.map encS))] mix (by
  refine W.run D_ok 1 100 (by kernel_rfl) ?_
  refine W.call (m_strings_Split_ok N a0 hx2) cok32 [] [(100, 100)] [100] (show LayOk _ [] from trivial) (by kernel_rfl) (by kernel_rfl) ?_
  refine W.run D_ok 1 101 (by kernel_rfl) ?_
  exact W.fi (by kernel_rfl)
  ) ?_
 refine CodeOk.join (fun (y7 : (List (List UInt8))) => ⟨tl 19 [(3, .own 100)], [(100, .vec false 9 1 (y7.map encS))]⟩) (fun i => m_impl_LinesOf_k1 N i = some r) ?_ ?_
 · rintro y7 h8
   rw [m_impl_LinesOf_k1] at h8
   refine cu D_ok mix 2 102 (tl 19 [(2, .own 100)]) [(100, .vec false 9 1 (y7.map encS))] (by kernel_rfl) ?_
   refine CodeOk.ret ?_
   have h8 := Option.some.inj h8
   subst h8
   exact Ends.gen [(100, 100)] (.inr rfl) (RetV.one rfl (OneR.tmp (t := 2) (r := .own 100) (by kernel_rfl))) (by kernel_rfl) (by kernel_rfl) (by kernel_rfl)
 intro hk9
 (revert h; refine bind_rev fun e9 hx11 h => ?_)
 refine CodeOk.cutR (tl 19 [(3, .own 100), (12, V.bool (e9 == []))]) [(100, .vec false 9 1 (r2.map encS))] mix (by
  refine W.run D_ok 2 101 (by kernel_rfl) ?_
  refine W.len D_ok encS r2 [100] (by kernel_rfl) (by kernel_rfl) ?_
  refine W.run D_ok 1 101 (by kernel_rfl) ?_
  refine W.ixO D_ok encS hx11 100 1 (by kernel_rfl) ?_
  refine W.ldO D_ok encS hx11 9 100 0 (V.str e9) (by kernel_rfl) (by kernel_rfl) ?_
  refine W.run D_ok 1 101 (by kernel_rfl) ?_
  exact W.fi (by kernel_rfl)
  ) ?_
 (revert h; refine cond_rev (fun hc12 h => ?_) (fun hc12 h => ?_))
 ·refine CodeOk.ifT hc12 (by kernel_rfl) ?_
  (revert h; refine bind_rev fun l11 hx14 h => ?_)
  refine CodeOk.endR (tl 19 [(3, .own 101)]) [(101, .vec false 9 1 (l11.map encS))] mix (by
   refine W.run D_ok 2 101 (by kernel_rfl) ?_
   refine W.len D_ok encS r2 [100] (by kernel_rfl) (by kernel_rfl) ?_
   refine W.run D_ok 1 101 (by kernel_rfl) ?_
   refine W.cutO D_ok encS hx14 101 (j := 100) (el := 9) (sz := 1) (by kernel_rfl) ?_
   refine W.run D_ok 1 102 (by kernel_rfl) ?_
   exact W.fi (by kernel_rfl)
   ) (fun st hw => ?_)
  exact hk9 l11 h _ (hw.trans (Weak.sel [(101, 100)] [3] (by kernel_rfl) (by kernel_rfl) (by kernel_rfl)))
 refine CodeOk.ifF hc12 (by kernel_rfl) ?_
 refine CodeOk.skip ?_
 exact hk9 r2 h _ (Weak.sel [(100, 100)] [3] (by kernel_rfl) (by kernel_rfl) (by kernel_rfl))

theorem m_spec_GroupsIn_ok (N : Nat) (a0 : List SDNode) {r : Int} (h : m_spec_GroupsIn N a0 = some r) :
    AC Tryd.prog (GS []) 16 [.sl false false (a0.map (encSDNode false))] [] (V.int r) [] := by
 rw [m_spec_GroupsIn] at h
 refine AC.enter Tryd.func16 rfl ?_
 refine cu D_ok mix 1 100 (tl 20 [(0, .sl false false (a0.map (encSDNode false)))]) [] (by kernel_rfl) ?_
 refine cu D_ok mix 1 100 (tl 20 [(0, .sl false false (a0.map (encSDNode false))), (3, V.int 0)]) [] (by kernel_rfl) ?_
 refine CodeOk.seq' ?_
 refine cu D_ok mix 1 100 (tl 20 [(0, .sl false false (a0.map (encSDNode false))), (3, V.int 0), (4, V.int 0)]) [] (by kernel_rfl) ?_
 refine CodeOk.block' ?_
 refine CodeOk.loopJ (fun (⟨a0, y25, y26⟩ : ((List SDNode) × Int × Int)) => ⟨tl 20 [(0, .sl false false (a0.map (encSDNode false))), (3, V.int y25), (4, V.int y26)], []⟩) (fun n i => m_spec_GroupsIn_l1 N n i = some r) (n0 := N) (i0 := (a0, 0, 0)) (Weak.sel [] [0, 3, 4] (by kernel_rfl) (by kernel_rfl) (by kernel_rfl)) h (fun i h => by simp [m_spec_GroupsIn_l1] at h) ?_
 rintro n1 ⟨a0, y25, y26⟩ h53 ih54
 rw [m_spec_GroupsIn_l1] at h53
 refine CodeOk.seq' ?_
 refine CodeOk.cutR (tl 20 [(0, .sl false false (a0.map (encSDNode false))), (3, V.int y25), (4, V.int y26), (8, V.bool (decide (y26 < (a0.length : Int))))]) [] mix (by
  refine W.run D_ok 2 160 (by kernel_rfl) ?_
  refine W.len D_ok (encSDNode false) a0 [] (by kernel_rfl) (by kernel_rfl) ?_
  refine W.run D_ok 1 160 (by kernel_rfl) ?_
  exact W.fi (by kernel_rfl)
  ) ?_
 (revert h53; refine cond_rev (fun hc56 h53 => ?_) (fun hc56 h53 => ?_))
 ·refine CodeOk.ifT hc56 (by kernel_rfl) ?_
  refine CodeOk.skip ?_
  refine CodeOk.join (fun (⟨a0, y26, y36⟩ : ((List SDNode) × Int × Int)) => ⟨tl 20 [(0, .sl false false (a0.map (encSDNode false))), (3, V.int y36), (4, V.int y26)], []⟩) (fun i => m_spec_GroupsIn_k2 N (m_spec_GroupsIn_l1 N n1) i = some r) ?_ ?_
  · rintro ⟨a0, y26, y36⟩ h60
    rw [m_spec_GroupsIn_k2] at h60
    refine ce D_ok mix 3 160 (tl 20 [(0, .sl false false (a0.map (encSDNode false))), (3, V.int y36), (4, V.int (IntKind.wrap .i64 (y26 + 1)))]) [] (by kernel_rfl) (fun st hw => ?_)
    exact ih54 (a0, y36, (IntKind.wrap .i64 (y26 + 1))) h60 _ (hw.trans (Weak.sel [] [0, 3, 4] (by kernel_rfl) (by kernel_rfl) (by kernel_rfl)))
  intro hk61
  refine CodeOk.block' ?_
  (revert h53; refine bind_rev fun e38 hx63 h53 => ?_)
  refine CodeOk.cutR (tl 20 [(0, .sl false false (a0.map (encSDNode false))), (3, V.int y25), (4, V.int y26), (16, V.bool (e38.Kind == 5))]) [] mix (by
   refine W.run D_ok 2 160 (by kernel_rfl) ?_
   refine W.ixD D_ok (encSDNode false) hx63 4 (by kernel_rfl) (by kernel_rfl) ?_
   refine W.run D_ok 3 160 (by kernel_rfl) ?_
   exact W.fi (by kernel_rfl)
   ) ?_
  (revert h53; refine cond_rev (fun hc64 h53 => ?_) (fun hc64 h53 => ?_))
  ·refine CodeOk.ifT hc64 (by kernel_rfl) ?_
   refine ce D_ok mix 3 160 (tl 20 [(0, .sl false false (a0.map (encSDNode false))), (3, V.int (IntKind.wrap .i64 (y25 + 1))), (4, V.int y26)]) [] (by kernel_rfl) (fun st hw => ?_)
   exact hk61 (a0, y26, (IntKind.wrap .i64 (y25 + 1))) h53 _ (hw.trans (Weak.sel [] [0, 3, 4] (by kernel_rfl) (by kernel_rfl) (by kernel_rfl)))
  refine CodeOk.ifF hc64 (by kernel_rfl) ?_
  refine CodeOk.skip ?_
  exact hk61 (a0, y26, y25) h53 _ (Weak.sel [] [0, 3, 4] (by kernel_rfl) (by kernel_rfl) (by kernel_rfl))
 refine CodeOk.ifF hc56 (by kernel_rfl) ?_
 refine CodeOk.exit ?_
 refine cu D_ok mix 2 160 (tl 20 [(2, V.int y25)]) [] (by kernel_rfl) ?_
 refine CodeOk.ret ?_
 have h53 := Option.some.inj h53
 subst h53
 exact Ends.gen [] (.inr rfl) (RetV.one rfl (OneR.tmp (t := 2) (r := V.int y25) (by kernel_rfl))) (by kernel_rfl) (by kernel_rfl) (by kernel_rfl)

theorem m_laws_FnDocs_ok (N : Nat) (a0 : List UInt8) {r : Bool} (h : m_laws_FnDocs N a0 = some r) :
    AC Tryd.prog (GS []) 3 [.sl false false (a0.map byteRow)] [] (V.bool r) [] := by
 rw [m_laws_FnDocs] at h
 refine AC.enter Tryd.func3 rfl ?_
 refine cu D_ok mix 1 100 (tl 194 [(0, .sl false false (a0.map byteRow))]) [] (by kernel_rfl) ?_
 refine CodeOk.seq' ?_
 (revert h; refine bind_rev fun r4 hx5 h => ?_)
 refine CodeOk.cutR (tl 194 [(0, .sl false false (a0.map byteRow)), (26, V.bool r4)]) [] mix (by
  refine W.run D_ok 1 100 (by kernel_rfl) ?_
  refine W.call0 (m_laws_big_ok a0 hx5) cok4 rfl (by kernel_rfl) ?_
  exact W.fi (by kernel_rfl)
  ) ?_
 (revert h; refine cond_rev (fun hc6 h => ?_) (fun hc6 h => ?_))
 ·refine CodeOk.ifT hc6 (by kernel_rfl) ?_
  refine cu D_ok mix 1 100 (tl 194 [(2, V.bool true)]) [] (by kernel_rfl) ?_
  refine CodeOk.ret ?_
  have h := Option.some.inj h
  subst h
  exact Ends.gen [] (.inr rfl) (RetV.one rfl (OneR.tmp (t := 2) (r := V.bool true) (by kernel_rfl))) (by kernel_rfl) (by kernel_rfl) (by kernel_rfl)
 refine CodeOk.ifF hc6 (by kernel_rfl) ?_
 refine CodeOk.skip ?_
 (revert h; refine bind_rev fun r6 hx8 h => ?_)
 refine CodeOk.cutR (tl 194 [(0, .sl false false (a0.map byteRow)), (3, .sl false false (r6.1.map (encSDNode false))), (4, .sl false false (r6.2.map (encSDNode false)))]) [] mix (by
  refine W.run D_ok 1 100 (by kernel_rfl) ?_
  refine W.call0 (m_spec_DrawJoined_ok N a0 hx8) cok5 rfl (by kernel_rfl) ?_
  refine W.run D_ok 5 100 (by kernel_rfl) ?_
  exact W.fi (by kernel_rfl)
  ) ?_
 (revert h; refine bind_rev fun r8 hx10 h => ?_)
 refine CodeOk.cutR (tl 194 [(0, .sl false false (a0.map byteRow)), (3, .sl false false (r6.1.map (encSDNode false))), (4, .sl false false (r6.2.map (encSDNode false))), (5, .own 100)]) [(100, .vec false 51 4 (r8.map (encSDNode true)))] mix (by
  refine W.run D_ok 2 100 (by kernel_rfl) ?_
  refine W.call (m_impl_Joined_ok N r6.1 r6.2 hx10) cok6 [] [(100, 100)] [100] (show LayOk _ [] from trivial) (by kernel_rfl) (by kernel_rfl) ?_
  refine W.run D_ok 1 101 (by kernel_rfl) ?_
  exact W.fi (by kernel_rfl)
  ) ?_
 refine CodeOk.seq' ?_
 (revert h; refine bind_rev fun y16 hv22 h => ?_)
 refine CodeOk.cutR (tl 194 [(0, .sl false false (a0.map byteRow)), (3, .sl false false (r6.1.map (encSDNode false))), (4, .sl false false (r6.2.map (encSDNode false))), (5, .own 100), (42, V.bool y16)]) [(100, .vec false 51 4 (r8.map (encSDNode true)))] mix (by
  refine W.run D_ok 1 101 (by kernel_rfl) ?_
  (revert hv22; refine bind_rev fun r17 hx23 hv22 => ?_)
  refine W.call0 (m_spec_DocOk_ok N r6.1 hx23) cok7 rfl (by kernel_rfl) ?_
  refine W.run D_ok 2 101 (by kernel_rfl) ?_
  (revert hv22; refine cond_rev (fun hc24 hv22 => ?_) (fun hc24 hv22 => ?_))
  ·refine W.is 38 hc24 (by kernel_rfl) ?_
   refine W.run D_ok 4 101 (by kernel_rfl) ?_
   have hv22 := Option.some.inj hv22
   subst hv22
   exact W.fs [(100, 100)] [0, 3, 4, 5, 42] (by kernel_rfl)
  refine W.is 38 hc24 (by kernel_rfl) ?_
  refine W.run D_ok 1 101 (by kernel_rfl) ?_
  (revert hv22; refine bind_rev fun r18 hx25 hv22 => ?_)
  refine W.call0 (m_spec_DocOk_ok N r6.2 hx25) cok7 rfl (by kernel_rfl) ?_
  refine W.run D_ok 2 101 (by kernel_rfl) ?_
  have hv22 := Option.some.inj hv22
  subst hv22
  exact W.fs [(100, 100)] [0, 3, 4, 5, 42] (by kernel_rfl)
  ) ?_
 (revert h; refine cond_rev (fun hc26 h => ?_) (fun hc26 h => ?_))
 ·refine CodeOk.ifT hc26 (by kernel_rfl) ?_
  refine CodeOk.cutR (tl 194 [(2, V.bool ((r8.length : Int) == 0))]) [] mix (by
   refine W.run D_ok 1 101 (by kernel_rfl) ?_
   refine W.len D_ok (encSDNode true) r8 [100] (by kernel_rfl) (by kernel_rfl) ?_
   refine W.run D_ok 2 101 (by kernel_rfl) ?_
   exact W.fi (by kernel_rfl)
   ) ?_
  refine CodeOk.ret ?_
  have h := Option.some.inj h
  subst h
  exact Ends.gen [] (.inr rfl) (RetV.one rfl (OneR.tmp (t := 2) (r := V.bool ((r8.length : Int) == 0)) (by kernel_rfl))) (by kernel_rfl) (by kernel_rfl) (by kernel_rfl)
 refine CodeOk.ifF hc26 (by kernel_rfl) ?_
 refine CodeOk.skip ?_
 refine CodeOk.seq' ?_
 refine CodeOk.cutR (tl 194 [(0, .sl false false (a0.map byteRow)), (3, .sl false false (r6.1.map (encSDNode false))), (4, .sl false false (r6.2.map (encSDNode false))), (5, .own 100), (48, V.bool ((r8.length : Int) == 0))]) [(100, .vec false 51 4 (r8.map (encSDNode true)))] mix (by
  refine W.run D_ok 1 101 (by kernel_rfl) ?_
  refine W.len D_ok (encSDNode true) r8 [100] (by kernel_rfl) (by kernel_rfl) ?_
  refine W.run D_ok 1 101 (by kernel_rfl) ?_
  exact W.fi (by kernel_rfl)
  ) ?_
 (revert h; refine cond_rev (fun hc28 h => ?_) (fun hc28 h => ?_))
 ·refine CodeOk.ifT hc28 (by kernel_rfl) ?_
  refine CodeOk.cutR (tl 194 [(2, V.bool (decide ((IntKind.wrap .i64 ((r6.1.length : Int) + (r6.2.length : Int))) ≥ 4000)))]) [] mix (by
   refine W.run D_ok 1 101 (by kernel_rfl) ?_
   refine W.len D_ok (encSDNode false) r6.1 [] (by kernel_rfl) (by kernel_rfl) ?_
   refine W.run D_ok 1 101 (by kernel_rfl) ?_
   refine W.len D_ok (encSDNode false) r6.2 [] (by kernel_rfl) (by kernel_rfl) ?_
   refine W.run D_ok 3 101 (by kernel_rfl) ?_
   exact W.fi (by kernel_rfl)
   ) ?_
  refine CodeOk.ret ?_
  have h := Option.some.inj h
  subst h
  exact Ends.gen [] (.inr rfl) (RetV.one rfl (OneR.tmp (t := 2) (r := V.bool (decide ((IntKind.wrap .i64 ((r6.1.length : Int) + (r6.2.length : Int))) ≥ 4000))) (by kernel_rfl))) (by kernel_rfl) (by kernel_rfl) (by kernel_rfl)
 refine CodeOk.ifF hc28 (by kernel_rfl) ?_
 refine CodeOk.skip ?_
 (revert h; refine bind_rev fun r20 hx30 h => ?_)
 refine CodeOk.cutR (tl 194 [(0, .sl false false (a0.map byteRow)), (3, .sl false false (r6.1.map (encSDNode false))), (4, .sl false false (r6.2.map (encSDNode false))), (5, .own 100), (6, .own 101)]) [(101, .vec false 51 4 (r20.map (encSDNode true))), (100, .vec false 51 4 (r8.map (encSDNode true)))] mix (by
  refine W.run D_ok 1 101 (by kernel_rfl) ?_
  refine W.call (m_impl_Ungrouped_ok N r6.1 hx30) cok8 [] [(100, 101)] [101] (show LayOk _ [] from trivial) (by kernel_rfl) (by kernel_rfl) ?_
  refine W.run D_ok 1 102 (by kernel_rfl) ?_
  exact W.fi (by kernel_rfl)
  ) ?_
 (revert h; refine bind_rev fun r22 hx32 h => ?_)
 refine CodeOk.cutR (tl 194 [(0, .sl false false (a0.map byteRow)), (3, .sl false false (r6.1.map (encSDNode false))), (4, .sl false false (r6.2.map (encSDNode false))), (5, .own 100), (6, .own 101), (7, V.int (Int.tmod r22 50))]) [(101, .vec false 51 4 (r20.map (encSDNode true))), (100, .vec false 51 4 (r8.map (encSDNode true)))] mix (by
  refine W.run D_ok 1 102 (by kernel_rfl) ?_
  refine W.call0 (m_laws_at_ok a0 0 hx32) cok9 rfl (by kernel_rfl) ?_
  refine W.run D_ok 2 102 (by kernel_rfl) ?_
  exact W.fi (by kernel_rfl)
  ) ?_
 (revert h; refine bind_rev fun r24 hx34 h => ?_)
 refine CodeOk.cutR (tl 194 [(0, .sl false false (a0.map byteRow)), (3, .sl false false (r6.1.map (encSDNode false))), (4, .sl false false (r6.2.map (encSDNode false))), (5, .own 100), (6, .own 101), (7, V.int (Int.tmod r22 50)), (8, V.str r24.1)]) [(101, .vec false 51 4 (r20.map (encSDNode true))), (100, .vec false 51 4 (r8.map (encSDNode true)))] mix (by
  refine W.run D_ok 2 102 (by kernel_rfl) ?_
  refine W.lend (m_impl_Render_ok N r20 (Int.tmod r22 50) hx34) cok10 [] [] (LayOk.cons (j := 101) (encSDNode true) (encSDNode false) r20 (by kernel_rfl) (share_encSDNode _) (show LayOk _ [] from trivial)) (.tup _ (.cons (.c _) (.cons (.c _) .nil))) .nil (by kernel_rfl) (by kernel_rfl) ?_
  refine W.run D_ok 5 102 (by kernel_rfl) ?_
  exact W.fi (by kernel_rfl)
  ) ?_
 (revert h; refine bind_rev fun r26 hx36 h => ?_)
 refine CodeOk.cutR (tl 194 [(0, .sl false false (a0.map byteRow)), (3, .sl false false (r6.1.map (encSDNode false))), (4, .sl false false (r6.2.map (encSDNode false))), (5, .own 100), (6, .own 101), (7, V.int (Int.tmod r22 50)), (8, V.str r24.1), (10, V.str r26.1)]) [(101, .vec false 51 4 (r20.map (encSDNode true))), (100, .vec false 51 4 (r8.map (encSDNode true)))] mix (by
  refine W.run D_ok 1 102 (by kernel_rfl) ?_
  refine W.lend (m_impl_Render_ok N r20 10000 hx36) cok10 [] [] (LayOk.cons (j := 101) (encSDNode true) (encSDNode false) r20 (by kernel_rfl) (share_encSDNode _) (show LayOk _ [] from trivial)) (.tup _ (.cons (.c _) (.cons (.c _) .nil))) .nil (by kernel_rfl) (by kernel_rfl) ?_
  refine W.run D_ok 5 102 (by kernel_rfl) ?_
  exact W.fi (by kernel_rfl)
  ) ?_
 (revert h; refine bind_rev fun r29 hx39 h => ?_)
 (revert h; refine bind_rev fun r30 hx40 h => ?_)
 refine CodeOk.cutR (tl 194 [(0, .sl false false (a0.map byteRow)), (3, .sl false false (r6.1.map (encSDNode false))), (4, .sl false false (r6.2.map (encSDNode false))), (5, .own 100), (6, .own 101), (7, V.int (Int.tmod r22 50)), (8, V.str r24.1), (10, V.str r26.1), (12, V.str r30.1), (13, V.bool r30.2)]) [(101, .vec false 51 4 (r20.map (encSDNode true))), (100, .vec false 51 4 (r8.map (encSDNode true)))] mix (by
  refine W.run D_ok 1 102 (by kernel_rfl) ?_
  refine W.lend (m_impl_Softened_ok N r8 hx39) cok12 [(100, 102)] [102] (LayOk.cons (j := 100) (encSDNode true) (encSDNode false) r8 (by kernel_rfl) (share_encSDNode _) (show LayOk _ [] from trivial)) (.own _) (.cons (DeepR.map (fun _ => (.cons (.c _) (.cons (.c _) (.cons (.c _) (.cons (.sl _ _ (DeepR.map (fun _ => (.cons (.c _) .nil)) _)) .nil))))) _) .nil) (by kernel_rfl) (by kernel_rfl) ?_
  refine W.lend (m_impl_FlatText_ok N r29 hx40) cok11 [] [] (LayOk.cons (j := 102) (encSDNode true) (encSDNode false) r29 (by kernel_rfl) (share_encSDNode _) (show LayOk _ [] from trivial)) (.tup _ (.cons (.c _) (.cons (.c _) .nil))) .nil (by kernel_rfl) (by kernel_rfl) ?_
  refine W.run D_ok 5 103 (by kernel_rfl) ?_
  exact W.fi (by kernel_rfl)
  ) ?_
 (revert h; refine bind_rev fun r33 hx43 h => ?_)
 (revert h; refine bind_rev fun r34 hx44 h => ?_)
 refine CodeOk.cutR (tl 194 [(0, .sl false false (a0.map byteRow)), (3, .sl false false (r6.1.map (encSDNode false))), (4, .sl false false (r6.2.map (encSDNode false))), (5, .own 100), (6, .own 101), (7, V.int (Int.tmod r22 50)), (8, V.str r24.1), (10, V.str r26.1), (12, V.str r30.1), (13, V.bool r30.2), (14, V.str r34.1)]) [(101, .vec false 51 4 (r20.map (encSDNode true))), (100, .vec false 51 4 (r8.map (encSDNode true)))] mix (by
  refine W.run D_ok 1 103 (by kernel_rfl) ?_
  refine W.call (m_impl_Softened_ok N r6.1 hx43) cok12 [] [(100, 103)] [103] (show LayOk _ [] from trivial) (by kernel_rfl) (by kernel_rfl) ?_
  refine W.lend (m_impl_FlatText_ok N r33 hx44) cok11 [] [] (LayOk.cons (j := 103) (encSDNode true) (encSDNode false) r33 (by kernel_rfl) (share_encSDNode _) (show LayOk _ [] from trivial)) (.tup _ (.cons (.c _) (.cons (.c _) .nil))) .nil (by kernel_rfl) (by kernel_rfl) ?_
  refine W.run D_ok 5 104 (by kernel_rfl) ?_
  exact W.fi (by kernel_rfl)
  ) ?_
 (revert h; refine bind_rev fun r37 hx47 h => ?_)
 (revert h; refine bind_rev fun r38 hx48 h => ?_)
 refine CodeOk.cutR (tl 194 [(0, .sl false false (a0.map byteRow)), (3, .sl false false (r6.1.map (encSDNode false))), (4, .sl false false (r6.2.map (encSDNode false))), (5, .own 100), (6, .own 101), (7, V.int (Int.tmod r22 50)), (8, V.str r24.1), (10, V.str r26.1), (12, V.str r30.1), (13, V.bool r30.2), (14, V.str r34.1), (16, V.str r38.1)]) [(101, .vec false 51 4 (r20.map (encSDNode true))), (100, .vec false 51 4 (r8.map (encSDNode true)))] mix (by
  refine W.run D_ok 1 104 (by kernel_rfl) ?_
  refine W.call (m_impl_Softened_ok N r6.2 hx47) cok12 [] [(100, 104)] [104] (show LayOk _ [] from trivial) (by kernel_rfl) (by kernel_rfl) ?_
  refine W.lend (m_impl_FlatText_ok N r37 hx48) cok11 [] [] (LayOk.cons (j := 104) (encSDNode true) (encSDNode false) r37 (by kernel_rfl) (share_encSDNode _) (show LayOk _ [] from trivial)) (.tup _ (.cons (.c _) (.cons (.c _) .nil))) .nil (by kernel_rfl) (by kernel_rfl) ?_
  refine W.run D_ok 5 105 (by kernel_rfl) ?_
  exact W.fi (by kernel_rfl)
  ) ?_
 (revert h; refine bind_rev fun r40 hx50 h => ?_)
 refine CodeOk.cutR (tl 194 [(3, .sl false false (r6.1.map (encSDNode false))), (4, .sl false false (r6.2.map (encSDNode false))), (5, .own 100), (6, .own 101), (7, V.int (Int.tmod r22 50)), (8, V.str r24.1), (10, V.str r26.1), (12, V.str r30.1), (13, V.bool r30.2), (14, V.str r34.1), (16, V.str r38.1), (18, V.int (Int.tmod r40 5))]) [(101, .vec false 51 4 (r20.map (encSDNode true))), (100, .vec false 51 4 (r8.map (encSDNode true)))] mix (by
  refine W.run D_ok 1 105 (by kernel_rfl) ?_
  refine W.call0 (m_laws_at_ok a0 1 hx50) cok9 rfl (by kernel_rfl) ?_
  refine W.run D_ok 2 105 (by kernel_rfl) ?_
  exact W.fi (by kernel_rfl)
  ) ?_
 (revert h; refine bind_rev fun r42 hx52 h => ?_)
 refine CodeOk.cutR (tl 194 [(3, .sl false false (r6.1.map (encSDNode false))), (4, .sl false false (r6.2.map (encSDNode false))), (5, .own 100), (6, .own 101), (7, V.int (Int.tmod r22 50)), (8, V.str r24.1), (10, V.str r26.1), (12, V.str r30.1), (13, V.bool r30.2), (14, V.str r34.1), (16, V.str r38.1), (18, V.int (Int.tmod r40 5)), (19, .own 105)]) [(105, .vec false 51 4 (r42.map (encSDNode true))), (101, .vec false 51 4 (r20.map (encSDNode true))), (100, .vec false 51 4 (r8.map (encSDNode true)))] mix (by
  refine W.run D_ok 2 105 (by kernel_rfl) ?_
  refine W.lend (m_impl_Deeper_ok N r20 (Int.tmod r40 5) hx52) cok13 [(100, 105)] [105] (LayOk.cons (j := 101) (encSDNode true) (encSDNode false) r20 (by kernel_rfl) (share_encSDNode _) (show LayOk _ [] from trivial)) (.own _) (.cons (DeepR.map (fun _ => (.cons (.c _) (.cons (.c _) (.cons (.c _) (.cons (.sl _ _ (DeepR.map (fun _ => (.cons (.c _) .nil)) _)) .nil))))) _) .nil) (by kernel_rfl) (by kernel_rfl) ?_
  refine W.run D_ok 1 106 (by kernel_rfl) ?_
  exact W.fi (by kernel_rfl)
  ) ?_
 (revert h; refine bind_rev fun r44 hx54 h => ?_)
 refine CodeOk.cutR (tl 194 [(3, .sl false false (r6.1.map (encSDNode false))), (4, .sl false false (r6.2.map (encSDNode false))), (5, .own 100), (6, .own 101), (8, V.str r24.1), (10, V.str r26.1), (12, V.str r30.1), (13, V.bool r30.2), (14, V.str r34.1), (16, V.str r38.1), (18, V.int (Int.tmod r40 5)), (20, V.str r44.1), (21, V.bool r44.2)]) [(101, .vec false 51 4 (r20.map (encSDNode true))), (100, .vec false 51 4 (r8.map (encSDNode true)))] mix (by
  refine W.run D_ok 2 106 (by kernel_rfl) ?_
  refine W.lend (m_impl_Render_ok N r42 (Int.tmod r22 50) hx54) cok10 [] [] (LayOk.cons (j := 105) (encSDNode true) (encSDNode false) r42 (by kernel_rfl) (share_encSDNode _) (show LayOk _ [] from trivial)) (.tup _ (.cons (.c _) (.cons (.c _) .nil))) .nil (by kernel_rfl) (by kernel_rfl) ?_
  refine W.run D_ok 5 106 (by kernel_rfl) ?_
  exact W.fi (by kernel_rfl)
  ) ?_
 (revert h; refine bind_rev fun s47 hx57 h => ?_)
 (revert h; refine bind_rev fun r48 hx58 h => ?_)
 refine CodeOk.cutR (tl 194 [(3, .sl false false (r6.1.map (encSDNode false))), (4, .sl false false (r6.2.map (encSDNode false))), (5, .own 100), (6, .own 101), (8, V.str r24.1), (10, V.str r26.1), (12, V.str r30.1), (13, V.bool r30.2), (14, V.str r34.1), (16, V.str r38.1), (18, V.int (Int.tmod r40 5)), (21, V.bool r44.2), (22, .own 106)]) [(106, .vec false 9 1 (r48.map encS)), (101, .vec false 51 4 (r20.map (encSDNode true))), (100, .vec false 51 4 (r8.map (encSDNode true)))] mix (by
  refine W.run D_ok 1 106 (by kernel_rfl) ?_
  refine W.cat hx57 (by kernel_rfl) ?_
  refine W.call (m_impl_LinesOf_ok N s47 hx58) cok14 [] [(100, 106)] [106] (show LayOk _ [] from trivial) (by kernel_rfl) (by kernel_rfl) ?_
  refine W.run D_ok 1 107 (by kernel_rfl) ?_
  exact W.fi (by kernel_rfl)
  ) ?_
 (revert h; refine bind_rev fun s51 hx61 h => ?_)
 (revert h; refine bind_rev fun r52 hx62 h => ?_)
 refine CodeOk.cutR (tl 194 [(3, .sl false false (r6.1.map (encSDNode false))), (4, .sl false false (r6.2.map (encSDNode false))), (5, .own 100), (6, .own 101), (8, V.str r24.1), (10, V.str r26.1), (12, V.str r30.1), (13, V.bool r30.2), (14, V.str r34.1), (16, V.str r38.1), (18, V.int (Int.tmod r40 5)), (21, V.bool r44.2), (22, .own 106), (23, .own 107)]) [(107, .vec false 9 1 (r52.map encS)), (106, .vec false 9 1 (r48.map encS)), (101, .vec false 51 4 (r20.map (encSDNode true))), (100, .vec false 51 4 (r8.map (encSDNode true)))] mix (by
  refine W.run D_ok 1 107 (by kernel_rfl) ?_
  refine W.cat hx61 (by kernel_rfl) ?_
  refine W.call (m_impl_LinesOf_ok N s51 hx62) cok14 [] [(100, 107)] [107] (show LayOk _ [] from trivial) (by kernel_rfl) (by kernel_rfl) ?_
  refine W.run D_ok 1 108 (by kernel_rfl) ?_
  exact W.fi (by kernel_rfl)
  ) ?_
 refine CodeOk.seq' ?_
 (revert h; refine bind_rev fun y54 hv68 h => ?_)
 refine CodeOk.cutR (tl 194 [(3, .sl false false (r6.1.map (encSDNode false))), (4, .sl false false (r6.2.map (encSDNode false))), (5, .own 100), (6, .own 101), (8, V.str r24.1), (10, V.str r26.1), (12, V.str r30.1), (13, V.bool r30.2), (14, V.str r34.1), (16, V.str r38.1), (18, V.int (Int.tmod r40 5)), (22, .own 102), (23, .own 103), (115, V.bool y54)]) [(100, .vec false 51 4 (r8.map (encSDNode true))), (101, .vec false 51 4 (r20.map (encSDNode true))), (102, .vec false 9 1 (r48.map encS)), (103, .vec false 9 1 (r52.map encS))] mix (by
  refine W.run D_ok 1 108 (by kernel_rfl) ?_
  refine W.len D_ok encS r48 [106] (by kernel_rfl) (by kernel_rfl) ?_
  refine W.run D_ok 1 108 (by kernel_rfl) ?_
  refine W.len D_ok encS r52 [107] (by kernel_rfl) (by kernel_rfl) ?_
  refine W.run D_ok 2 108 (by kernel_rfl) ?_
  (revert hv68; refine cond_rev (fun hc69 hv68 => ?_) (fun hc69 hv68 => ?_))
  ·refine W.is 112 hc69 (by kernel_rfl) ?_
   refine W.run D_ok 3 108 (by kernel_rfl) ?_
   have hv68 := Option.some.inj hv68
   subst hv68
   exact W.fs [(100, 100), (101, 101), (106, 102), (107, 103)] [3, 4, 5, 6, 8, 10, 12, 13, 14, 16, 18, 22, 23, 115] (by kernel_rfl)
  refine W.is 112 hc69 (by kernel_rfl) ?_
  refine W.run D_ok 3 108 (by kernel_rfl) ?_
  have hv68 := Option.some.inj hv68
  subst hv68
  exact W.fs [(100, 100), (101, 101), (106, 102), (107, 103)] [3, 4, 5, 6, 8, 10, 12, 13, 14, 16, 18, 22, 23, 115] (by kernel_rfl)
  ) ?_
 (revert h; refine cond_rev (fun hc70 h => ?_) (fun hc70 h => ?_))
 ·refine CodeOk.ifT hc70 (by kernel_rfl) ?_
  refine cu D_ok mix 1 108 (tl 194 [(2, V.bool false)]) [] (by kernel_rfl) ?_
  refine CodeOk.ret ?_
  have h := Option.some.inj h
  subst h
  exact Ends.gen [] (.inr rfl) (RetV.one rfl (OneR.tmp (t := 2) (r := V.bool false) (by kernel_rfl))) (by kernel_rfl) (by kernel_rfl) (by kernel_rfl)
 refine CodeOk.ifF hc70 (by kernel_rfl) ?_
 refine CodeOk.skip ?_
 refine CodeOk.seq' ?_
 refine cu D_ok mix 1 108 (tl 194 [(3, .sl false false (r6.1.map (encSDNode false))), (4, .sl false false (r6.2.map (encSDNode false))), (5, .own 100), (6, .own 101), (8, V.str r24.1), (10, V.str r26.1), (12, V.str r30.1), (13, V.bool r30.2), (14, V.str r34.1), (16, V.str r38.1), (18, V.int (Int.tmod r40 5)), (22, .own 102), (23, .own 103), (24, V.int 1)]) [(100, .vec false 51 4 (r8.map (encSDNode true))), (101, .vec false 51 4 (r20.map (encSDNode true))), (102, .vec false 9 1 (r48.map encS)), (103, .vec false 9 1 (r52.map encS))] (by kernel_rfl) ?_
 refine CodeOk.block' ?_
 refine CodeOk.loopJ (fun (⟨r6, r24, r26, r30, r34, r38, r40, r8, r20, r48, r52, y145⟩ : (((List SDNode) × (List SDNode)) × ((List UInt8) × Bool) × ((List UInt8) × Bool) × ((List UInt8) × Bool) × ((List UInt8) × Bool) × ((List UInt8) × Bool) × Int × (List SDNode) × (List SDNode) × (List (List UInt8)) × (List (List UInt8)) × Int)) => ⟨tl 194 [(3, .sl false false (r6.1.map (encSDNode false))), (4, .sl false false (r6.2.map (encSDNode false))), (5, .own 100), (6, .own 101), (8, V.str r24.1), (10, V.str r26.1), (12, V.str r30.1), (13, V.bool r30.2), (14, V.str r34.1), (16, V.str r38.1), (18, V.int (Int.tmod r40 5)), (22, .own 102), (23, .own 103), (24, V.int y145)], [(100, .vec false 51 4 (r8.map (encSDNode true))), (101, .vec false 51 4 (r20.map (encSDNode true))), (102, .vec false 9 1 (r48.map encS)), (103, .vec false 9 1 (r52.map encS))]⟩) (fun n i => m_laws_FnDocs_l1 N n i = some r) (n0 := N) (i0 := (r6, r24, r26, r30, r34, r38, r40, r8, r20, r48, r52, 1)) (Weak.sel [(100, 100), (101, 101), (102, 102), (103, 103)] [3, 4, 5, 6, 8, 10, 12, 13, 14, 16, 18, 22, 23, 24] (by kernel_rfl) (by kernel_rfl) (by kernel_rfl)) h (fun i h => by simp [m_laws_FnDocs_l1] at h) ?_
 rintro n1 ⟨r6, r24, r26, r30, r34, r38, r40, r8, r20, r48, r52, y145⟩ h223 ih224
 rw [m_laws_FnDocs_l1] at h223
 refine CodeOk.seq' ?_
 refine CodeOk.cutR (tl 194 [(3, .sl false false (r6.1.map (encSDNode false))), (4, .sl false false (r6.2.map (encSDNode false))), (5, .own 100), (6, .own 101), (8, V.str r24.1), (10, V.str r26.1), (12, V.str r30.1), (13, V.bool r30.2), (14, V.str r34.1), (16, V.str r38.1), (18, V.int (Int.tmod r40 5)), (22, .own 102), (23, .own 103), (24, V.int y145), (119, V.bool (decide (y145 < (r48.length : Int))))]) [(100, .vec false 51 4 (r8.map (encSDNode true))), (101, .vec false 51 4 (r20.map (encSDNode true))), (102, .vec false 9 1 (r48.map encS)), (103, .vec false 9 1 (r52.map encS))] mix (by
  refine W.run D_ok 2 168 (by kernel_rfl) ?_
  refine W.len D_ok encS r48 [102] (by kernel_rfl) (by kernel_rfl) ?_
  refine W.run D_ok 1 168 (by kernel_rfl) ?_
  exact W.fi (by kernel_rfl)
  ) ?_
 (revert h223; refine cond_rev (fun hc226 h223 => ?_) (fun hc226 h223 => ?_))
 ·refine CodeOk.ifT hc226 (by kernel_rfl) ?_
  refine CodeOk.skip ?_
  refine CodeOk.seq' ?_
  refine CodeOk.block' ?_
  (revert h223; refine bind_rev fun y185 hv247 h223 => ?_)
  refine CodeOk.cutR (tl 194 [(3, .sl false false (r6.1.map (encSDNode false))), (4, .sl false false (r6.2.map (encSDNode false))), (5, .own 100), (6, .own 101), (8, V.str r24.1), (10, V.str r26.1), (12, V.str r30.1), (13, V.bool r30.2), (14, V.str r34.1), (16, V.str r38.1), (18, V.int (Int.tmod r40 5)), (22, .own 102), (23, .own 103), (24, V.int y145), (147, V.bool y185)]) [(100, .vec false 51 4 (r8.map (encSDNode true))), (101, .vec false 51 4 (r20.map (encSDNode true))), (102, .vec false 9 1 (r48.map encS)), (103, .vec false 9 1 (r52.map encS))] mix (by
   refine W.run D_ok 2 168 (by kernel_rfl) ?_
   (revert hv247; refine bind_rev fun e186 hx248 hv247 => ?_)
   refine W.ixO D_ok encS hx248 102 1 (by kernel_rfl) ?_
   refine W.ldO D_ok encS hx248 9 102 0 (V.str e186) (by kernel_rfl) (by kernel_rfl) ?_
   refine W.run D_ok 3 168 (by kernel_rfl) ?_
   (revert hv247; refine bind_rev fun e187 hx249 hv247 => ?_)
   refine W.ixO D_ok encS hx249 103 1 (by kernel_rfl) ?_
   refine W.ldO D_ok encS hx249 9 103 0 (V.str e187) (by kernel_rfl) (by kernel_rfl) ?_
   refine W.run D_ok 5 168 (by kernel_rfl) ?_
   (revert hv247; refine cond_rev (fun hc250 hv247 => ?_) (fun hc250 hv247 => ?_))
   ·refine W.is 135 hc250 (by kernel_rfl) ?_
    refine W.run D_ok 12 168 (by kernel_rfl) ?_
    have hv247 := Option.some.inj hv247
    subst hv247
    exact W.fs [(100, 100), (101, 101), (102, 102), (103, 103)] [3, 4, 5, 6, 8, 10, 12, 13, 14, 16, 18, 22, 23, 24, 147] (by kernel_rfl)
   refine W.is 135 hc250 (by kernel_rfl) ?_
   refine W.run D_ok 2 168 (by kernel_rfl) ?_
   (revert hv247; refine bind_rev fun e188 hx251 hv247 => ?_)
   refine W.ixO D_ok encS hx251 102 1 (by kernel_rfl) ?_
   refine W.ldO D_ok encS hx251 9 102 0 (V.str e188) (by kernel_rfl) (by kernel_rfl) ?_
   refine W.run D_ok 1 168 (by kernel_rfl) ?_
   (revert hv247; refine bind_rev fun s189 hx252 hv247 => ?_)
   refine W.cutS D_ok hx252 (by kernel_rfl) ?_
   refine W.run D_ok 2 168 (by kernel_rfl) ?_
   (revert hv247; refine bind_rev fun e190 hx253 hv247 => ?_)
   refine W.ixO D_ok encS hx253 103 1 (by kernel_rfl) ?_
   refine W.ldO D_ok encS hx253 9 103 0 (V.str e190) (by kernel_rfl) (by kernel_rfl) ?_
   refine W.run D_ok 2 168 (by kernel_rfl) ?_
   have hv247 := Option.some.inj hv247
   subst hv247
   exact W.fs [(100, 100), (101, 101), (102, 102), (103, 103)] [3, 4, 5, 6, 8, 10, 12, 13, 14, 16, 18, 22, 23, 24, 147] (by kernel_rfl)
   ) ?_
  (revert h223; refine cond_rev (fun hc254 h223 => ?_) (fun hc254 h223 => ?_))
  ·refine CodeOk.ifT hc254 (by kernel_rfl) ?_
   refine cu D_ok mix 1 168 (tl 194 [(2, V.bool false)]) [] (by kernel_rfl) ?_
   refine CodeOk.ret ?_
   have h223 := Option.some.inj h223
   subst h223
   exact Ends.gen [] (.inr rfl) (RetV.one rfl (OneR.tmp (t := 2) (r := V.bool false) (by kernel_rfl))) (by kernel_rfl) (by kernel_rfl) (by kernel_rfl)
  refine CodeOk.ifF hc254 (by kernel_rfl) ?_
  refine CodeOk.skip ?_
  refine ce D_ok mix 3 168 (tl 194 [(3, .sl false false (r6.1.map (encSDNode false))), (4, .sl false false (r6.2.map (encSDNode false))), (5, .own 100), (6, .own 101), (8, V.str r24.1), (10, V.str r26.1), (12, V.str r30.1), (13, V.bool r30.2), (14, V.str r34.1), (16, V.str r38.1), (18, V.int (Int.tmod r40 5)), (22, .own 102), (23, .own 103), (24, V.int (IntKind.wrap .i64 (y145 + 1)))]) [(100, .vec false 51 4 (r8.map (encSDNode true))), (101, .vec false 51 4 (r20.map (encSDNode true))), (102, .vec false 9 1 (r48.map encS)), (103, .vec false 9 1 (r52.map encS))] (by kernel_rfl) (fun st hw => ?_)
  exact ih224 (r6, r24, r26, r30, r34, r38, r40, r8, r20, r48, r52, (IntKind.wrap .i64 (y145 + 1))) h223 _ (hw.trans (Weak.sel [(100, 100), (101, 101), (102, 102), (103, 103)] [3, 4, 5, 6, 8, 10, 12, 13, 14, 16, 18, 22, 23, 24] (by kernel_rfl) (by kernel_rfl) (by kernel_rfl)))
 refine CodeOk.ifF hc226 (by kernel_rfl) ?_
 refine CodeOk.exit ?_
 (revert h223; refine bind_rev fun y199 hv270 h223 => ?_)
 refine CodeOk.cutR (tl 194 [(2, V.bool y199)]) [] mix (by
  refine W.run D_ok 4 168 (by kernel_rfl) ?_
  (revert hv270; refine cond_rev (fun hc271 hv270 => ?_) (fun hc271 hv270 => ?_))
  ·refine W.is 151 hc271 (by kernel_rfl) ?_
   refine W.run D_ok 3 168 (by kernel_rfl) ?_
   (revert hv270; refine cond_rev (fun hc272 hv270 => ?_) (fun hc272 hv270 => ?_))
   ·refine W.is 154 hc272 (by kernel_rfl) ?_
    refine W.run D_ok 3 168 (by kernel_rfl) ?_
    (revert hv270; refine bind_rev fun s200 hx273 hv270 => ?_)
    refine W.cat hx273 (by kernel_rfl) ?_
    refine W.run D_ok 3 168 (by kernel_rfl) ?_
    (revert hv270; refine cond_rev (fun hc274 hv270 => ?_) (fun hc274 hv270 => ?_))
    ·refine W.is 161 hc274 (by kernel_rfl) ?_
     refine W.run D_ok 1 168 (by kernel_rfl) ?_
     (revert hv270; refine bind_rev fun r201 hx275 hv270 => ?_)
     refine W.lend (m_impl_GroupsIn_ok N r20 hx275) cok15 [] [] (LayOk.cons (j := 101) (encSDNode true) (encSDNode false) r20 (by kernel_rfl) (share_encSDNode _) (show LayOk _ [] from trivial)) (.c _) .nil (by kernel_rfl) (by kernel_rfl) ?_
     refine W.run D_ok 3 168 (by kernel_rfl) ?_
     (revert hv270; refine cond_rev (fun hc276 hv270 => ?_) (fun hc276 hv270 => ?_))
     ·refine W.is 166 hc276 (by kernel_rfl) ?_
      refine W.run D_ok 1 168 (by kernel_rfl) ?_
      (revert hv270; refine bind_rev fun r202 hx277 hv270 => ?_)
      refine W.lend (m_impl_GroupsIn_ok N r8 hx277) cok15 [] [] (LayOk.cons (j := 100) (encSDNode true) (encSDNode false) r8 (by kernel_rfl) (share_encSDNode _) (show LayOk _ [] from trivial)) (.c _) .nil (by kernel_rfl) (by kernel_rfl) ?_
      refine W.run D_ok 1 168 (by kernel_rfl) ?_
      (revert hv270; refine bind_rev fun r203 hx278 hv270 => ?_)
      refine W.call0 (m_spec_GroupsIn_ok N r6.1 hx278) cok16 rfl (by kernel_rfl) ?_
      refine W.run D_ok 1 168 (by kernel_rfl) ?_
      (revert hv270; refine bind_rev fun r204 hx279 hv270 => ?_)
      refine W.call0 (m_spec_GroupsIn_ok N r6.2 hx279) cok16 rfl (by kernel_rfl) ?_
      refine W.run D_ok 4 168 (by kernel_rfl) ?_
      (revert hv270; refine cond_rev (fun hc280 hv270 => ?_) (fun hc280 hv270 => ?_))
      ·refine W.is 176 hc280 (by kernel_rfl) ?_
       refine W.run D_ok 1 168 (by kernel_rfl) ?_
       (revert hv270; refine bind_rev fun r205 hx281 hv270 => ?_)
       refine W.lend (m_spec_DocOk_ok N r8 hx281) cok7 [] [] (LayOk.cons (j := 100) (encSDNode true) (encSDNode false) r8 (by kernel_rfl) (share_encSDNode _) (show LayOk _ [] from trivial)) (.c _) .nil (by kernel_rfl) (by kernel_rfl) ?_
       refine W.run D_ok 2 168 (by kernel_rfl) ?_
       (revert hv270; refine cond_rev (fun hc282 hv270 => ?_) (fun hc282 hv270 => ?_))
       ·refine W.is 180 hc282 (by kernel_rfl) ?_
        refine W.run D_ok 1 168 (by kernel_rfl) ?_
        refine W.len D_ok encS r48 [102] (by kernel_rfl) (by kernel_rfl) ?_
        refine W.run D_ok 2 168 (by kernel_rfl) ?_
        (revert hv270; refine cond_rev (fun hc283 hv270 => ?_) (fun hc283 hv270 => ?_))
        ·refine W.is 184 hc283 (by kernel_rfl) ?_
         refine W.run D_ok 10 168 (by kernel_rfl) ?_
         have hv270 := Option.some.inj hv270
         subst hv270
         exact W.fs [] [2] (by kernel_rfl)
        refine W.is 184 hc283 (by kernel_rfl) ?_
        refine W.run D_ok 1 168 (by kernel_rfl) ?_
        (revert hv270; refine bind_rev fun e206 hx284 hv270 => ?_)
        refine W.ixO D_ok encS hx284 102 1 (by kernel_rfl) ?_
        refine W.ldO D_ok encS hx284 9 102 0 (V.str e206) (by kernel_rfl) (by kernel_rfl) ?_
        refine W.run D_ok 1 168 (by kernel_rfl) ?_
        (revert hv270; refine bind_rev fun e207 hx285 hv270 => ?_)
        refine W.ixO D_ok encS hx285 103 1 (by kernel_rfl) ?_
        refine W.ldO D_ok encS hx285 9 103 0 (V.str e207) (by kernel_rfl) (by kernel_rfl) ?_
        refine W.run D_ok 4 168 (by kernel_rfl) ?_
        have hv270 := Option.some.inj hv270
        subst hv270
        exact W.fs [] [2] (by kernel_rfl)
       refine W.is 180 hc282 (by kernel_rfl) ?_
       refine W.run D_ok 14 168 (by kernel_rfl) ?_
       have hv270 := Option.some.inj hv270
       subst hv270
       exact W.fs [] [2] (by kernel_rfl)
      refine W.is 176 hc280 (by kernel_rfl) ?_
      refine W.run D_ok 18 168 (by kernel_rfl) ?_
      have hv270 := Option.some.inj hv270
      subst hv270
      exact W.fs [] [2] (by kernel_rfl)
     refine W.is 166 hc276 (by kernel_rfl) ?_
     refine W.run D_ok 28 168 (by kernel_rfl) ?_
     have hv270 := Option.some.inj hv270
     subst hv270
     exact W.fs [] [2] (by kernel_rfl)
    refine W.is 161 hc274 (by kernel_rfl) ?_
    refine W.run D_ok 33 168 (by kernel_rfl) ?_
    have hv270 := Option.some.inj hv270
    subst hv270
    exact W.fs [] [2] (by kernel_rfl)
   refine W.is 154 hc272 (by kernel_rfl) ?_
   refine W.run D_ok 40 168 (by kernel_rfl) ?_
   have hv270 := Option.some.inj hv270
   subst hv270
   exact W.fs [] [2] (by kernel_rfl)
  refine W.is 151 hc271 (by kernel_rfl) ?_
  refine W.run D_ok 43 168 (by kernel_rfl) ?_
  have hv270 := Option.some.inj hv270
  subst hv270
  exact W.fs [] [2] (by kernel_rfl)
  ) ?_
 refine CodeOk.ret ?_
 have h223 := Option.some.inj h223
 subst h223
 exact Ends.gen [] (.inr rfl) (RetV.one rfl (OneR.tmp (t := 2) (r := V.bool y199) (by kernel_rfl))) (by kernel_rfl) (by kernel_rfl) (by kernel_rfl)

end Go.Proofs.Tryd

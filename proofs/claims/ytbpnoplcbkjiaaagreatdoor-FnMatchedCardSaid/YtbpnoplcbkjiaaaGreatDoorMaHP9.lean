/-
 Plain lemmas on the models, part 9.
-/
import Derived.Test.YtbpnoplcbkjiaaaGreatDoorMaHP8
namespace Go.Proofs.Tryz
open Go.Av
set_option maxRecDepth 100000
set_option linter.unusedSimpArgs false
set_option linter.unusedVariables false
theorem amM:Pg.ng mE (fits 60) 40 135 2021368500568277588=true:=by decide+kernel
theorem amN:iI 135 2021368500568277588=1520775315923724161:=by decide+kernel
theorem amO:Pg.ng mE (fits 60) 40 135 1520775315923724161=true:=by decide+kernel
theorem amP:iI 135 1520775315923724161=(-1929235519155055454):=by decide+kernel
theorem amQ:Pg.ng mE (fits 60) 40 135 (-1929235519155055454)=true:=by decide+kernel
theorem amR:Pg.ng mE (fits 60) 40 405 2021368500568277588=true:=by
 have a1:Pg.ng mE (fits 60) 40 (135+135) 1520775315923724161=true:=Pg.UK _ _ _ _ _ _ amO (by rw [amP];exact amQ)
 have a0:Pg.ng mE (fits 60) 40 (135+270) 2021368500568277588=true:=Pg.UK _ _ _ _ _ _ amM (by rw [amN];exact a1)
 exact a0
theorem ajK (b:List UInt8) (n:Nat) (hn:18446744073709551657+b.length≤n) (i:Nat) (h:Int) (hi:i≤b.length):(Pg.loop b mE (fits 60) n i h).isSome=true:=
 Pg.amn (h0:=2021368500568277588) (F:=40) amL (show Pg.One mE from Pg.One.bind (show Pg.One (nS 4) from trivial)) amR (by decide) (by decide) b 18446744073709551657 (by decide) (b.length - i) i n h rfl hi (by omega)
end Go.Proofs.Tryz

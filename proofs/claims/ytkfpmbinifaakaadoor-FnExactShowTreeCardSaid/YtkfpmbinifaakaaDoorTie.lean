/-
  DERIVED. GIVEN WITH THE SEED: THE PROGRAM's TIES (one call each: nine closed facts by the kernel) AND EACH ROW's TIE, after the 31st guide's Derived/Test/Toyas{Tie, Card}.lean. No idea stands in it: it is a product of the set-up. Laid BY PROGRAM, IN A SANDBOX (cutbox-door.mjs). By AI agents, Wed Nov 11 2026. No macro, syntax, notation, axiom, sorry.
-/
import Derived.Test.YtkfpmbinifaakaaDoorRows
import Derived.LaidByTextLater
import Derived.SevenTiedAt
import Derived.LaidSub
import Derived.LaidOnce
namespace Go.Proofs.YtkfpmbinifaakaaDoor
open Go
set_option maxRecDepth 100000
theorem seatTie1 : Tryd.prog.laidByTextLater [("loop.example/g01543/impl.keywords", Rows.laid_loop_example_g01543_impl_keywords), ("loop.example/g01543/impl.signs", Rows.laid_loop_example_g01543_impl_signs), ("loop.example/g01543/impl.builtins", Rows.laid_loop_example_g01543_impl_builtins)] [.widerDeep, .data, .widerDeep] true :=
  Program.laidByTextLater_by_one 24 8 40 (by kernel_rfl) (by kernel_rfl) (by kernel_rfl) (by kernel_rfl) (by kernel_rfl) (by kernel_rfl) (fun _ _ => by kernel_rfl)
theorem noOwnUnsafe : Tryd.pinned.checked.prog.headLifts.contains "ownunsafe" = false := by kernel_rfl
theorem tie : Tryd.prog.laidByTextLater [("loop.example/g01543/impl.keywords", Rows.laid_loop_example_g01543_impl_keywords), ("loop.example/g01543/impl.signs", Rows.laid_loop_example_g01543_impl_signs), ("loop.example/g01543/impl.builtins", Rows.laid_loop_example_g01543_impl_builtins)] [.widerDeep, .data, .widerDeep] true :=
  Program.laidByTextLater.sub seatTie1 ["loop.example/g01543/impl.keywords", "loop.example/g01543/impl.signs", "loop.example/g01543/impl.builtins"] (by kernel_rfl) (by kernel_rfl)
theorem fnExactShunts_row_tie : Rows.fnExactShuntsRow.laidByTextAt .later Tryd.pinned [.widerDeep, .data, .widerDeep] true :=
  OpenClaim.laidByTextAt_later rfl rfl tie noOwnUnsafe
theorem fnExactRelex_row_tie : Rows.fnExactRelexRow.laidByTextAt .later Tryd.pinned [.widerDeep, .data, .widerDeep] true :=
  OpenClaim.laidByTextAt_later rfl rfl tie noOwnUnsafe
theorem fnExactShowTree_row_tie : Rows.fnExactShowTreeRow.laidByTextAt .later Tryd.pinned [.widerDeep, .data, .widerDeep] true :=
  OpenClaim.laidByTextAt_later rfl rfl tie noOwnUnsafe
theorem fnExactShuntsUpto_row_tie : Rows.fnExactShuntsUptoRow.laidByTextAt .later Tryd.pinned [.widerDeep, .data, .widerDeep] true :=
  OpenClaim.laidByTextAt_later rfl rfl tie noOwnUnsafe
theorem fnExactRelexUpto_row_tie : Rows.fnExactRelexUptoRow.laidByTextAt .later Tryd.pinned [.widerDeep, .data, .widerDeep] true :=
  OpenClaim.laidByTextAt_later rfl rfl tie noOwnUnsafe
theorem fnExactShowTreeUpto_row_tie : Rows.fnExactShowTreeUptoRow.laidByTextAt .later Tryd.pinned [.widerDeep, .data, .widerDeep] true :=
  OpenClaim.laidByTextAt_later rfl rfl tie noOwnUnsafe
end Go.Proofs.YtkfpmbinifaakaaDoor

/-
 Plain lemmas on the models, part 9.
-/
import Derived.Test.YtkfcajnnbhahoaaGreatDoorLgFP8
namespace Go.Proofs.Tryz
open Go.Av
set_option maxRecDepth 100000
set_option linter.unusedSimpArgs false
set_option linter.unusedVariables false

theorem reckS_0 : Pg.allFrom someP (fits 60) 40 135 2021368500568277588 = true := by decide +kernel
theorem reckS_s0 : lcWN 135 2021368500568277588 = 1520775315923724161 := by decide +kernel
theorem reckS_1 : Pg.allFrom someP (fits 60) 40 135 1520775315923724161 = true := by decide +kernel
theorem reckS_s1 : lcWN 135 1520775315923724161 = (-1929235519155055454) := by decide +kernel
theorem reckS_2 : Pg.allFrom someP (fits 60) 40 135 (-1929235519155055454) = true := by decide +kernel
theorem reckS_all : Pg.allFrom someP (fits 60) 40 405 2021368500568277588 = true := by
 have a1 : Pg.allFrom someP (fits 60) 40 (135 + 135) 1520775315923724161 = true := Pg.allFrom_app _ _ _ _ _ _ reckS_1 (by rw [reckS_s1]; exact reckS_2)
 have a0 : Pg.allFrom someP (fits 60) 40 (135 + 270) 2021368500568277588 = true := Pg.allFrom_app _ _ _ _ _ _ reckS_0 (by rw [reckS_s0]; exact a1)
 exact a0
theorem reckP_0 : Pg.allFrom programP (fits 220) 40 260 (-2744174768175047444) = true := by decide +kernel
theorem reckP_s0 : lcWN 260 (-2744174768175047444) = 9139760114735395424 := by decide +kernel
theorem reckP_1 : Pg.allFrom programP (fits 220) 40 260 9139760114735395424 = true := by decide +kernel
theorem reckP_s1 : lcWN 260 9139760114735395424 = 8949882279719470868 := by decide +kernel
theorem reckP_2 : Pg.allFrom programP (fits 220) 40 260 8949882279719470868 = true := by decide +kernel
theorem reckP_s2 : lcWN 260 8949882279719470868 = 8399572877787008776 := by decide +kernel
theorem reckP_3 : Pg.allFrom programP (fits 220) 40 260 8399572877787008776 = true := by decide +kernel
theorem reckP_s3 : lcWN 260 8399572877787008776 = (-644356377554321860) := by decide +kernel
theorem reckP_4 : Pg.allFrom programP (fits 220) 40 260 (-644356377554321860) = true := by decide +kernel
theorem reckP_s4 : lcWN 260 (-644356377554321860) = (-7008574521026492240) := by decide +kernel
theorem reckP_5 : Pg.allFrom programP (fits 220) 40 260 (-7008574521026492240) = true := by decide +kernel
theorem reckP_s5 : lcWN 260 (-7008574521026492240) = (-326443216012795292) := by decide +kernel
theorem reckP_6 : Pg.allFrom programP (fits 220) 40 260 (-326443216012795292) = true := by decide +kernel
theorem reckP_s6 : lcWN 260 (-326443216012795292) = 1119826188661489496 := by decide +kernel
theorem reckP_7 : Pg.allFrom programP (fits 220) 40 260 1119826188661489496 = true := by decide +kernel
theorem reckP_s7 : lcWN 260 1119826188661489496 = 5199595073289098124 := by decide +kernel
theorem reckP_8 : Pg.allFrom programP (fits 220) 40 260 5199595073289098124 = true := by decide +kernel
theorem reckP_s8 : lcWN 260 5199595073289098124 = 8701555922248749824 := by decide +kernel
theorem reckP_9 : Pg.allFrom programP (fits 220) 40 260 8701555922248749824 = true := by decide +kernel
theorem reckP_s9 : lcWN 260 8701555922248749824 = 2969263789539357108 := by decide +kernel
theorem reckP_10 : Pg.allFrom programP (fits 220) 40 258 2969263789539357108 = true := by decide +kernel
theorem reckP_all : Pg.allFrom programP (fits 220) 40 2858 (-2744174768175047444) = true := by
 have a9 : Pg.allFrom programP (fits 220) 40 (260 + 258) 8701555922248749824 = true := Pg.allFrom_app _ _ _ _ _ _ reckP_9 (by rw [reckP_s9]; exact reckP_10)
 have a8 : Pg.allFrom programP (fits 220) 40 (260 + 518) 5199595073289098124 = true := Pg.allFrom_app _ _ _ _ _ _ reckP_8 (by rw [reckP_s8]; exact a9)
 have a7 : Pg.allFrom programP (fits 220) 40 (260 + 778) 1119826188661489496 = true := Pg.allFrom_app _ _ _ _ _ _ reckP_7 (by rw [reckP_s7]; exact a8)
 have a6 : Pg.allFrom programP (fits 220) 40 (260 + 1038) (-326443216012795292) = true := Pg.allFrom_app _ _ _ _ _ _ reckP_6 (by rw [reckP_s6]; exact a7)
 have a5 : Pg.allFrom programP (fits 220) 40 (260 + 1298) (-7008574521026492240) = true := Pg.allFrom_app _ _ _ _ _ _ reckP_5 (by rw [reckP_s5]; exact a6)
 have a4 : Pg.allFrom programP (fits 220) 40 (260 + 1558) (-644356377554321860) = true := Pg.allFrom_app _ _ _ _ _ _ reckP_4 (by rw [reckP_s4]; exact a5)
 have a3 : Pg.allFrom programP (fits 220) 40 (260 + 1818) 8399572877787008776 = true := Pg.allFrom_app _ _ _ _ _ _ reckP_3 (by rw [reckP_s3]; exact a4)
 have a2 : Pg.allFrom programP (fits 220) 40 (260 + 2078) 8949882279719470868 = true := Pg.allFrom_app _ _ _ _ _ _ reckP_2 (by rw [reckP_s2]; exact a3)
 have a1 : Pg.allFrom programP (fits 220) 40 (260 + 2338) 9139760114735395424 = true := Pg.allFrom_app _ _ _ _ _ _ reckP_1 (by rw [reckP_s1]; exact a2)
 have a0 : Pg.allFrom programP (fits 220) 40 (260 + 2598) (-2744174768175047444) = true := Pg.allFrom_app _ _ _ _ _ _ reckP_0 (by rw [reckP_s0]; exact a1)
 exact a0
theorem some_ends (b : List UInt8) (n : Nat) (hn : 18446744073709551657 + b.length ≤ n) (i : Nat) (h : Int) (hi : i ≤ b.length) : (Pg.loop b someP (fits 60) n i h).isSome = true :=
 Pg.loop_some (h0 := 2021368500568277588) (F := 40) some_le (show Pg.One someP from Pg.One.bind (show Pg.One (belowP 4) from trivial)) reckS_all (by decide) (by decide) b 18446744073709551657 (by decide) (b.length - i) i n h rfl hi (by omega)
theorem program_ends (b : List UInt8) (n : Nat) (hn : 18446744073709551657 + b.length ≤ n) (i : Nat) (h : Int) (hi : i ≤ b.length) : (Pg.loop b programP (fits 220) n i h).isSome = true :=
 Pg.loop_some (h0 := (-2744174768175047444)) (F := 40) program_le (show Pg.One programP from Pg.One.bind (show Pg.One (belowP 4) from trivial)) reckP_all (by decide) (by decide) b 18446744073709551657 (by decide) (b.length - i) i n h rfl hi (by omega)

end Go.Proofs.Tryz

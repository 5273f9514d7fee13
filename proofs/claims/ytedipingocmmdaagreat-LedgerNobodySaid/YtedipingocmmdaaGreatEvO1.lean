/- The table is the program's, part 1. (printed by mktabok.py) -/
import Derived.Test.YtedipingocmmdaaGreatEvT3
import Derived.Test.YtedipingocmmdaaGreatEvX7
import Derived.Test.YtedipingocmmdaaGreatProg
namespace Go.Proofs.YtedipingocmmdaaGreat.Ev
open Go
theorem q3 : TabAt Tryz.prog 3 F3 := ⟨Tryz.f3, Tryz.func3, by kernel_rfl, by kernel_rfl⟩
theorem q4 : TabAt Tryz.prog 4 F4 := ⟨Tryz.f4, Tryz.func4, by kernel_rfl, by kernel_rfl⟩
theorem q5 : TabAt Tryz.prog 5 F5 := ⟨Tryz.f5, Tryz.func5, by kernel_rfl, by kernel_rfl⟩
theorem q6 : TabAt Tryz.prog 6 F6 := ⟨Tryz.f6, Tryz.func6, by kernel_rfl, by kernel_rfl⟩
theorem q7 : TabAt Tryz.prog 7 F7 := ⟨Tryz.f7, Tryz.func7, by kernel_rfl, by kernel_rfl⟩
theorem q8 : TabAt Tryz.prog 8 F8 := ⟨Tryz.f8, Tryz.func8, by kernel_rfl, by kernel_rfl⟩
theorem q9 : TabAt Tryz.prog 9 F9 := ⟨Tryz.f9, Tryz.func9, by kernel_rfl, by kernel_rfl⟩
theorem q10 : TabAt Tryz.prog 10 F10 := ⟨Tryz.f10, Tryz.func10, by kernel_rfl, by kernel_rfl⟩
theorem q11 : TabAt Tryz.prog 11 F11 := ⟨Tryz.f11, Tryz.func11, by kernel_rfl, by kernel_rfl⟩
theorem q12 : TabAt Tryz.prog 12 F12 := ⟨Tryz.f12, Tryz.func12, by kernel_rfl, by kernel_rfl⟩
theorem q13 : TabAt Tryz.prog 13 F13 := ⟨Tryz.f13, Tryz.func13, by kernel_rfl, by kernel_rfl⟩
theorem q14 : TabAt Tryz.prog 14 F14 := ⟨Tryz.f14, Tryz.func14, by kernel_rfl, by kernel_rfl⟩
theorem q15 : TabAt Tryz.prog 15 F15 := ⟨Tryz.f15, Tryz.func15, by kernel_rfl, by kernel_rfl⟩
theorem q16 : TabAt Tryz.prog 16 F16 := ⟨Tryz.f16, Tryz.func16, by kernel_rfl, by kernel_rfl⟩
theorem q17 : TabAt Tryz.prog 17 F17 := ⟨Tryz.f17, Tryz.func17, by kernel_rfl, by kernel_rfl⟩
theorem q18 : TabAt Tryz.prog 18 F18 := ⟨Tryz.f18, Tryz.func18, by kernel_rfl, by kernel_rfl⟩
theorem q19 : TabAt Tryz.prog 19 F19 := ⟨Tryz.f19, Tryz.func19, by kernel_rfl, by kernel_rfl⟩
theorem q20 : TabAt Tryz.prog 20 F20 := ⟨Tryz.f20, Tryz.func20, by kernel_rfl, by kernel_rfl⟩
theorem q21 : TabAt Tryz.prog 21 F21 := ⟨Tryz.f21, Tryz.func21, by kernel_rfl, by kernel_rfl⟩
theorem q22 : TabAt Tryz.prog 22 F22 := ⟨Tryz.f22, Tryz.func22, by kernel_rfl, by kernel_rfl⟩
theorem q23 : TabAt Tryz.prog 23 F23 := ⟨Tryz.f23, Tryz.func23, by kernel_rfl, by kernel_rfl⟩
theorem q24 : TabAt Tryz.prog 24 F24 := ⟨Tryz.f24, Tryz.func24, by kernel_rfl, by kernel_rfl⟩
theorem q25 : TabAt Tryz.prog 25 F25 := ⟨Tryz.f25, Tryz.func25, by kernel_rfl, by kernel_rfl⟩
theorem q26 : TabAt Tryz.prog 26 F26 := ⟨Tryz.f26, Tryz.func26, by kernel_rfl, by kernel_rfl⟩
theorem q27 : TabAt Tryz.prog 27 F27 := ⟨Tryz.f27, Tryz.func27, by kernel_rfl, by kernel_rfl⟩
theorem q28 : TabAt Tryz.prog 28 F28 := ⟨Tryz.f28, Tryz.func28, by kernel_rfl, by kernel_rfl⟩
theorem q29 : TabAt Tryz.prog 29 F29 := ⟨Tryz.f29, Tryz.func29, by kernel_rfl, by kernel_rfl⟩
theorem q30 : TabAt Tryz.prog 30 F30 := ⟨Tryz.f30, Tryz.func30, by kernel_rfl, by kernel_rfl⟩
theorem q31 : TabAt Tryz.prog 31 F31 := ⟨Tryz.f31, Tryz.func31, by kernel_rfl, by kernel_rfl⟩
theorem q32 : TabAt Tryz.prog 32 F32 := ⟨Tryz.f32, Tryz.func32, by kernel_rfl, by kernel_rfl⟩
theorem q33 : TabAt Tryz.prog 33 F33 := ⟨Tryz.f33, Tryz.func33, by kernel_rfl, by kernel_rfl⟩
theorem q34 : TabAt Tryz.prog 34 F34 := ⟨Tryz.f34, Tryz.func34, by kernel_rfl, by kernel_rfl⟩
theorem q35 : TabAt Tryz.prog 35 F35 := ⟨Tryz.f35, Tryz.func35, by kernel_rfl, by kernel_rfl⟩
theorem q36 : TabAt Tryz.prog 36 F36 := ⟨Tryz.f36, Tryz.func36, by kernel_rfl, by kernel_rfl⟩
theorem q37 : TabAt Tryz.prog 37 F37 := ⟨Tryz.f37, Tryz.func37, by kernel_rfl, by kernel_rfl⟩
theorem q38 : TabAt Tryz.prog 38 F38 := ⟨Tryz.f38, Tryz.func38, by kernel_rfl, by kernel_rfl⟩
theorem q39 : TabAt Tryz.prog 39 F39 := ⟨Tryz.f39, Tryz.func39, by kernel_rfl, by kernel_rfl⟩
theorem q40 : TabAt Tryz.prog 40 F40 := ⟨Tryz.f40, Tryz.func40, by kernel_rfl, by kernel_rfl⟩
theorem q41 : TabAt Tryz.prog 41 F41 := ⟨Tryz.f41, Tryz.func41, by kernel_rfl, by kernel_rfl⟩
theorem q42 : TabAt Tryz.prog 42 F42 := ⟨Tryz.f42, Tryz.func42, by kernel_rfl, by kernel_rfl⟩
theorem q43 : TabAt Tryz.prog 43 F43 := ⟨Tryz.f43, Tryz.func43, by kernel_rfl, by kernel_rfl⟩
theorem q44 : TabAt Tryz.prog 44 F44 := ⟨Tryz.f44, Tryz.func44, by kernel_rfl, by kernel_rfl⟩
theorem q45 : TabAt Tryz.prog 45 F45 := ⟨Tryz.f45, Tryz.func45, by kernel_rfl, by kernel_rfl⟩
theorem q46 : TabAt Tryz.prog 46 F46 := ⟨Tryz.f46, Tryz.func46, by kernel_rfl, by kernel_rfl⟩
theorem q47 : TabAt Tryz.prog 47 F47 := ⟨Tryz.f47, Tryz.func47, by kernel_rfl, by kernel_rfl⟩
theorem q48 : TabAt Tryz.prog 48 F48 := ⟨Tryz.f48, Tryz.func48, by kernel_rfl, by kernel_rfl⟩
theorem q49 : TabAt Tryz.prog 49 F49 := ⟨Tryz.f49, Tryz.func49, by kernel_rfl, by kernel_rfl⟩
theorem q50 : TabAt Tryz.prog 50 F50 := ⟨Tryz.f50, Tryz.func50, by kernel_rfl, by kernel_rfl⟩
theorem q51 : TabAt Tryz.prog 51 F51 := ⟨Tryz.f51, Tryz.func51, by kernel_rfl, by kernel_rfl⟩
theorem q52 : TabAt Tryz.prog 52 F52 := ⟨Tryz.f52, Tryz.func52, by kernel_rfl, by kernel_rfl⟩
theorem q53 : TabAt Tryz.prog 53 F53 := ⟨Tryz.f53, Tryz.func53, by kernel_rfl, by kernel_rfl⟩
theorem q54 : TabAt Tryz.prog 54 F54 := ⟨Tryz.f54, Tryz.func54, by kernel_rfl, by kernel_rfl⟩
theorem q55 : TabAt Tryz.prog 55 F55 := ⟨Tryz.f55, Tryz.func55, by kernel_rfl, by kernel_rfl⟩
theorem q56 : TabAt Tryz.prog 56 F56 := ⟨Tryz.f56, Tryz.func56, by kernel_rfl, by kernel_rfl⟩
theorem q57 : TabAt Tryz.prog 57 F57 := ⟨Tryz.f57, Tryz.func57, by kernel_rfl, by kernel_rfl⟩
theorem q58 : TabAt Tryz.prog 58 F58 := ⟨Tryz.f58, Tryz.func58, by kernel_rfl, by kernel_rfl⟩
theorem q59 : TabAt Tryz.prog 59 F59 := ⟨Tryz.f59, Tryz.func59, by kernel_rfl, by kernel_rfl⟩
theorem q60 : TabAt Tryz.prog 60 F60 := ⟨Tryz.f60, Tryz.func60, by kernel_rfl, by kernel_rfl⟩
theorem q61 : TabAt Tryz.prog 61 F61 := ⟨Tryz.f61, Tryz.func61, by kernel_rfl, by kernel_rfl⟩
theorem q62 : TabAt Tryz.prog 62 F62 := ⟨Tryz.f62, Tryz.func62, by kernel_rfl, by kernel_rfl⟩
theorem q63 : TabAt Tryz.prog 63 F63 := ⟨Tryz.f63, Tryz.func63, by kernel_rfl, by kernel_rfl⟩
theorem q64 : TabAt Tryz.prog 64 F64 := ⟨Tryz.f64, Tryz.func64, by kernel_rfl, by kernel_rfl⟩
theorem q65 : TabAt Tryz.prog 65 F65 := ⟨Tryz.f65, Tryz.func65, by kernel_rfl, by kernel_rfl⟩
theorem q66 : TabAt Tryz.prog 66 F66 := ⟨Tryz.f66, Tryz.func66, by kernel_rfl, by kernel_rfl⟩
theorem q67 : TabAt Tryz.prog 67 F67 := ⟨Tryz.f67, Tryz.func67, by kernel_rfl, by kernel_rfl⟩
theorem q68 : TabAt Tryz.prog 68 F68 := ⟨Tryz.f68, Tryz.func68, by kernel_rfl, by kernel_rfl⟩
theorem q69 : TabAt Tryz.prog 69 F69 := ⟨Tryz.f69, Tryz.func69, by kernel_rfl, by kernel_rfl⟩
theorem q70 : TabAt Tryz.prog 70 F70 := ⟨Tryz.f70, Tryz.func70, by kernel_rfl, by kernel_rfl⟩
theorem q71 : TabAt Tryz.prog 71 F71 := ⟨Tryz.f71, Tryz.func71, by kernel_rfl, by kernel_rfl⟩
theorem q72 : TabAt Tryz.prog 72 F72 := ⟨Tryz.f72, Tryz.func72, by kernel_rfl, by kernel_rfl⟩
theorem q73 : TabAt Tryz.prog 73 F73 := ⟨Tryz.f73, Tryz.func73, by kernel_rfl, by kernel_rfl⟩
theorem q74 : TabAt Tryz.prog 74 F74 := ⟨Tryz.f74, Tryz.func74, by kernel_rfl, by kernel_rfl⟩
theorem q75 : TabAt Tryz.prog 75 F75 := ⟨Tryz.f75, Tryz.func75, by kernel_rfl, by kernel_rfl⟩
theorem q76 : TabAt Tryz.prog 76 F76 := ⟨Tryz.f76, Tryz.func76, by kernel_rfl, by kernel_rfl⟩
end Go.Proofs.YtedipingocmmdaaGreat.Ev


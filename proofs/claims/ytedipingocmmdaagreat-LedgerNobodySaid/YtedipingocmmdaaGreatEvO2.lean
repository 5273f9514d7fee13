/- The table is the program's, part 2. (printed by mktabok.py) -/
import Derived.Test.YtedipingocmmdaaGreatEvT3
import Derived.Test.YtedipingocmmdaaGreatEvX7
import Derived.Test.YtedipingocmmdaaGreatProg
namespace Go.Proofs.YtedipingocmmdaaGreat.Ev
open Go
theorem q77 : TabAt Tryz.prog 77 F77 := ⟨Tryz.f77, Tryz.func77, by kernel_rfl, by kernel_rfl⟩
theorem q78 : TabAt Tryz.prog 78 F78 := ⟨Tryz.f78, Tryz.func78, by kernel_rfl, by kernel_rfl⟩
theorem q79 : TabAt Tryz.prog 79 F79 := ⟨Tryz.f79, Tryz.func79, by kernel_rfl, by kernel_rfl⟩
theorem q80 : TabAt Tryz.prog 80 F80 := ⟨Tryz.f80, Tryz.func80, by kernel_rfl, by kernel_rfl⟩
theorem q81 : TabAt Tryz.prog 81 F81 := ⟨Tryz.f81, Tryz.func81, by kernel_rfl, by kernel_rfl⟩
theorem q82 : TabAt Tryz.prog 82 F82 := ⟨Tryz.f82, Tryz.func82, by kernel_rfl, by kernel_rfl⟩
theorem q83 : TabAt Tryz.prog 83 F83 := ⟨Tryz.f83, Tryz.func83, by kernel_rfl, by kernel_rfl⟩
theorem q84 : TabAt Tryz.prog 84 F84 := ⟨Tryz.f84, Tryz.func84, by kernel_rfl, by kernel_rfl⟩
theorem q85 : TabAt Tryz.prog 85 F85 := ⟨Tryz.f85, Tryz.func85, by kernel_rfl, by kernel_rfl⟩
theorem q86 : TabAt Tryz.prog 86 F86 := ⟨Tryz.f86, Tryz.func86, by kernel_rfl, by kernel_rfl⟩
theorem q87 : TabAt Tryz.prog 87 F87 := ⟨Tryz.f87, Tryz.func87, by kernel_rfl, by kernel_rfl⟩
theorem q88 : TabAt Tryz.prog 88 F88 := ⟨Tryz.f88, Tryz.func88, by kernel_rfl, by kernel_rfl⟩
theorem q89 : TabAt Tryz.prog 89 F89 := ⟨Tryz.f89, Tryz.func89, by kernel_rfl, by kernel_rfl⟩
theorem q90 : TabAt Tryz.prog 90 F90 := ⟨Tryz.f90, Tryz.func90, by kernel_rfl, by kernel_rfl⟩
theorem q91 : TabAt Tryz.prog 91 F91 := ⟨Tryz.f91, Tryz.func91, by kernel_rfl, by kernel_rfl⟩
theorem q92 : TabAt Tryz.prog 92 F92 := ⟨Tryz.f92, Tryz.func92, by kernel_rfl, by kernel_rfl⟩
theorem q93 : TabAt Tryz.prog 93 F93 := ⟨Tryz.f93, Tryz.func93, by kernel_rfl, by kernel_rfl⟩
theorem q94 : TabAt Tryz.prog 94 F94 := ⟨Tryz.f94, Tryz.func94, by kernel_rfl, by kernel_rfl⟩
theorem q95 : TabAt Tryz.prog 95 F95 := ⟨Tryz.f95, Tryz.func95, by kernel_rfl, by kernel_rfl⟩
theorem q96 : TabAt Tryz.prog 96 F96 := ⟨Tryz.f96, Tryz.func96, by kernel_rfl, by kernel_rfl⟩
theorem q97 : TabAt Tryz.prog 97 F97 := ⟨Tryz.f97, Tryz.func97, by kernel_rfl, by kernel_rfl⟩
theorem q98 : TabAt Tryz.prog 98 F98 := ⟨Tryz.f98, Tryz.func98, by kernel_rfl, by kernel_rfl⟩
theorem q99 : TabAt Tryz.prog 99 F99 := ⟨Tryz.f99, Tryz.func99, by kernel_rfl, by kernel_rfl⟩
theorem q100 : TabAt Tryz.prog 100 F100 := ⟨Tryz.f100, Tryz.func100, by kernel_rfl, by kernel_rfl⟩
theorem q101 : TabAt Tryz.prog 101 F101 := ⟨Tryz.f101, Tryz.func101, by kernel_rfl, by kernel_rfl⟩
theorem q102 : TabAt Tryz.prog 102 F102 := ⟨Tryz.f102, Tryz.func102, by kernel_rfl, by kernel_rfl⟩
theorem q103 : TabAt Tryz.prog 103 F103 := ⟨Tryz.f103, Tryz.func103, by kernel_rfl, by kernel_rfl⟩
theorem q104 : TabAt Tryz.prog 104 F104 := ⟨Tryz.f104, Tryz.func104, by kernel_rfl, by kernel_rfl⟩
theorem q105 : TabAt Tryz.prog 105 F105 := ⟨Tryz.f105, Tryz.func105, by kernel_rfl, by kernel_rfl⟩
theorem q106 : TabAt Tryz.prog 106 F106 := ⟨Tryz.f106, Tryz.func106, by kernel_rfl, by kernel_rfl⟩
theorem q107 : TabAt Tryz.prog 107 F107 := ⟨Tryz.f107, Tryz.func107, by kernel_rfl, by kernel_rfl⟩
theorem q108 : TabAt Tryz.prog 108 F108 := ⟨Tryz.f108, Tryz.func108, by kernel_rfl, by kernel_rfl⟩
theorem q109 : TabAt Tryz.prog 109 F109 := ⟨Tryz.f109, Tryz.func109, by kernel_rfl, by kernel_rfl⟩
theorem q110 : TabAt Tryz.prog 110 F110 := ⟨Tryz.f110, Tryz.func110, by kernel_rfl, by kernel_rfl⟩
theorem q111 : TabAt Tryz.prog 111 F111 := ⟨Tryz.f111, Tryz.func111, by kernel_rfl, by kernel_rfl⟩
theorem q112 : TabAt Tryz.prog 112 F112 := ⟨Tryz.f112, Tryz.func112, by kernel_rfl, by kernel_rfl⟩
theorem q113 : TabAt Tryz.prog 113 F113 := ⟨Tryz.f113, Tryz.func113, by kernel_rfl, by kernel_rfl⟩
theorem q114 : TabAt Tryz.prog 114 F114 := ⟨Tryz.f114, Tryz.func114, by kernel_rfl, by kernel_rfl⟩
theorem q115 : TabAt Tryz.prog 115 F115 := ⟨Tryz.f115, Tryz.func115, by kernel_rfl, by kernel_rfl⟩
theorem q116 : TabAt Tryz.prog 116 F116 := ⟨Tryz.f116, Tryz.func116, by kernel_rfl, by kernel_rfl⟩
theorem q117 : TabAt Tryz.prog 117 F117 := ⟨Tryz.f117, Tryz.func117, by kernel_rfl, by kernel_rfl⟩
theorem q118 : TabAt Tryz.prog 118 F118 := ⟨Tryz.f118, Tryz.func118, by kernel_rfl, by kernel_rfl⟩
theorem q119 : TabAt Tryz.prog 119 F119 := ⟨Tryz.f119, Tryz.func119, by kernel_rfl, by kernel_rfl⟩
theorem q120 : TabAt Tryz.prog 120 F120 := ⟨Tryz.f120, Tryz.func120, by kernel_rfl, by kernel_rfl⟩
theorem q121 : TabAt Tryz.prog 121 F121 := ⟨Tryz.f121, Tryz.func121, by kernel_rfl, by kernel_rfl⟩
theorem q122 : TabAt Tryz.prog 122 F122 := ⟨Tryz.f122, Tryz.func122, by kernel_rfl, by kernel_rfl⟩
theorem q123 : TabAt Tryz.prog 123 F123 := ⟨Tryz.f123, Tryz.func123, by kernel_rfl, by kernel_rfl⟩
theorem q124 : TabAt Tryz.prog 124 F124 := ⟨Tryz.f124, Tryz.func124, by kernel_rfl, by kernel_rfl⟩
theorem q125 : TabAt Tryz.prog 125 F125 := ⟨Tryz.f125, Tryz.func125, by kernel_rfl, by kernel_rfl⟩
theorem q126 : TabAt Tryz.prog 126 F126 := ⟨Tryz.f126, Tryz.func126, by kernel_rfl, by kernel_rfl⟩
theorem q127 : TabAt Tryz.prog 127 F127 := ⟨Tryz.f127, Tryz.func127, by kernel_rfl, by kernel_rfl⟩
theorem q128 : TabAt Tryz.prog 128 F128 := ⟨Tryz.f128, Tryz.func128, by kernel_rfl, by kernel_rfl⟩
theorem q129 : TabAt Tryz.prog 129 F129 := ⟨Tryz.f129, Tryz.func129, by kernel_rfl, by kernel_rfl⟩
theorem q130 : TabAt Tryz.prog 130 F130 := ⟨Tryz.f130, Tryz.func130, by kernel_rfl, by kernel_rfl⟩
theorem q131 : TabAt Tryz.prog 131 F131 := ⟨Tryz.f131, Tryz.func131, by kernel_rfl, by kernel_rfl⟩
theorem q132 : TabAt Tryz.prog 132 F132 := ⟨Tryz.f132, Tryz.func132, by kernel_rfl, by kernel_rfl⟩
theorem q133 : TabAt Tryz.prog 133 F133 := ⟨Tryz.f133, Tryz.func133, by kernel_rfl, by kernel_rfl⟩
theorem q134 : TabAt Tryz.prog 134 F134 := ⟨Tryz.f134, Tryz.func134, by kernel_rfl, by kernel_rfl⟩
theorem q135 : TabAt Tryz.prog 135 F135 := ⟨Tryz.f135, Tryz.func135, by kernel_rfl, by kernel_rfl⟩
theorem q136 : TabAt Tryz.prog 136 F136 := ⟨Tryz.f136, Tryz.func136, by kernel_rfl, by kernel_rfl⟩
theorem q137 : TabAt Tryz.prog 137 F137 := ⟨Tryz.f137, Tryz.func137, by kernel_rfl, by kernel_rfl⟩
theorem q138 : TabAt Tryz.prog 138 F138 := ⟨Tryz.f138, Tryz.func138, by kernel_rfl, by kernel_rfl⟩
theorem q139 : TabAt Tryz.prog 139 F139 := ⟨Tryz.f139, Tryz.func139, by kernel_rfl, by kernel_rfl⟩
theorem q140 : TabAt Tryz.prog 140 F140 := ⟨Tryz.f140, Tryz.func140, by kernel_rfl, by kernel_rfl⟩
theorem q141 : TabAt Tryz.prog 141 F141 := ⟨Tryz.f141, Tryz.func141, by kernel_rfl, by kernel_rfl⟩
theorem q142 : TabAt Tryz.prog 142 F142 := ⟨Tryz.f142, Tryz.func142, by kernel_rfl, by kernel_rfl⟩
theorem q143 : TabAt Tryz.prog 143 F143 := ⟨Tryz.f143, Tryz.func143, by kernel_rfl, by kernel_rfl⟩
theorem q144 : TabAt Tryz.prog 144 F144 := ⟨Tryz.f144, Tryz.func144, by kernel_rfl, by kernel_rfl⟩
theorem q145 : TabAt Tryz.prog 145 F145 := ⟨Tryz.f145, Tryz.func145, by kernel_rfl, by kernel_rfl⟩
theorem q146 : TabAt Tryz.prog 146 F146 := ⟨Tryz.f146, Tryz.func146, by kernel_rfl, by kernel_rfl⟩
theorem q147 : TabAt Tryz.prog 147 F147 := ⟨Tryz.f147, Tryz.func147, by kernel_rfl, by kernel_rfl⟩
theorem q148 : TabAt Tryz.prog 148 F148 := ⟨Tryz.f148, Tryz.func148, by kernel_rfl, by kernel_rfl⟩
theorem q149 : TabAt Tryz.prog 149 F149 := ⟨Tryz.f149, Tryz.func149, by kernel_rfl, by kernel_rfl⟩
theorem q150 : TabAt Tryz.prog 150 F150 := ⟨Tryz.f150, Tryz.func150, by kernel_rfl, by kernel_rfl⟩
theorem q151 : TabAt Tryz.prog 151 F151 := ⟨Tryz.f151, Tryz.func151, by kernel_rfl, by kernel_rfl⟩
theorem q152 : TabAt Tryz.prog 152 F152 := ⟨Tryz.f152, Tryz.func152, by kernel_rfl, by kernel_rfl⟩
theorem q153 : TabAt Tryz.prog 153 F153 := ⟨Tryz.f153, Tryz.func153, by kernel_rfl, by kernel_rfl⟩
end Go.Proofs.YtedipingocmmdaaGreat.Ev


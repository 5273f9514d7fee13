/- The table is the program's, part 4. (printed by mktabok.py) -/
import Derived.Test.YtedipingocmmdaaGreatEvT3
import Derived.Test.YtedipingocmmdaaGreatEvX7
import Derived.Test.YtedipingocmmdaaGreatProg
namespace Go.Proofs.YtedipingocmmdaaGreat.Ev
open Go
theorem q255 : TabAt Tryz.prog 255 F255 := ⟨Tryz.f255, Tryz.func255, by kernel_rfl, by kernel_rfl⟩
theorem q256 : TabAt Tryz.prog 256 F256 := ⟨Tryz.f256, Tryz.func256, by kernel_rfl, by kernel_rfl⟩
theorem q257 : TabAt Tryz.prog 257 F257 := ⟨Tryz.f257, Tryz.func257, by kernel_rfl, by kernel_rfl⟩
theorem q258 : TabAt Tryz.prog 258 F258 := ⟨Tryz.f258, Tryz.func258, by kernel_rfl, by kernel_rfl⟩
theorem q259 : TabAt Tryz.prog 259 F259 := ⟨Tryz.f259, Tryz.func259, by kernel_rfl, by kernel_rfl⟩
theorem q260 : TabAt Tryz.prog 260 F260 := ⟨Tryz.f260, Tryz.func260, by kernel_rfl, by kernel_rfl⟩
theorem q261 : TabAt Tryz.prog 261 F261 := ⟨Tryz.f261, Tryz.func261, by kernel_rfl, by kernel_rfl⟩
theorem q262 : TabAt Tryz.prog 262 F262 := ⟨Tryz.f262, Tryz.func262, by kernel_rfl, by kernel_rfl⟩
theorem q263 : TabAt Tryz.prog 263 F263 := ⟨Tryz.f263, Tryz.func263, by kernel_rfl, by kernel_rfl⟩
theorem q264 : TabAt Tryz.prog 264 F264 := ⟨Tryz.f264, Tryz.func264, by kernel_rfl, by kernel_rfl⟩
theorem q265 : TabAt Tryz.prog 265 F265 := ⟨Tryz.f265, Tryz.func265, by kernel_rfl, by kernel_rfl⟩
theorem q266 : TabAt Tryz.prog 266 F266 := ⟨Tryz.f266, Tryz.func266, by kernel_rfl, by kernel_rfl⟩
theorem q267 : TabAt Tryz.prog 267 F267 := ⟨Tryz.f267, Tryz.func267, by kernel_rfl, by kernel_rfl⟩
theorem q268 : TabAt Tryz.prog 268 F268 := ⟨Tryz.f268, Tryz.func268, by kernel_rfl, by kernel_rfl⟩
theorem q269 : TabAt Tryz.prog 269 F269 := ⟨Tryz.f269, Tryz.func269, by kernel_rfl, by kernel_rfl⟩
theorem q270 : TabAt Tryz.prog 270 F270 := ⟨Tryz.f270, Tryz.func270, by kernel_rfl, by kernel_rfl⟩
theorem q271 : TabAt Tryz.prog 271 F271 := ⟨Tryz.f271, Tryz.func271, by kernel_rfl, by kernel_rfl⟩
theorem q272 : TabAt Tryz.prog 272 F272 := ⟨Tryz.f272, Tryz.func272, by kernel_rfl, by kernel_rfl⟩
theorem q273 : TabAt Tryz.prog 273 F273 := ⟨Tryz.f273, Tryz.func273, by kernel_rfl, by kernel_rfl⟩
theorem q274 : TabAt Tryz.prog 274 F274 := ⟨Tryz.f274, Tryz.func274, by kernel_rfl, by kernel_rfl⟩
theorem q275 : TabAt Tryz.prog 275 F275 := ⟨Tryz.f275, Tryz.func275, by kernel_rfl, by kernel_rfl⟩
theorem q276 : TabAt Tryz.prog 276 F276 := ⟨Tryz.f276, Tryz.func276, by kernel_rfl, by kernel_rfl⟩
theorem q277 : TabAt Tryz.prog 277 F277 := ⟨Tryz.f277, Tryz.func277, by kernel_rfl, by kernel_rfl⟩
theorem q278 : TabAt Tryz.prog 278 F278 := ⟨Tryz.f278, Tryz.func278, by kernel_rfl, by kernel_rfl⟩
theorem q279 : TabAt Tryz.prog 279 F279 := ⟨Tryz.f279, Tryz.func279, by kernel_rfl, by kernel_rfl⟩
theorem q280 : TabAt Tryz.prog 280 F280 := ⟨Tryz.f280, Tryz.func280, by kernel_rfl, by kernel_rfl⟩
theorem q281 : TabAt Tryz.prog 281 F281 := ⟨Tryz.f281, Tryz.func281, by kernel_rfl, by kernel_rfl⟩
theorem q282 : TabAt Tryz.prog 282 F282 := ⟨Tryz.f282, Tryz.func282, by kernel_rfl, by kernel_rfl⟩
theorem q283 : TabAt Tryz.prog 283 F283 := ⟨Tryz.f283, Tryz.func283, by kernel_rfl, by kernel_rfl⟩
theorem q284 : TabAt Tryz.prog 284 F284 := ⟨Tryz.f284, Tryz.func284, by kernel_rfl, by kernel_rfl⟩
theorem q285 : TabAt Tryz.prog 285 F285 := ⟨Tryz.f285, Tryz.func285, by kernel_rfl, by kernel_rfl⟩
theorem q286 : TabAt Tryz.prog 286 F286 := ⟨Tryz.f286, Tryz.func286, by kernel_rfl, by kernel_rfl⟩
theorem q287 : TabAt Tryz.prog 287 F287 := ⟨Tryz.f287, Tryz.func287, by kernel_rfl, by kernel_rfl⟩
theorem q288 : TabAt Tryz.prog 288 F288 := ⟨Tryz.f288, Tryz.func288, by kernel_rfl, by kernel_rfl⟩
theorem q289 : TabAt Tryz.prog 289 F289 := ⟨Tryz.f289, Tryz.func289, by kernel_rfl, by kernel_rfl⟩
theorem q290 : TabAt Tryz.prog 290 F290 := ⟨Tryz.f290, Tryz.func290, by kernel_rfl, by kernel_rfl⟩
theorem q291 : TabAt Tryz.prog 291 F291 := ⟨Tryz.f291, Tryz.func291, by kernel_rfl, by kernel_rfl⟩
theorem q292 : TabAt Tryz.prog 292 F292 := ⟨Tryz.f292, Tryz.func292, by kernel_rfl, by kernel_rfl⟩
theorem q293 : TabAt Tryz.prog 293 F293 := ⟨Tryz.f293, Tryz.func293, by kernel_rfl, by kernel_rfl⟩
theorem q294 : TabAt Tryz.prog 294 F294 := ⟨Tryz.f294, Tryz.func294, by kernel_rfl, by kernel_rfl⟩
theorem q295 : TabAt Tryz.prog 295 F295 := ⟨Tryz.f295, Tryz.func295, by kernel_rfl, by kernel_rfl⟩
theorem q296 : TabAt Tryz.prog 296 F296 := ⟨Tryz.f296, Tryz.func296, by kernel_rfl, by kernel_rfl⟩
theorem q297 : TabAt Tryz.prog 297 F297 := ⟨Tryz.f297, Tryz.func297, by kernel_rfl, by kernel_rfl⟩
theorem q298 : TabAt Tryz.prog 298 F298 := ⟨Tryz.f298, Tryz.func298, by kernel_rfl, by kernel_rfl⟩
theorem q299 : TabAt Tryz.prog 299 F299 := ⟨Tryz.f299, Tryz.func299, by kernel_rfl, by kernel_rfl⟩
theorem q300 : TabAt Tryz.prog 300 F300 := ⟨Tryz.f300, Tryz.func300, by kernel_rfl, by kernel_rfl⟩
theorem q301 : TabAt Tryz.prog 301 F301 := ⟨Tryz.f301, Tryz.func301, by kernel_rfl, by kernel_rfl⟩
theorem q302 : TabAt Tryz.prog 302 F302 := ⟨Tryz.f302, Tryz.func302, by kernel_rfl, by kernel_rfl⟩
theorem q303 : TabAt Tryz.prog 303 F303 := ⟨Tryz.f303, Tryz.func303, by kernel_rfl, by kernel_rfl⟩
theorem q304 : TabAt Tryz.prog 304 F304 := ⟨Tryz.f304, Tryz.func304, by kernel_rfl, by kernel_rfl⟩
theorem q305 : TabAt Tryz.prog 305 F305 := ⟨Tryz.f305, Tryz.func305, by kernel_rfl, by kernel_rfl⟩
theorem q306 : TabAt Tryz.prog 306 F306 := ⟨Tryz.f306, Tryz.func306, by kernel_rfl, by kernel_rfl⟩
theorem q307 : TabAt Tryz.prog 307 F307 := ⟨Tryz.f307, Tryz.func307, by kernel_rfl, by kernel_rfl⟩
theorem q308 : TabAt Tryz.prog 308 F308 := ⟨Tryz.f308, Tryz.func308, by kernel_rfl, by kernel_rfl⟩
theorem q309 : TabAt Tryz.prog 309 F309 := ⟨Tryz.f309, Tryz.func309, by kernel_rfl, by kernel_rfl⟩
theorem q310 : TabAt Tryz.prog 310 F310 := ⟨Tryz.f310, Tryz.func310, by kernel_rfl, by kernel_rfl⟩
theorem q311 : TabAt Tryz.prog 311 F311 := ⟨Tryz.f311, Tryz.func311, by kernel_rfl, by kernel_rfl⟩
theorem q312 : TabAt Tryz.prog 312 F312 := ⟨Tryz.f312, Tryz.func312, by kernel_rfl, by kernel_rfl⟩
theorem q313 : TabAt Tryz.prog 313 F313 := ⟨Tryz.f313, Tryz.func313, by kernel_rfl, by kernel_rfl⟩
theorem q314 : TabAt Tryz.prog 314 F314 := ⟨Tryz.f314, Tryz.func314, by kernel_rfl, by kernel_rfl⟩
theorem q315 : TabAt Tryz.prog 315 F315 := ⟨Tryz.f315, Tryz.func315, by kernel_rfl, by kernel_rfl⟩
theorem q316 : TabAt Tryz.prog 316 F316 := ⟨Tryz.f316, Tryz.func316, by kernel_rfl, by kernel_rfl⟩
theorem q317 : TabAt Tryz.prog 317 F317 := ⟨Tryz.f317, Tryz.func317, by kernel_rfl, by kernel_rfl⟩
theorem q318 : TabAt Tryz.prog 318 F318 := ⟨Tryz.f318, Tryz.func318, by kernel_rfl, by kernel_rfl⟩
theorem q319 : TabAt Tryz.prog 319 F319 := ⟨Tryz.f319, Tryz.func319, by kernel_rfl, by kernel_rfl⟩
theorem q320 : TabAt Tryz.prog 320 F320 := ⟨Tryz.f320, Tryz.func320, by kernel_rfl, by kernel_rfl⟩
theorem q321 : TabAt Tryz.prog 321 F321 := ⟨Tryz.f321, Tryz.func321, by kernel_rfl, by kernel_rfl⟩
theorem q322 : TabAt Tryz.prog 322 F322 := ⟨Tryz.f322, Tryz.func322, by kernel_rfl, by kernel_rfl⟩
theorem q323 : TabAt Tryz.prog 323 F323 := ⟨Tryz.f323, Tryz.func323, by kernel_rfl, by kernel_rfl⟩
theorem q324 : TabAt Tryz.prog 324 F324 := ⟨Tryz.f324, Tryz.func324, by kernel_rfl, by kernel_rfl⟩
theorem q325 : TabAt Tryz.prog 325 F325 := ⟨Tryz.f325, Tryz.func325, by kernel_rfl, by kernel_rfl⟩
theorem q326 : TabAt Tryz.prog 326 F326 := ⟨Tryz.f326, Tryz.func326, by kernel_rfl, by kernel_rfl⟩
theorem q327 : TabAt Tryz.prog 327 F327 := ⟨Tryz.f327, Tryz.func327, by kernel_rfl, by kernel_rfl⟩
theorem q328 : TabAt Tryz.prog 328 F328 := ⟨Tryz.f328, Tryz.func328, by kernel_rfl, by kernel_rfl⟩
theorem q329 : TabAt Tryz.prog 329 F329 := ⟨Tryz.f329, Tryz.func329, by kernel_rfl, by kernel_rfl⟩
theorem q330 : TabAt Tryz.prog 330 F330 := ⟨Tryz.f330, Tryz.func330, by kernel_rfl, by kernel_rfl⟩
theorem q331 : TabAt Tryz.prog 331 F331 := ⟨Tryz.f331, Tryz.func331, by kernel_rfl, by kernel_rfl⟩
theorem q332 : TabAt Tryz.prog 332 F332 := ⟨Tryz.f332, Tryz.func332, by kernel_rfl, by kernel_rfl⟩
theorem q333 : TabAt Tryz.prog 333 F333 := ⟨Tryz.f333, Tryz.func333, by kernel_rfl, by kernel_rfl⟩
end Go.Proofs.YtedipingocmmdaaGreat.Ev


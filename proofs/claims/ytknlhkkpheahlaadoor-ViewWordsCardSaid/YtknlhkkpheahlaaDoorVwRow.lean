/- Any word at any address, of any shape, as a line; any name, any result: the statement ViewWords, whole: for every input the call returns true, and what came in reads as before. Conditions: none but what the row lists: the library's tables, tied to the program's text. -/
import Derived.Test.YtknlhkkpheahlaaDoorCards
import Derived.Test.YtknlhkkpheahlaaDoorTie
import Derived.Test.YtknlhkkpheahlaaDoorLawVw
import Derived.Test.YtknlhkkpheahlaaDoorOpenV
import Derived.Deep.DeepHandedRow
import Derived.LaidMore
import Derived.Stop.LaidErr
namespace Go.Proofs.YtknlhkkpheahlaaDoor
open Go.ChangeShapes Go.WideShapes Go.ChangeAt Go.RowKit Go.Deep

theorem viewWords_tab {W : World} (h : laidMetH Tryd.prog Rows.viewWordsRow.laid W) : TabT W := by
  have h' : laidMet Tryd.prog Rows.viewWordsRow.laid W := h
  exact Lib.tabIs_of_head (rest := []) (show Tryd.prog.globalNamed "internal/strconv.uint64pow10" = some 1 by kernel_rfl) (show (Tryd.prog.globals[1]?).map (·.type) = some 177 by kernel_rfl) Tryd.underlying177 Tryd.underlying46 (by kernel_rfl) (by kernel_rfl) h'.tail.tail

theorem viewWords_tab64 {W : World} (h : laidMetH Tryd.prog Rows.viewWordsRow.laid W) : Tab64 W := by
  have h' : laidMet Tryd.prog Rows.viewWordsRow.laid W := h
  exact Lib.tabIs_of_head (rest := [("internal/strconv.uint64pow10", Rows.laid_internal_strconv_uint64pow10)]) (show Tryd.prog.globalNamed "math/bits.deBruijn64tab" = some 4 by kernel_rfl) (show (Tryd.prog.globals[4]?).map (·.type) = some 196 by kernel_rfl) Tryd.underlying196 Tryd.underlying5 (by kernel_rfl) (by kernel_rfl) h'.tail

theorem viewWords_met (os : Os) : laidMet Tryd.prog Rows.viewWordsRow.laid ((World.doorLaid Tryd.prog 31 os).forCall (fun _ _ => 0) ⟨#[], #[.agg #[.int .i64 0, .int .i64 0, .int .i64 0, .int .i64 0, .int .i64 0, .int .i64 0, .int .i64 0, .int .i64 0, .int .i64 0, .int .i64 0, .slice none 0 0], .int .i64 0, .int .u64 0, .agg #[.int .i64 0, .int .i64 0], .agg #[.int .i64 0, .int .i64 0, .int .i64 0, .int .i64 0], .int .i64 0], []⟩).memory :=
  laidMet_of_run' 8 (by kernel_rfl) (by kernel_rfl)
theorem viewWords_reads (os : Os) {H : Type} (enc : TypeId × Value → H) : ∃ places, DataW.whole enc Tryd.prog ((World.doorLaid Tryd.prog 31 os).forCall (fun _ _ => 0) ⟨#[], #[.agg #[.int .i64 0, .int .i64 0, .int .i64 0, .int .i64 0, .int .i64 0, .int .i64 0, .int .i64 0, .int .i64 0, .int .i64 0, .int .i64 0, .slice none 0 0], .int .i64 0, .int .u64 0, .agg #[.int .i64 0, .int .i64 0], .agg #[.int .i64 0, .int .i64 0, .int .i64 0, .int .i64 0], .int .i64 0], []⟩).memory Tryd.f4.params.toList Rows.viewWordsSpec.vars false (#[.agg #[.int .i64 0, .int .i64 0, .int .i64 0, .int .i64 0, .int .i64 0, .int .i64 0, .int .i64 0, .int .i64 0, .int .i64 0, .int .i64 0, .slice none 0 0], .int .i64 0, .int .u64 0, .agg #[.int .i64 0, .int .i64 0], .agg #[.int .i64 0, .int .i64 0, .int .i64 0, .int .i64 0], .int .i64 0] : Array Value).toList 8 = some ([.agg [.lit (.int .i64 0), .lit (.int .i64 0), .lit (.int .i64 0), .lit (.int .i64 0), .lit (.int .i64 0), .lit (.int .i64 0), .lit (.int .i64 0), .lit (.int .i64 0), .lit (.int .i64 0), .lit (.int .i64 0), .nil], .lit (.int .i64 0), .lit (.int .u64 0), .agg [.lit (.int .i64 0), .lit (.int .i64 0)], .agg [.lit (.int .i64 0), .lit (.int .i64 0), .lit (.int .i64 0), .lit (.int .i64 0)], .lit (.int .i64 0)], [], places) :=
  ⟨[], by kernel_rfl⟩

set_option maxRecDepth 100000 in
theorem viewWords_lifted (os : Os) (started : os.Started) (H : Type) (enc : TypeId × Value → H) (F : Stop.Interp) :
    ReturnsInHanded {} Tryd.checked os 4 .any ((OpenSpec.ofChange Rows.viewWordsSpec).preRow enc Tryd.prog Tryd.f4 Rows.viewWordsRow.domain false Rows.viewWordsRow.laid) (((OpenSpec.ofChange Rows.viewWordsSpec).at F).post enc Tryd.prog Tryd.f4 false true false false) := by
  obtain ⟨places, hx⟩ := viewWords_reads os enc
  refine returnsInHanded_of_row (C := Tryd.checked) (s := OpenSpec.ofChange Rows.viewWordsSpec) own_knob started (by kernel_rfl) Tryd.func4
    (witness_row_at (enc := enc) (C := Tryd.checked) false (World.doorLaid Tryd.prog 31 os) #[.agg #[.int .i64 0, .int .i64 0, .int .i64 0, .int .i64 0, .int .i64 0, .int .i64 0, .int .i64 0, .int .i64 0, .int .i64 0, .int .i64 0, .slice none 0 0], .int .i64 0, .int .u64 0, .agg #[.int .i64 0, .int .i64 0], .agg #[.int .i64 0, .int .i64 0, .int .i64 0, .int .i64 0], .int .i64 0] rfl (by kernel_rfl) (by kernel_rfl) (by kernel_rfl)
      (OpenSpec.preRow_of_cond 8 hx (by kernel_rfl) (fun k hk => by cases hk) (by kernel_rfl) (viewWords_met os))) ?_
  intro W base args ds gs before hval0 hW _ _ hsz0 hL _ _
  have hval : ∀ (j : Nat) t v, Tryd.f4.params[j]? = some t → args[j]? = some v → Value.okWide Tryd.prog W .any base t v := hval0
  have hW' := hW
  obtain ⟨p, q, hA0, hV, rfl, hfz, hnd⟩ := hW
  have hA : DataW.TrodAll enc Tryd.prog W 0 (fun _ => true) true Tryd.f4.params.toList args.toList ds p := hA0
  obtain ⟨rfl, rfl⟩ := trodVars_none hV
  have hsz : (DataW.weightsEach Tryd.prog (Tryd.f4.params.toList ++ []) (ds ++ [])).all (· ≤ reachBytes) = true := hsz0
  rw [List.append_nil, List.append_nil] at hsz
  rw [Tryd.params4] at hA hval hsz
  simp only at hA hsz
  obtain ⟨v0, vs0, d0, ds0, p0, q0, hargs0, rfl, rfl, h0, r0⟩ := trodAll_cons hA
  obtain ⟨v1, vs1, d1, ds1, p1, q1, hargs1, rfl, rfl, h1, r1⟩ := trodAll_cons r0
  obtain ⟨v2, vs2, d2, ds2, p2, q2, hargs2, rfl, rfl, h2, r2⟩ := trodAll_cons r1
  obtain ⟨v3, vs3, d3, ds3, p3, q3, hargs3, rfl, rfl, h3, r3⟩ := trodAll_cons r2
  obtain ⟨v4, vs4, d4, ds4, p4, q4, hargs4, rfl, rfl, h4, r4⟩ := trodAll_cons r3
  obtain ⟨v5, vs5, d5, ds5, p5, q5, hargs5, rfl, rfl, h5, r5⟩ := trodAll_cons r4
  obtain ⟨rfl, rfl, rfl⟩ := trodAll_nil r5
  subst hargs5
  subst hargs4
  subst hargs3
  subst hargs2
  subst hargs1
  obtain rfl : args = #[v0, v1, v2, v3, v4, v5] := by cases args; simp_all
  obtain ⟨f0, hz⟩ := fit_cons hsz
  obtain ⟨f1, hz⟩ := fit_cons hz
  obtain ⟨f2, hz⟩ := fit_cons hz
  obtain ⟨f3, hz⟩ := fit_cons hz
  obtain ⟨f4, hz⟩ := fit_cons hz
  obtain ⟨f5, hz⟩ := fit_cons hz
  clear hA0 hval0 hsz0 hsz hz
  obtain ⟨c, rfl, hcf⟩ := open_cfg (hval 0 45 v0 rfl rfl) h0
  obtain ⟨a, rfl, _, _⟩ := int_arg Tryd.underlying3 (hval 1 3 v1 rfl rfl) h1
  obtain ⟨u, rfl, hu⟩ := word_arg (hval 2 46 v2 rfl rfl) h2
  obtain ⟨r, rfl, hr1, hr2⟩ := ref_arg (hval 3 48 v3 rfl rfl) h3
  obtain ⟨x, rfl, hx1, hx3, _, hx2⟩ := res_arg (hval 4 27 v4 rfl rfl) h4
  obtain ⟨pc, rfl, _, _⟩ := int_arg Tryd.underlying3 (hval 5 3 v5 rfl rfl) h5
  have hT := viewWords_tab hL
  have hT64 := viewWords_tab64 hL
  refine (LawVw_any c a u r x pc W hcf hu hr1 hr2 hx1 hx2 hx3 hT hT64.tz).mono fun e W' ⟨he, hb⟩ => ?_
  subst he
  exact ⟨_, rfl, law_post laid_out (by kernel_rfl) (by kernel_rfl) Tryd.underlying4 rfl hW' rfl hb⟩

theorem viewWords_said : Rows.ViewWordsSaid :=
  OpenClaim.holds_of_cond 4 Tryd.f4 rfl rfl rfl rfl rfl rfl rfl ⟨rfl, rfl, rfl, rfl, rfl⟩ rfl rfl rfl rfl rfl (by kernel_rfl) Tryd.func4 (by kernel_rfl)
    (of_decide_eq_true (by kernel_rfl)) (by unfold Func.isWrapper; first | (rw [if_pos (by decide +kernel)]; kernel_rfl) | (rw [if_neg (by decide +kernel)]; exact ⟨rfl, rfl⟩))
    (fun os started H enc _ F => by rw [OpenClaim.pre_eq_preRow]; exact viewWords_lifted os started H enc F)

theorem viewWords_plain (f : FuncId) (fn : Func) (hf : Tryd.pinned.checked.prog.funcNamed "stopgate/stopgatelaw25.ViewWords" = some f) (hfn : Tryd.pinned.checked.prog.funcs[f]? = some fn) :
    true = Tryd.pinned.checked.prog.looks [] ∧ ∀ (j : Nat) t, fn.params[j]? = some t → Tryd.pinned.checked.prog.wantsStandIn t = false := by
  obtain rfl : f = 4 := Option.some.inj ((show Tryd.prog.funcNamed "stopgate/stopgatelaw25.ViewWords" = some 4 by kernel_rfl).symm.trans hf) |>.symm
  obtain rfl : fn = Tryd.f4 := (Option.some.inj (Tryd.func4.symm.trans hfn)).symm
  refine ⟨by kernel_rfl, fun j t ht => ?_⟩
  rw [Tryd.params4] at ht
  have hm : t ∈ [45, 3, 46, 48, 27, 3] := by simpa using Array.mem_of_getElem? ht
  have hall : ([45, 3, 46, 48, 27, 3].all fun u => !Tryd.prog.wantsStandIn u) = true := by kernel_rfl
  exact (show Tryd.prog.wantsStandIn t = false by simpa using List.all_eq_true.1 hall t hm)

theorem viewWords_holds : Rows.ViewWordsCardSaid :=
  Claim7.holds_tied_plain_at .later [] _ _ _ _ viewWords_said (fun _ h => by cases h) (by kernel_rfl) (fun _ h => by cases h) viewWords_row_tie rfl ⟨rfl, rfl⟩ (by kernel_rfl) rfl viewWords_plain (by kernel_rfl)

end Go.Proofs.YtknlhkkpheahlaaDoor

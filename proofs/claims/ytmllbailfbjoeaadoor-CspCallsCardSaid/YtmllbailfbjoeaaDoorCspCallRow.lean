/- What calls are made of any numbers, and any cases: the statement CspCalls, whole: for every input the call returns true, and what came in reads as before. No condition but the one that the row lists: the library's tables, tied to the program's text. -/
import Derived.Test.YtmllbailfbjoeaaDoorCards
import Derived.Test.YtmllbailfbjoeaaDoorTie
import Derived.Test.YtmllbailfbjoeaaDoorLawCspC
import Derived.Test.YtmllbailfbjoeaaDoorCspOpen
import Derived.Deep.DeepHandedRow
import Derived.LaidMore
import Derived.Stop.LaidErr
namespace Go.Proofs.YtmllbailfbjoeaaDoor
open Go.ChangeShapes Go.WideShapes Go.ChangeAt Go.RowKit Go.Deep

theorem cspCalls_tab {W : World} (h : laidMetH Tryd.prog Rows.cspCallsRow.laid W) : TabT W := by
  have h' : laidMet Tryd.prog Rows.cspCallsRow.laid W := h
  exact Lib.tabIs_of_head (rest := []) (show Tryd.prog.globalNamed "internal/strconv.uint64pow10" = some 1 by kernel_rfl) (show (Tryd.prog.globals[1]?).map (·.type) = some 162 by kernel_rfl) Tryd.underlying162 Tryd.underlying54 (by kernel_rfl) (by kernel_rfl) h'.tail.tail

theorem cspCalls_met (os : Os) : laidMet Tryd.prog Rows.cspCallsRow.laid ((World.doorLaid Tryd.prog 31 os).forCall (fun _ _ => 0) ⟨#[], #[.int .i64 0, .int .i64 0, .bool false, .slice none 0 0], []⟩).memory :=
  laidMet_of_run' 8 (by kernel_rfl) (by kernel_rfl)
theorem cspCalls_reads (os : Os) {H : Type} (enc : TypeId × Value → H) : ∃ places, DataW.whole enc Tryd.prog ((World.doorLaid Tryd.prog 31 os).forCall (fun _ _ => 0) ⟨#[], #[.int .i64 0, .int .i64 0, .bool false, .slice none 0 0], []⟩).memory Tryd.f4.params.toList Rows.cspCallsSpec.vars false (#[.int .i64 0, .int .i64 0, .bool false, .slice none 0 0] : Array Value).toList 8 = some ([.lit (.int .i64 0), .lit (.int .i64 0), .lit (.bool false), .nil], [], places) :=
  ⟨[], by kernel_rfl⟩

set_option maxRecDepth 100000 in
theorem cspCalls_lifted (os : Os) (started : os.Started) (H : Type) (enc : TypeId × Value → H) (F : Stop.Interp) :
    ReturnsInHanded {} Tryd.checked os 4 .any ((OpenSpec.ofChange Rows.cspCallsSpec).preRow enc Tryd.prog Tryd.f4 Rows.cspCallsRow.domain false Rows.cspCallsRow.laid) (((OpenSpec.ofChange Rows.cspCallsSpec).at F).post enc Tryd.prog Tryd.f4 false true false false) := by
  obtain ⟨places, hx⟩ := cspCalls_reads os enc
  refine returnsInHanded_of_row (C := Tryd.checked) (s := OpenSpec.ofChange Rows.cspCallsSpec) own_knob started (by kernel_rfl) Tryd.func4
    (witness_row_at (enc := enc) (C := Tryd.checked) false (World.doorLaid Tryd.prog 31 os) #[.int .i64 0, .int .i64 0, .bool false, .slice none 0 0] rfl (by kernel_rfl) (by kernel_rfl) (by kernel_rfl)
      (OpenSpec.preRow_of_cond 8 hx (by kernel_rfl) (fun k hk => by cases hk) (by kernel_rfl) (cspCalls_met os))) ?_
  intro W base args ds gs before hval0 hW _ _ hsz0 hL _ _
  have hval : ∀ (j : Nat) t v, Tryd.f4.params[j]? = some t → args[j]? = some v → Value.okWide Tryd.prog W .any base t v := hval0
  have hW' := hW
  obtain ⟨p, q, hA0, hV, rfl, hfz, hnd⟩ := hW
  have hA : DataW.TrodAll enc Tryd.prog W 0 (fun _ => true) true Tryd.f4.params.toList args.toList ds p := hA0
  obtain ⟨rfl, rfl⟩ := trodVars_none hV
  have hsz : (DataW.weightsEach Tryd.prog (Tryd.f4.params.toList ++ []) (ds ++ [])).all (· ≤ reachBytes) = true := hsz0
  rw [List.append_nil, List.append_nil] at hsz
  rw [Tryd.params4] at hA hval hsz
  simp only at hA hsz
  obtain ⟨v0, vs0, d0, ds0, p0, q0, hargs0, rfl, rfl, h0, r0⟩ := trodAll_cons hA
  obtain ⟨v1, vs1, d1, ds1, p1, q1, hargs1, rfl, rfl, h1, r1⟩ := trodAll_cons r0
  obtain ⟨v2, vs2, d2, ds2, p2, q2, hargs2, rfl, rfl, h2, r2⟩ := trodAll_cons r1
  obtain ⟨v3, vs3, d3, ds3, p3, q3, hargs3, rfl, rfl, h3, r3⟩ := trodAll_cons r2
  obtain ⟨rfl, rfl, rfl⟩ := trodAll_nil r3
  subst hargs3
  subst hargs2
  subst hargs1
  obtain rfl : args = #[v0, v1, v2, v3] := by cases args; simp_all
  obtain ⟨f0, hz⟩ := fit_cons hsz
  obtain ⟨f1, hz⟩ := fit_cons hz
  obtain ⟨f2, hz⟩ := fit_cons hz
  obtain ⟨f3, hz⟩ := fit_cons hz
  clear hA0 hval0 hsz0 hsz hz
  obtain ⟨a, rfl, _, _⟩ := int_arg Tryd.underlying3 (hval 0 3 v0 rfl rfl) h0
  obtain ⟨b, rfl, _, _⟩ := int_arg Tryd.underlying3 (hval 1 3 v1 rfl rfl) h1
  obtain ⟨o, rfl⟩ := bool_arg Tryd.underlying4 (hval 2 4 v2 rfl rfl) h2
  obtain ⟨A, l, c, rfl, hR, _, hn, _⟩ := cases_arg (hval 3 22 v3 rfl rfl) h3 f3
  have hT := cspCalls_tab hL
  refine (LawCspC_any a b o A l.length c l W rfl (by omega) hR hT).mono fun e W' ⟨he, hb⟩ => ?_
  subst he
  exact ⟨_, rfl, law_post laid_out (by kernel_rfl) (by kernel_rfl) Tryd.underlying4 rfl hW' rfl hb⟩

theorem cspCalls_said : Rows.CspCallsSaid :=
  OpenClaim.holds_of_cond 4 Tryd.f4 rfl rfl rfl rfl rfl rfl rfl ⟨rfl, rfl, rfl, rfl, rfl⟩ rfl rfl rfl rfl rfl (by kernel_rfl) Tryd.func4 (by kernel_rfl)
    (of_decide_eq_true (by kernel_rfl)) (by unfold Func.isWrapper; first | (rw [if_pos (by decide +kernel)]; kernel_rfl) | (rw [if_neg (by decide +kernel)]; exact ⟨rfl, rfl⟩))
    (fun os started H enc _ F => by rw [OpenClaim.pre_eq_preRow]; exact cspCalls_lifted os started H enc F)

theorem cspCalls_plain (f : FuncId) (fn : Func) (hf : Tryd.pinned.checked.prog.funcNamed "stopgate/stopgatelaw23.CspCalls" = some f) (hfn : Tryd.pinned.checked.prog.funcs[f]? = some fn) :
    true = Tryd.pinned.checked.prog.looks [] ∧ ∀ (j : Nat) t, fn.params[j]? = some t → Tryd.pinned.checked.prog.wantsStandIn t = false := by
  obtain rfl : f = 4 := Option.some.inj ((show Tryd.prog.funcNamed "stopgate/stopgatelaw23.CspCalls" = some 4 by kernel_rfl).symm.trans hf) |>.symm
  obtain rfl : fn = Tryd.f4 := (Option.some.inj (Tryd.func4.symm.trans hfn)).symm
  refine ⟨by kernel_rfl, fun j t ht => ?_⟩
  rw [Tryd.params4] at ht
  have hm : t ∈ [3, 3, 4, 22] := by simpa using Array.mem_of_getElem? ht
  have hall : ([3, 3, 4, 22].all fun u => !Tryd.prog.wantsStandIn u) = true := by kernel_rfl
  exact (show Tryd.prog.wantsStandIn t = false by simpa using List.all_eq_true.1 hall t hm)

theorem cspCalls_holds : Rows.CspCallsCardSaid :=
  Claim7.holds_tied_plain_at .later [] _ _ _ _ cspCalls_said (fun _ h => by cases h) (by kernel_rfl) (fun _ h => by cases h) cspCalls_row_tie rfl ⟨rfl, rfl⟩ (by kernel_rfl) rfl cspCalls_plain (by kernel_rfl)

end Go.Proofs.YtmllbailfbjoeaaDoor

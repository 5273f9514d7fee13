/- Any accesses done to any words, and taken back: the statement TraceRedo, whole: for every input the call returns true, and what came in reads as before. Conditions: none but what the row lists: the library's tables, tied to the program's text. -/
import Derived.Test.YtiioedgdhkndgaaDoorCards
import Derived.Test.YtiioedgdhkndgaaDoorTie
import Derived.Test.YtiioedgdhkndgaaDoorTrcOpen
import Derived.Test.YtiioedgdhkndgaaDoorOpenW
import Derived.Test.YtiioedgdhkndgaaDoorCspOpen
import Derived.Test.YtiioedgdhkndgaaDoorLawRedo
import Derived.Deep.DeepHandedRow
import Derived.LaidMore
import Derived.Stop.LaidErr
namespace Go.Proofs.YtiioedgdhkndgaaDoor
open Go.ChangeShapes Go.WideShapes Go.ChangeAt Go.RowKit Go.Deep

theorem traceRedo_tab {W : World} (h : laidMetH Tryd.prog Rows.traceRedoRow.laid W) : TabT W := by
  have h' : laidMet Tryd.prog Rows.traceRedoRow.laid W := h
  exact Lib.tabIs_of_head (rest := []) (show Tryd.prog.globalNamed "internal/strconv.uint64pow10" = some 1 by kernel_rfl) (show (Tryd.prog.globals[1]?).map (·.type) = some 232 by kernel_rfl) Tryd.underlying232 Tryd.underlying62 (by kernel_rfl) (by kernel_rfl) h'.tail.tail

theorem traceRedo_tab64 {W : World} (h : laidMetH Tryd.prog Rows.traceRedoRow.laid W) : Tab64 W := by
  have h' : laidMet Tryd.prog Rows.traceRedoRow.laid W := h
  exact Lib.tabIs_of_head (rest := [("internal/strconv.uint64pow10", Rows.laid_internal_strconv_uint64pow10)]) (show Tryd.prog.globalNamed "math/bits.deBruijn64tab" = some 4 by kernel_rfl) (show (Tryd.prog.globals[4]?).map (·.type) = some 254 by kernel_rfl) Tryd.underlying254 Tryd.underlying5 (by kernel_rfl) (by kernel_rfl) h'.tail

theorem traceRedo_met (os : Os) : laidMet Tryd.prog Rows.traceRedoRow.laid ((World.doorLaid Tryd.prog 31 os).forCall (fun _ _ => 0) ⟨#[], #[.slice none 0 0, .slice none 0 0, .agg #[.int .i64 0, .int .i64 0, .int .i64 0, .int .u64 0, .int .u64 0, .int .u64 0, .bool false], .int .i64 0], []⟩).memory :=
  laidMet_of_run' 8 (by kernel_rfl) (by kernel_rfl)
theorem traceRedo_reads (os : Os) {H : Type} (enc : TypeId × Value → H) : ∃ places, DataW.whole enc Tryd.prog ((World.doorLaid Tryd.prog 31 os).forCall (fun _ _ => 0) ⟨#[], #[.slice none 0 0, .slice none 0 0, .agg #[.int .i64 0, .int .i64 0, .int .i64 0, .int .u64 0, .int .u64 0, .int .u64 0, .bool false], .int .i64 0], []⟩).memory Tryd.f7.params.toList Rows.traceRedoSpec.vars false (#[.slice none 0 0, .slice none 0 0, .agg #[.int .i64 0, .int .i64 0, .int .i64 0, .int .u64 0, .int .u64 0, .int .u64 0, .bool false], .int .i64 0] : Array Value).toList 8 = some ([.nil, .nil, .agg [.lit (.int .i64 0), .lit (.int .i64 0), .lit (.int .i64 0), .lit (.int .u64 0), .lit (.int .u64 0), .lit (.int .u64 0), .lit (.bool false)], .lit (.int .i64 0)], [], places) :=
  ⟨[], by kernel_rfl⟩

set_option maxRecDepth 100000 in
theorem traceRedo_lifted (os : Os) (started : os.Started) (H : Type) (enc : TypeId × Value → H) (F : Stop.Interp) :
    ReturnsInHanded {} Tryd.checked os 7 .any ((OpenSpec.ofChange Rows.traceRedoSpec).preRow enc Tryd.prog Tryd.f7 Rows.traceRedoRow.domain false Rows.traceRedoRow.laid) (((OpenSpec.ofChange Rows.traceRedoSpec).at F).post enc Tryd.prog Tryd.f7 false true false false) := by
  obtain ⟨places, hx⟩ := traceRedo_reads os enc
  refine returnsInHanded_of_row (C := Tryd.checked) (s := OpenSpec.ofChange Rows.traceRedoSpec) own_knob started (by kernel_rfl) Tryd.func7
    (witness_row_at (enc := enc) (C := Tryd.checked) false (World.doorLaid Tryd.prog 31 os) #[.slice none 0 0, .slice none 0 0, .agg #[.int .i64 0, .int .i64 0, .int .i64 0, .int .u64 0, .int .u64 0, .int .u64 0, .bool false], .int .i64 0] rfl (by kernel_rfl) (by kernel_rfl) (by kernel_rfl)
      (OpenSpec.preRow_of_cond 8 hx (by kernel_rfl) (fun k hk => by cases hk) (by kernel_rfl) (traceRedo_met os))) ?_
  intro W base args ds gs before hval0 hW _ _ hsz0 hL _ _
  have hval : ∀ (j : Nat) t v, Tryd.f7.params[j]? = some t → args[j]? = some v → Value.okWide Tryd.prog W .any base t v := hval0
  have hW' := hW
  obtain ⟨p, q, hA0, hV, rfl, hfz, hnd⟩ := hW
  have hA : DataW.TrodAll enc Tryd.prog W 0 (fun _ => true) true Tryd.f7.params.toList args.toList ds p := hA0
  obtain ⟨rfl, rfl⟩ := trodVars_none hV
  have hsz : (DataW.weightsEach Tryd.prog (Tryd.f7.params.toList ++ []) (ds ++ [])).all (· ≤ reachBytes) = true := hsz0
  rw [List.append_nil, List.append_nil] at hsz
  rw [Tryd.params7] at hA hval hsz
  simp only at hA hsz
  obtain ⟨v0, vs0, d0, ds0, p0, q0, hargs0, rfl, rfl, h0, r0⟩ := trodAll_cons hA
  obtain ⟨v1, vs1, d1, ds1, p1, q1, hargs1, rfl, rfl, h1, r1⟩ := trodAll_cons r0
  obtain ⟨v2, vs2, d2, ds2, p2, q2, hargs2, rfl, rfl, h2, r2⟩ := trodAll_cons r1
  obtain ⟨v3, vs3, d3, ds3, p3, q3, hargs3, rfl, rfl, h3, r3⟩ := trodAll_cons r2
  obtain ⟨rfl, rfl, rfl⟩ := trodAll_nil r3
  subst hargs3
  subst hargs2
  subst hargs1
  obtain rfl : args = #[v0, v1, v2, v3] := by cases args; simp_all
  obtain ⟨f0, hz⟩ := fit_cons hsz
  obtain ⟨f1, hz⟩ := fit_cons hz
  obtain ⟨f2, hz⟩ := fit_cons hz
  obtain ⟨f3, hz⟩ := fit_cons hz
  clear hA0 hval0 hsz0 hsz hz
  obtain ⟨A, ws, c, rfl, hR, _, hA0, hn, _⟩ := words_arg (hval 0 71 v0 rfl rfl) h0 f0
  obtain ⟨B, l, e, rfl, hB, _, _, hl, _⟩ := accs_arg (hval 1 72 v1 rfl rfl) h1 f1
  obtain ⟨a, rfl, _⟩ := acc_arg (hval 2 74 v2 rfl rfl) h2
  obtain ⟨size, rfl, _, _⟩ := int_arg Tryd.underlying3 (hval 3 3 v3 rfl rfl) h3
  have hT := traceRedo_tab hL
  have hT64 := traceRedo_tab64 hL
  refine (LawRedo_any A B c e ws l a size W (by omega) (by unfold maxLen; omega) hA0 hR hB hT hT64.tz).mono fun e W' ⟨he, hb⟩ => ?_
  subst he
  exact ⟨_, rfl, law_post laid_out (by kernel_rfl) (by kernel_rfl) Tryd.underlying4 rfl hW' rfl hb⟩

theorem traceRedo_said : Rows.TraceRedoSaid :=
  OpenClaim.holds_of_cond 7 Tryd.f7 rfl rfl rfl rfl rfl rfl rfl ⟨rfl, rfl, rfl, rfl, rfl⟩ rfl rfl rfl rfl rfl (by kernel_rfl) Tryd.func7 (by kernel_rfl)
    (of_decide_eq_true (by kernel_rfl)) (by unfold Func.isWrapper; first | (rw [if_pos (by decide +kernel)]; kernel_rfl) | (rw [if_neg (by decide +kernel)]; exact ⟨rfl, rfl⟩))
    (fun os started H enc _ F => by rw [OpenClaim.pre_eq_preRow]; exact traceRedo_lifted os started H enc F)

theorem traceRedo_plain (f : FuncId) (fn : Func) (hf : Tryd.pinned.checked.prog.funcNamed "stopgate/stopgatelaw27.TraceRedo" = some f) (hfn : Tryd.pinned.checked.prog.funcs[f]? = some fn) :
    true = Tryd.pinned.checked.prog.looks [] ∧ ∀ (j : Nat) t, fn.params[j]? = some t → Tryd.pinned.checked.prog.wantsStandIn t = false := by
  obtain rfl : f = 7 := Option.some.inj ((show Tryd.prog.funcNamed "stopgate/stopgatelaw27.TraceRedo" = some 7 by kernel_rfl).symm.trans hf) |>.symm
  obtain rfl : fn = Tryd.f7 := (Option.some.inj (Tryd.func7.symm.trans hfn)).symm
  refine ⟨by kernel_rfl, fun j t ht => ?_⟩
  rw [Tryd.params7] at ht
  have hm : t ∈ [71, 72, 74, 3] := by simpa using Array.mem_of_getElem? ht
  have hall : ([71, 72, 74, 3].all fun u => !Tryd.prog.wantsStandIn u) = true := by kernel_rfl
  exact (show Tryd.prog.wantsStandIn t = false by simpa using List.all_eq_true.1 hall t hm)

theorem traceRedo_holds : Rows.TraceRedoCardSaid :=
  Claim7.holds_tied_plain_at .later [] _ _ _ _ traceRedo_said (fun _ h => by cases h) (by kernel_rfl) (fun _ h => by cases h) traceRedo_row_tie rfl ⟨rfl, rfl⟩ (by kernel_rfl) rfl traceRedo_plain (by kernel_rfl)

end Go.Proofs.YtiioedgdhkndgaaDoor

/- A shape that may be is read from its line, and the shape of a line that is read has a line of which it is read: the statement ShapeBack, its second form: for every input of bulk at most 1048576 the call returns true, and what came in reads as before. Conditions: what came in is of bulk at most 1048576; what the row lists: the library's tables, tied to the program's text. -/
import Derived.Test.YtknlhkkpheahlaaDoorCards
import Derived.Test.YtknlhkkpheahlaaDoorTie
import Derived.Test.YtknlhkkpheahlaaDoorLawShp
import Derived.Test.YtknlhkkpheahlaaDoorOpenV
import Derived.Shelf.Vars
import Derived.ChangeMaps5
import Derived.Lay
import Derived.Deep.DeepHandedRow
import Derived.LaidMore
import Derived.Stop.LaidErr
namespace Go.Proofs.YtknlhkkpheahlaaDoor
open Go.ChangeShapes Go.WideShapes Go.ChangeAt Go.RowKit Go.Deep

theorem shapeBack_tab {W : World} (h : laidMetH Tryd.prog Rows.shapeBackUptoRow.laid W) : TabT W := by
  have h' : laidMet Tryd.prog Rows.shapeBackUptoRow.laid W := h
  exact Lib.tabIs_of_head (rest := _) (show Tryd.prog.globalNamed "internal/strconv.uint64pow10" = some 1 by kernel_rfl) (show (Tryd.prog.globals[1]?).map (·.type) = some 177 by kernel_rfl) Tryd.underlying177 Tryd.underlying46 (by kernel_rfl) (by kernel_rfl) h'.tail.tail

theorem shapeBack_met (os : Os) : laidMet Tryd.prog Rows.shapeBackUptoRow.laid ((World.laidAll Tryd.prog os Rows.shapeBackUptoRow.laid).forCall (fun _ _ => 0) ⟨#[], #[.agg #[.int .i64 0, .int .i64 0, .int .i64 0, .int .i64 0, .int .i64 0, .int .i64 0, .int .i64 0, .int .i64 0, .int .i64 0, .int .i64 0, .slice none 0 0], .string ⟨#[]⟩], []⟩).memory :=
  laidMet_laidAll _ (by kernel_rfl) (by kernel_rfl)
theorem shapeBack_reads (os : Os) {H : Type} (enc : TypeId × Value → H) : ∃ places, DataW.whole enc Tryd.prog ((World.laidAll Tryd.prog os Rows.shapeBackUptoRow.laid).forCall (fun _ _ => 0) ⟨#[], #[.agg #[.int .i64 0, .int .i64 0, .int .i64 0, .int .i64 0, .int .i64 0, .int .i64 0, .int .i64 0, .int .i64 0, .int .i64 0, .int .i64 0, .slice none 0 0], .string ⟨#[]⟩], []⟩).memory Tryd.f5.params.toList Rows.shapeBackSpec.vars false (#[.agg #[.int .i64 0, .int .i64 0, .int .i64 0, .int .i64 0, .int .i64 0, .int .i64 0, .int .i64 0, .int .i64 0, .int .i64 0, .int .i64 0, .slice none 0 0], .string ⟨#[]⟩] : Array Value).toList 8 = some ([.agg [.lit (.int .i64 0), .lit (.int .i64 0), .lit (.int .i64 0), .lit (.int .i64 0), .lit (.int .i64 0), .lit (.int .i64 0), .lit (.int .i64 0), .lit (.int .i64 0), .lit (.int .i64 0), .lit (.int .i64 0), .nil], .lit (.string [])], [], places) :=
  ⟨[], by kernel_rfl⟩

theorem err_star : "*" ++ "errors.errorString" = "*errors.errorString" := by decide
theorem err_row (u : TypeId) (h : Tryd.prog.typeName? 3 u = some "*errors.errorString") : u = 207 :=
  typeName_ptr_named (nm := "errors.errorString") (by rw [err_star]; kernel_rfl) (by kernel_rfl) (by decide) u (by rw [err_star]; exact h)
theorem shapeBack_err {W : World} (h : laidMetH Tryd.prog Rows.shapeBackUptoRow.laid W) : ErrT W := by
  have h' : laidMet Tryd.prog Rows.shapeBackUptoRow.laid W := h
  have h4 := h'.tail.tail.tail.tail
  obtain ⟨a1, s1, hv1, _⟩ := laid_sentinel h4 (g := 8) (ti := 29) (tp := 207) (te := 209) (ts := 9) (by kernel_rfl) (by kernel_rfl) Tryd.underlying29 err_row Tryd.underlying207 Tryd.underlying209 rfl rfl Tryd.underlying9 (by kernel_rfl) (by kernel_rfl)
  obtain ⟨a2, s2, hv2, _⟩ := laid_sentinel h4.tail (g := 7) (ti := 29) (tp := 207) (te := 209) (ts := 9) (by kernel_rfl) (by kernel_rfl) Tryd.underlying29 err_row Tryd.underlying207 Tryd.underlying209 rfl rfl Tryd.underlying9 (by kernel_rfl) (by kernel_rfl)
  have c1 : W.cell? ⟨8, 0, none⟩ = some (.iface 207 (.pointer (some a1))) := by simpa using World.var?_cell (show Tryd.prog.globalNamed "strconv.ErrRange" = some 8 by kernel_rfl) hv1 0
  have c2 : W.cell? ⟨7, 0, none⟩ = some (.iface 207 (.pointer (some a2))) := by simpa using World.var?_cell (show Tryd.prog.globalNamed "strconv.ErrSyntax" = some 7 by kernel_rfl) hv2 0
  exact ⟨⟨World.block_lt_of_cell? _ _ c2, _, c2, .inr ⟨_, _, rfl⟩⟩, ⟨World.block_lt_of_cell? _ _ c1, _, c1, .inr ⟨_, _, rfl⟩⟩⟩
theorem shapeBack_ml {W : World} (h : W.ShapedOpen Tryd.prog) : MLT W := by
  obtain ⟨m, hm⟩ := cell_of_shapedOpen_int (g := 2) (t := 3) (zero := #[.int .i64 0]) (k := .i64) h (by decide +kernel) (by kernel_rfl) rfl (by kernel_rfl) (by kernel_rfl) Tryd.underlying3
  exact ⟨World.block_lt_of_cell? _ _ hm, m, hm⟩

set_option maxRecDepth 100000 in
theorem shapeBack_lifted (os : Os) (started : os.Started) (H : Type) (enc : TypeId × Value → H) (F : Stop.Interp) :
    ReturnsInHanded {} Tryd.checked os 5 .any ((Rows.OpenSpec.upto Rows.shapeBackSpec).preRow enc Tryd.prog Tryd.f5 Rows.shapeBackUptoRow.domain false Rows.shapeBackUptoRow.laid) (((Rows.OpenSpec.upto Rows.shapeBackSpec).at F).post enc Tryd.prog Tryd.f5 false true false false) := by
  obtain ⟨places, hx⟩ := shapeBack_reads os enc
  refine returnsInHanded_of_row (C := Tryd.checked) (s := Rows.OpenSpec.upto Rows.shapeBackSpec) own_knob started (by kernel_rfl) Tryd.func5
    (witness_row_at (enc := enc) (C := Tryd.checked) false (World.laidAll Tryd.prog os Rows.shapeBackUptoRow.laid) #[.agg #[.int .i64 0, .int .i64 0, .int .i64 0, .int .i64 0, .int .i64 0, .int .i64 0, .int .i64 0, .int .i64 0, .int .i64 0, .int .i64 0, .slice none 0 0], .string ⟨#[]⟩] (World.laidAll_os _ _ _) (by kernel_rfl) (by kernel_rfl) (by kernel_rfl)
      (OpenSpec.preRow_of_cond 8 hx (by kernel_rfl) (fun k hk => by cases hk; kernel_rfl) (by kernel_rfl) (shapeBack_met os))) ?_
  intro W base args ds gs before hval0 hW _ hcond _ hL hSh _
  have hk := hcond _ rfl
  have hval : ∀ (j : Nat) t v, Tryd.f5.params[j]? = some t → args[j]? = some v → Value.okWide Tryd.prog W .any base t v := hval0
  have hW' := hW
  obtain ⟨p, q, hA0, hV, rfl, hfz, hnd⟩ := hW
  have hA : DataW.TrodAll enc Tryd.prog W 0 (fun _ => true) true Tryd.f5.params.toList args.toList ds p := hA0
  obtain ⟨rfl, rfl⟩ := trodVars_none hV
  rw [Tryd.params5] at hA hval
  simp only at hA
  obtain ⟨v0, vs0, d0, ds0, p0, q0, hargs0, rfl, rfl, h0, r0⟩ := trodAll_cons hA
  obtain ⟨v1, vs1, d1, ds1, p1, q1, hargs1, rfl, rfl, h1, r1⟩ := trodAll_cons r0
  obtain ⟨rfl, rfl, rfl⟩ := trodAll_nil r1
  subst hargs1
  obtain rfl : args = #[v0, v1] := by cases args; simp_all
  clear hA0 hval0
  have hblk : Rows.uptoBulkAll ([d0, d1] ++ []) ≤ 1048576 := of_decide_eq_true hk
  simp only [Rows.uptoBulkAll, List.append_nil] at hblk
  obtain ⟨c, rfl, hcf⟩ := open_cfg (hval 0 45 v0 rfl rfl) h0
  obtain ⟨s, rfl, rfl, rfl, ws⟩ := ChangeMaps.open_string Tryd.underlying9 (hval 1 9 v1 rfl rfl) h1
  have hsz : s.size ≤ 1048576 := by
    simp only [Rows.uptoBulk] at hblk
    have e : s.data.toList.length = s.size := by rw [Array.length_toList]; rfl
    omega
  have hME := shapeBack_err hL
  have hML := shapeBack_ml hSh
  have hT := shapeBack_tab hL
  refine (LawShp_any c s W hcf hsz hT hME hML).mono fun e W' ⟨he, hb⟩ => ?_
  subst he
  exact ⟨_, rfl, law_post laid_out (by kernel_rfl) (by kernel_rfl) Tryd.underlying4 rfl hW' rfl hb⟩

theorem shapeBack_said : Rows.ShapeBackUptoSaid :=
  OpenClaim.holds_of_cond 5 Tryd.f5 rfl rfl rfl rfl rfl rfl rfl ⟨rfl, rfl, rfl, rfl, rfl⟩ rfl rfl rfl rfl rfl (by kernel_rfl) Tryd.func5 (by kernel_rfl)
    (of_decide_eq_true (by kernel_rfl)) (by unfold Func.isWrapper; first | (rw [if_pos (by decide +kernel)]; kernel_rfl) | (rw [if_neg (by decide +kernel)]; exact ⟨rfl, rfl⟩))
    (fun os started H enc _ F => by rw [OpenClaim.pre_eq_preRow]; exact shapeBack_lifted os started H enc F)

theorem shapeBack_plain (f : FuncId) (fn : Func) (hf : Tryd.pinned.checked.prog.funcNamed "stopgate/stopgatelaw40.ShapeBack" = some f) (hfn : Tryd.pinned.checked.prog.funcs[f]? = some fn) :
    true = Tryd.pinned.checked.prog.looks [] ∧ ∀ (j : Nat) t, fn.params[j]? = some t → Tryd.pinned.checked.prog.wantsStandIn t = false := by
  obtain rfl : f = 5 := Option.some.inj ((show Tryd.prog.funcNamed "stopgate/stopgatelaw40.ShapeBack" = some 5 by kernel_rfl).symm.trans hf) |>.symm
  obtain rfl : fn = Tryd.f5 := (Option.some.inj (Tryd.func5.symm.trans hfn)).symm
  refine ⟨by kernel_rfl, fun j t ht => ?_⟩
  rw [Tryd.params5] at ht
  have hm : t ∈ [45, 9] := by simpa using Array.mem_of_getElem? ht
  have hall : ([45, 9].all fun u => !Tryd.prog.wantsStandIn u) = true := by kernel_rfl
  exact (show Tryd.prog.wantsStandIn t = false by simpa using List.all_eq_true.1 hall t hm)

theorem shapeBack_holds : Rows.ShapeBackUptoCardSaid :=
  Claim7.holds_tied_plain_at .later [] _ _ _ _ shapeBack_said (fun _ h => by cases h) (by kernel_rfl) (fun _ h => by cases h) shapeBackUpto_row_tie rfl ⟨rfl, rfl⟩ (by kernel_rfl) rfl shapeBack_plain (by kernel_rfl)

end Go.Proofs.YtknlhkkpheahlaaDoor

/- Any thread, any note, any turn, as a line: the statement ViewLines, its second form: for every input of bulk at most 1048576 the call returns true, and what came in reads as before. Conditions: what came in is of bulk at most 1048576; what the row lists: the library's tables, tied to the program's text. -/
import Derived.Test.YtalkllfgedacoaaGreatDoorCards
import Derived.Test.YtalkllfgedacoaaGreatDoorTie
import Derived.Test.YtalkllfgedacoaaGreatDoorM23
import Derived.Shelf.Vars
import Derived.ChangeMaps5
import Derived.Lay
import Derived.Deep.DeepHandedRow
import Derived.LaidMore
import Derived.Stop.LaidErr
namespace Go.Proofs.YtalkllfgedacoaaGreatDoor
open Go.ChangeShapes Go.WideShapes Go.ChangeAt Go.RowKit Go.Deep

theorem viewLines_tab {W : World} (h : laidMetH Tryz.prog Rows.viewLinesUptoRow.laid W) : TabT W := by
  have h' : laidMet Tryz.prog Rows.viewLinesUptoRow.laid W := h
  exact Lib.tabIs_of_head (rest := _) (show Tryz.prog.globalNamed "internal/strconv.uint64pow10" = some 2 by kernel_rfl) (show (Tryz.prog.globals[2]?).map (·.type) = some 234 by kernel_rfl) Tryz.underlying234 Tryz.underlying28 (by kernel_rfl) (by kernel_rfl) h'.tail.tail

theorem viewLines_tab64 {W : World} (h : laidMetH Tryz.prog Rows.viewLinesUptoRow.laid W) : Tab64 W := by
  have h' : laidMet Tryz.prog Rows.viewLinesUptoRow.laid W := h
  exact Lib.tabIs_of_head (rest := _) (show Tryz.prog.globalNamed "math/bits.deBruijn64tab" = some 8 by kernel_rfl) (show (Tryz.prog.globals[8]?).map (·.type) = some 255 by kernel_rfl) Tryz.underlying255 Tryz.underlying5 (by kernel_rfl) (by kernel_rfl) h'.tail

def taskZ : Value := .agg (#[.int .i64 0, .int .i64 0, .int .i64 0, .int .i64 0, .int .i64 0, .bool false, .slice none 0 0, .bool false, .int .i64 0, .int .i64 0, .int .i64 0, .int .i64 0] ++ #[.int .i64 0, .bool false, .int .i64 0, .int .i64 0, .slice none 0 0, .slice none 0 0, .int .u64 0, .slice none 0 0, .slice none 0 0, .slice none 0 0, .int .i64 0, .int .i64 0] ++ #[.slice none 0 0, .slice none 0 0, .int .i64 0, .int .i64 0, .int .i64 0, .int .i64 0, .int .i64 0, .bool false, .bool false, .bool false])
def noteZ : Value := .agg (#[.int .i64 0, .int .i64 0, .int .i64 0, .int .i64 0, .int .i64 0, .int .i64 0, .int .i64 0, .bool false, .slice none 0 0, .int .i64 0, .int .i64 0, .int .i64 0] ++ #[.int .i64 0])
def turnZ : Value := .agg (#[.int .i64 0, .int .i64 0, .slice none 0 0])
theorem viewLines_met (os : Os) : laidMet Tryz.prog Rows.viewLinesUptoRow.laid ((World.laidAll Tryz.prog os Rows.viewLinesUptoRow.laid).forCall (fun _ _ => 0) ⟨#[], #[taskZ, noteZ, turnZ], []⟩).memory :=
  laidMet_laidAll _ (by kernel_rfl) (by kernel_rfl)
theorem viewLines_reads (os : Os) {H : Type} (enc : TypeId × Value → H) : ∃ places, DataW.whole enc Tryz.prog ((World.laidAll Tryz.prog os Rows.viewLinesUptoRow.laid).forCall (fun _ _ => 0) ⟨#[], #[taskZ, noteZ, turnZ], []⟩).memory Tryz.f3.params.toList Rows.viewLinesSpec.vars false (#[taskZ, noteZ, turnZ] : Array Value).toList 8 = some ([.agg [.lit (.int .i64 0), .lit (.int .i64 0), .agg [.lit (.int .i64 0), .lit (.int .i64 0), .lit (.int .i64 0), .lit (.bool false), .nil], .lit (.bool false), .lit (.int .i64 0), .lit (.int .i64 0), .lit (.int .i64 0), .lit (.int .i64 0), .lit (.int .i64 0), .lit (.bool false), .agg [.lit (.int .i64 0), .lit (.int .i64 0)], .nil, .nil, .lit (.int .u64 0), .nil, .nil, .nil, .agg [.agg [.lit (.int .i64 0), .lit (.int .i64 0)], .nil, .nil, .lit (.int .i64 0)], .agg [.lit (.int .i64 0), .lit (.int .i64 0), .lit (.int .i64 0), .lit (.int .i64 0)], .lit (.bool false), .lit (.bool false), .lit (.bool false)], .agg [.lit (.int .i64 0), .lit (.int .i64 0), .lit (.int .i64 0), .lit (.int .i64 0), .agg [.lit (.int .i64 0), .lit (.int .i64 0), .lit (.int .i64 0), .lit (.bool false), .nil], .agg [.lit (.int .i64 0), .lit (.int .i64 0), .lit (.int .i64 0), .lit (.int .i64 0)]], .agg [.lit (.int .i64 0), .lit (.int .i64 0), .nil]], [], places) :=
  ⟨[], by kernel_rfl⟩

theorem err_star : "*" ++ "errors.errorString" = "*errors.errorString" := by decide
theorem err_row (u : TypeId) (h : Tryz.prog.typeName? 3 u = some "*errors.errorString") : u = 256 :=
  typeName_ptr_named (nm := "errors.errorString") (by rw [err_star]; kernel_rfl) (by kernel_rfl) (by decide) u (by rw [err_star]; exact h)
theorem viewLines_err {W : World} (h : laidMetH Tryz.prog Rows.viewLinesUptoRow.laid W) : ErrT W := by
  have h' : laidMet Tryz.prog Rows.viewLinesUptoRow.laid W := h
  have h4 := h'.tail.tail.tail.tail
  obtain ⟨a1, s1, hv1, _⟩ := laid_sentinel h4 (g := 6) (ti := 63) (tp := 256) (te := 258) (ts := 9) (by kernel_rfl) (by kernel_rfl) Tryz.underlying63 err_row Tryz.underlying256 Tryz.underlying258 rfl rfl Tryz.underlying9 (by kernel_rfl) (by kernel_rfl)
  obtain ⟨a2, s2, hv2, _⟩ := laid_sentinel h4.tail (g := 5) (ti := 63) (tp := 256) (te := 258) (ts := 9) (by kernel_rfl) (by kernel_rfl) Tryz.underlying63 err_row Tryz.underlying256 Tryz.underlying258 rfl rfl Tryz.underlying9 (by kernel_rfl) (by kernel_rfl)
  have c1 : W.cell? ⟨6, 0, none⟩ = some (.iface 256 (.pointer (some a1))) := by simpa using World.var?_cell (show Tryz.prog.globalNamed "strconv.ErrRange" = some 6 by kernel_rfl) hv1 0
  have c2 : W.cell? ⟨5, 0, none⟩ = some (.iface 256 (.pointer (some a2))) := by simpa using World.var?_cell (show Tryz.prog.globalNamed "strconv.ErrSyntax" = some 5 by kernel_rfl) hv2 0
  exact ⟨⟨World.block_lt_of_cell? _ _ c2, _, c2, .inr ⟨_, _, rfl⟩⟩, ⟨World.block_lt_of_cell? _ _ c1, _, c1, .inr ⟨_, _, rfl⟩⟩⟩
theorem viewLines_ml {W : World} (h : W.ShapedOpen Tryz.prog) : MLT W := by
  obtain ⟨m, hm⟩ := cell_of_shapedOpen_int (g := 1) (t := 3) (zero := #[.int .i64 0]) (k := .i64) h (by decide +kernel) (by kernel_rfl) rfl (by kernel_rfl) (by kernel_rfl) Tryz.underlying3
  exact ⟨World.block_lt_of_cell? _ _ hm, m, hm⟩

set_option maxRecDepth 100000 in
theorem viewLines_lifted (os : Os) (started : os.Started) (H : Type) (enc : TypeId × Value → H) (F : Stop.Interp) :
    ReturnsInHanded {} Tryz.checked os 3 .any ((Rows.OpenSpec.upto Rows.viewLinesSpec).preRow enc Tryz.prog Tryz.f3 Rows.viewLinesUptoRow.domain false Rows.viewLinesUptoRow.laid) (((Rows.OpenSpec.upto Rows.viewLinesSpec).at F).post enc Tryz.prog Tryz.f3 false true false false) := by
  obtain ⟨places, hx⟩ := viewLines_reads os enc
  refine returnsInHanded_of_row (C := Tryz.checked) (s := Rows.OpenSpec.upto Rows.viewLinesSpec) own_knob started (by kernel_rfl) Tryz.func3
    (witness_row_at (enc := enc) (C := Tryz.checked) false (World.laidAll Tryz.prog os Rows.viewLinesUptoRow.laid) #[taskZ, noteZ, turnZ] (World.laidAll_os _ _ _) (by kernel_rfl) (by kernel_rfl) (by kernel_rfl)
      (OpenSpec.preRow_of_cond 8 hx (by kernel_rfl) (fun k hk => by cases hk; kernel_rfl) (by kernel_rfl) (viewLines_met os))) ?_
  intro W base args ds gs before hval0 hW _ hcond _ hL hSh _
  have hk := hcond _ rfl
  have hval : ∀ (j : Nat) t v, Tryz.f3.params[j]? = some t → args[j]? = some v → Value.okWide Tryz.prog W .any base t v := hval0
  have hW' := hW
  obtain ⟨p, q, hA0, hV, rfl, hfz, hnd⟩ := hW
  have hA : DataW.TrodAll enc Tryz.prog W 0 (fun _ => true) true Tryz.f3.params.toList args.toList ds p := hA0
  obtain ⟨rfl, rfl⟩ := trodVars_none hV
  rw [Tryz.params3] at hA hval
  simp only at hA
  obtain ⟨v0, vs0, d0, ds0, p0, q0, hargs0, rfl, rfl, h0, r0⟩ := trodAll_cons hA
  obtain ⟨v1, vs1, d1, ds1, p1, q1, hargs1, rfl, rfl, h1, r1⟩ := trodAll_cons r0
  obtain ⟨v2, vs2, d2, ds2, p2, q2, hargs2, rfl, rfl, h2, r2⟩ := trodAll_cons r1
  obtain ⟨rfl, rfl, rfl⟩ := trodAll_nil r2
  subst hargs2
  subst hargs1
  obtain rfl : args = #[v0, v1, v2] := by cases args; simp_all
  clear hA0 hval0
  have hblk : Rows.uptoBulkAll ([d0, d1, d2] ++ []) ≤ 1048576 := of_decide_eq_true hk
  simp only [Rows.uptoBulkAll, List.append_nil] at hblk
  obtain ⟨k, cs, rfl, k1, k2, kn, kc, kr⟩ := task_arg (hval 0 38 v0 rfl rfl) h0 (by omega)
  obtain ⟨n, cs2, rfl, n1, n2, n3, n4, n5, n6, nn, nc, nr⟩ := note_arg (hval 1 40 v1 rfl rfl) h1 (by omega)
  obtain ⟨x, l, rfl, x1, x2, xl, xm, xo, xr⟩ := turn_arg (hval 2 42 v2 rfl rfl) h2 (by omega)
  have hME := viewLines_err hL
  have hML := viewLines_ml hSh
  have hT := viewLines_tab hL
  have hT64 := viewLines_tab64 hL
  refine (LawVl_any k cs n cs2 x l W k1 k2 kn kc n1 n2 n3 n4 n5 n6 nn nc x1 x2 xl xm xo ⟨⟨kr, hME, hT, hML⟩, ⟨nr, hME, hT, hML⟩, xr, hT64.tz⟩).mono fun e W' ⟨he, hb⟩ => ?_
  subst he
  exact ⟨_, rfl, law_post laid_out (by kernel_rfl) (by kernel_rfl) Tryz.underlying4 rfl hW' rfl hb⟩

theorem viewLines_said : Rows.ViewLinesUptoSaid :=
  OpenClaim.holds_of_cond 3 Tryz.f3 rfl rfl rfl rfl rfl rfl rfl ⟨rfl, rfl, rfl, rfl, rfl⟩ rfl rfl rfl rfl rfl (by kernel_rfl) Tryz.func3 (by kernel_rfl)
    (of_decide_eq_true (by kernel_rfl)) (by unfold Func.isWrapper; first | (rw [if_pos (by decide +kernel)]; kernel_rfl) | (rw [if_neg (by decide +kernel)]; exact ⟨rfl, rfl⟩))
    (fun os started H enc _ F => by rw [OpenClaim.pre_eq_preRow]; exact viewLines_lifted os started H enc F)

theorem viewLines_plain (f : FuncId) (fn : Func) (hf : Tryz.pinned.checked.prog.funcNamed "stopgate/stopgatelaw25.ViewLines" = some f) (hfn : Tryz.pinned.checked.prog.funcs[f]? = some fn) :
    true = Tryz.pinned.checked.prog.looks [] ∧ ∀ (j : Nat) t, fn.params[j]? = some t → Tryz.pinned.checked.prog.wantsStandIn t = false := by
  obtain rfl : f = 3 := Option.some.inj ((show Tryz.prog.funcNamed "stopgate/stopgatelaw25.ViewLines" = some 3 by kernel_rfl).symm.trans hf) |>.symm
  obtain rfl : fn = Tryz.f3 := (Option.some.inj (Tryz.func3.symm.trans hfn)).symm
  refine ⟨by kernel_rfl, fun j t ht => ?_⟩
  rw [Tryz.params3] at ht
  have hm : t ∈ [38, 40, 42] := by simpa using Array.mem_of_getElem? ht
  have hall : ([38, 40, 42].all fun u => !Tryz.prog.wantsStandIn u) = true := by kernel_rfl
  exact (show Tryz.prog.wantsStandIn t = false by simpa using List.all_eq_true.1 hall t hm)

theorem viewLines_holds : Rows.ViewLinesUptoCardSaid :=
  Claim7.holds_tied_plain_at .later [] _ _ _ _ viewLines_said (fun _ h => by cases h) (by kernel_rfl) (fun _ h => by cases h) viewLinesUpto_row_tie rfl ⟨rfl, rfl⟩ (by kernel_rfl) rfl viewLines_plain (by kernel_rfl)

end Go.Proofs.YtalkllfgedacoaaGreatDoor

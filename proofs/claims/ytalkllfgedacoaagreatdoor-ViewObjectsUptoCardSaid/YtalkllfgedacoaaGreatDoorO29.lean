/- Any hall, any cells, line by line: the statement ViewObjects, its second form: for every input of bulk at most 1048576 the call returns true, and what came in reads as before. Conditions: what came in is of bulk at most 1048576; what the row lists: the library's tables, tied to the program's text. -/
import Derived.Test.YtalkllfgedacoaaGreatDoorCards
import Derived.Test.YtalkllfgedacoaaGreatDoorTie
import Derived.Test.YtalkllfgedacoaaGreatDoorO25
import Derived.Test.YtalkllfgedacoaaGreatDoorO28
import Derived.Shelf.Vars
import Derived.ChangeMaps5
import Derived.Lay
import Derived.Deep.DeepHandedRow
import Derived.LaidMore
import Derived.Stop.LaidErr
namespace Go.Proofs.YtalkllfgedacoaaGreatDoor
open Go.ChangeShapes Go.WideShapes Go.ChangeAt Go.RowKit Go.Deep

theorem viewObjects_tab {W : World} (h : laidMetH Tryz.prog Rows.viewObjectsUptoRow.laid W) : TabT W := by
  have h' : laidMet Tryz.prog Rows.viewObjectsUptoRow.laid W := h
  exact Lib.tabIs_of_head (rest := _) (show Tryz.prog.globalNamed "internal/strconv.uint64pow10" = some 2 by kernel_rfl) (show (Tryz.prog.globals[2]?).map (·.type) = some 234 by kernel_rfl) Tryz.underlying234 Tryz.underlying28 (by kernel_rfl) (by kernel_rfl) h'.tail.tail

theorem viewObjects_tab64 {W : World} (h : laidMetH Tryz.prog Rows.viewObjectsUptoRow.laid W) : Tab64 W := by
  have h' : laidMet Tryz.prog Rows.viewObjectsUptoRow.laid W := h
  exact Lib.tabIs_of_head (rest := _) (show Tryz.prog.globalNamed "math/bits.deBruijn64tab" = some 8 by kernel_rfl) (show (Tryz.prog.globals[8]?).map (·.type) = some 255 by kernel_rfl) Tryz.underlying255 Tryz.underlying5 (by kernel_rfl) (by kernel_rfl) h'.tail

def hallZ : Value := .agg #[.int .i64 0, .slice none 0 0, .slice none 0 0, .slice none 0 0]
def cellZ : Value := .agg #[.int .i64 0, .slice none 0 0, .slice none 0 0]
theorem viewObjects_met (os : Os) : laidMet Tryz.prog Rows.viewObjectsUptoRow.laid ((World.laidAll Tryz.prog os Rows.viewObjectsUptoRow.laid).forCall (fun _ _ => 0) ⟨#[], #[hallZ, cellZ], []⟩).memory :=
  laidMet_laidAll _ (by kernel_rfl) (by kernel_rfl)
theorem viewObjects_reads (os : Os) {H : Type} (enc : TypeId × Value → H) : ∃ places, DataW.whole enc Tryz.prog ((World.laidAll Tryz.prog os Rows.viewObjectsUptoRow.laid).forCall (fun _ _ => 0) ⟨#[], #[hallZ, cellZ], []⟩).memory Tryz.f4.params.toList Rows.viewObjectsSpec.vars false (#[hallZ, cellZ] : Array Value).toList 8 = some ([.agg [.lit (.int .i64 0), .nil, .nil, .nil], .agg [.lit (.int .i64 0), .nil, .nil]], [], places) :=
  ⟨[], by kernel_rfl⟩

theorem err_star : "*" ++ "errors.errorString" = "*errors.errorString" := by decide
theorem err_row (u : TypeId) (h : Tryz.prog.typeName? 3 u = some "*errors.errorString") : u = 256 :=
  typeName_ptr_named (nm := "errors.errorString") (by rw [err_star]; kernel_rfl) (by kernel_rfl) (by decide) u (by rw [err_star]; exact h)
theorem viewObjects_err {W : World} (h : laidMetH Tryz.prog Rows.viewObjectsUptoRow.laid W) : ErrT W := by
  have h' : laidMet Tryz.prog Rows.viewObjectsUptoRow.laid W := h
  have h4 := h'.tail.tail.tail.tail
  obtain ⟨a1, s1, hv1, _⟩ := laid_sentinel h4 (g := 6) (ti := 63) (tp := 256) (te := 258) (ts := 9) (by kernel_rfl) (by kernel_rfl) Tryz.underlying63 err_row Tryz.underlying256 Tryz.underlying258 rfl rfl Tryz.underlying9 (by kernel_rfl) (by kernel_rfl)
  obtain ⟨a2, s2, hv2, _⟩ := laid_sentinel h4.tail (g := 5) (ti := 63) (tp := 256) (te := 258) (ts := 9) (by kernel_rfl) (by kernel_rfl) Tryz.underlying63 err_row Tryz.underlying256 Tryz.underlying258 rfl rfl Tryz.underlying9 (by kernel_rfl) (by kernel_rfl)
  have c1 : W.cell? ⟨6, 0, none⟩ = some (.iface 256 (.pointer (some a1))) := by simpa using World.var?_cell (show Tryz.prog.globalNamed "strconv.ErrRange" = some 6 by kernel_rfl) hv1 0
  have c2 : W.cell? ⟨5, 0, none⟩ = some (.iface 256 (.pointer (some a2))) := by simpa using World.var?_cell (show Tryz.prog.globalNamed "strconv.ErrSyntax" = some 5 by kernel_rfl) hv2 0
  exact ⟨⟨World.block_lt_of_cell? _ _ c2, _, c2, .inr ⟨_, _, rfl⟩⟩, ⟨World.block_lt_of_cell? _ _ c1, _, c1, .inr ⟨_, _, rfl⟩⟩⟩
theorem viewObjects_ml {W : World} (h : W.ShapedOpen Tryz.prog) : MLT W := by
  obtain ⟨m, hm⟩ := cell_of_shapedOpen_int (g := 1) (t := 3) (zero := #[.int .i64 0]) (k := .i64) h (by decide +kernel) (by kernel_rfl) rfl (by kernel_rfl) (by kernel_rfl) Tryz.underlying3
  exact ⟨World.block_lt_of_cell? _ _ hm, m, hm⟩

set_option maxRecDepth 100000 in
theorem viewObjects_lifted (os : Os) (started : os.Started) (H : Type) (enc : TypeId × Value → H) (F : Stop.Interp) :
    ReturnsInHanded {} Tryz.checked os 4 .any ((Rows.OpenSpec.upto Rows.viewObjectsSpec).preRow enc Tryz.prog Tryz.f4 Rows.viewObjectsUptoRow.domain false Rows.viewObjectsUptoRow.laid) (((Rows.OpenSpec.upto Rows.viewObjectsSpec).at F).post enc Tryz.prog Tryz.f4 false true false false) := by
  obtain ⟨places, hx⟩ := viewObjects_reads os enc
  refine returnsInHanded_of_row (C := Tryz.checked) (s := Rows.OpenSpec.upto Rows.viewObjectsSpec) own_knob started (by kernel_rfl) Tryz.func4
    (witness_row_at (enc := enc) (C := Tryz.checked) false (World.laidAll Tryz.prog os Rows.viewObjectsUptoRow.laid) #[hallZ, cellZ] (World.laidAll_os _ _ _) (by kernel_rfl) (by kernel_rfl) (by kernel_rfl)
      (OpenSpec.preRow_of_cond 8 hx (by kernel_rfl) (fun k hk => by cases hk; kernel_rfl) (by kernel_rfl) (viewObjects_met os))) ?_
  intro W base args ds gs before hval0 hW _ hcond _ hL hSh _
  have hk := hcond _ rfl
  have hval : ∀ (j : Nat) t v, Tryz.f4.params[j]? = some t → args[j]? = some v → Value.okWide Tryz.prog W .any base t v := hval0
  have hW' := hW
  obtain ⟨p, q, hA0, hV, rfl, hfz, hnd⟩ := hW
  have hA : DataW.TrodAll enc Tryz.prog W 0 (fun _ => true) true Tryz.f4.params.toList args.toList ds p := hA0
  obtain ⟨rfl, rfl⟩ := trodVars_none hV
  rw [Tryz.params4] at hA hval
  simp only at hA
  obtain ⟨v0, vs0, d0, ds0, p0, q0, hargs0, rfl, rfl, h0, r0⟩ := trodAll_cons hA
  obtain ⟨v1, vs1, d1, ds1, p1, q1, hargs1, rfl, rfl, h1, r1⟩ := trodAll_cons r0
  obtain ⟨rfl, rfl, rfl⟩ := trodAll_nil r1
  subst hargs1
  obtain rfl : args = #[v0, v1] := by cases args; simp_all
  clear hA0 hval0
  have hblk : Rows.uptoBulkAll ([d0, d1] ++ []) ≤ 1048576 := of_decide_eq_true hk
  simp only [Rows.uptoBulkAll, List.append_nil] at hblk
  obtain ⟨t, A, ac, chans, B, bc, waits, D, dc, dl, rfl, k0, k1, k2, k3, k4, k5, k6, k7, k8, k9⟩ := hall_arg (hval 0 52 v0 rfl rfl) h0 (by omega)
  obtain ⟨t2, A2, ac2, ll, D2, dc2, dl2, rfl, n0, n1, n2, n3, n4, n5, n6⟩ := cells_arg (hval 1 55 v1 rfl rfl) h1 (by omega)
  have hME := viewObjects_err hL
  have hML := viewObjects_ml hSh
  have hT := viewObjects_tab hL
  have hT64 := viewObjects_tab64 hL
  refine (LawVo_any t A chans.length ac chans B waits.length bc waits D dl.length dc dl t2 A2 ll.length ac2 ll D2 dl2.length dc2 dl2 W k0 rfl k1 (fun x hx => (k2 x hx).1) k3 rfl k4 (fun x hx => (k5 x hx).1) k6 rfl k7 k8 k9 n0 rfl n1 n2 n3 rfl n4 n5 n6 ⟨hT, hME, hML, fun x hx => (k2 x hx).2, fun x hx => (k5 x hx).2⟩ hT64.tz).mono fun e W' ⟨he, hb⟩ => ?_
  subst he
  exact ⟨_, rfl, law_post laid_out (by kernel_rfl) (by kernel_rfl) Tryz.underlying4 rfl hW' rfl hb⟩

theorem viewObjects_said : Rows.ViewObjectsUptoSaid :=
  OpenClaim.holds_of_cond 4 Tryz.f4 rfl rfl rfl rfl rfl rfl rfl ⟨rfl, rfl, rfl, rfl, rfl⟩ rfl rfl rfl rfl rfl (by kernel_rfl) Tryz.func4 (by kernel_rfl)
    (of_decide_eq_true (by kernel_rfl)) (by unfold Func.isWrapper; first | (rw [if_pos (by decide +kernel)]; kernel_rfl) | (rw [if_neg (by decide +kernel)]; exact ⟨rfl, rfl⟩))
    (fun os started H enc _ F => by rw [OpenClaim.pre_eq_preRow]; exact viewObjects_lifted os started H enc F)

theorem viewObjects_plain (f : FuncId) (fn : Func) (hf : Tryz.pinned.checked.prog.funcNamed "stopgate/stopgatelaw25.ViewObjects" = some f) (hfn : Tryz.pinned.checked.prog.funcs[f]? = some fn) :
    true = Tryz.pinned.checked.prog.looks [] ∧ ∀ (j : Nat) t, fn.params[j]? = some t → Tryz.pinned.checked.prog.wantsStandIn t = false := by
  obtain rfl : f = 4 := Option.some.inj ((show Tryz.prog.funcNamed "stopgate/stopgatelaw25.ViewObjects" = some 4 by kernel_rfl).symm.trans hf) |>.symm
  obtain rfl : fn = Tryz.f4 := (Option.some.inj (Tryz.func4.symm.trans hfn)).symm
  refine ⟨by kernel_rfl, fun j t ht => ?_⟩
  rw [Tryz.params4] at ht
  have hm : t ∈ [52, 55] := by simpa using Array.mem_of_getElem? ht
  have hall : ([52, 55].all fun u => !Tryz.prog.wantsStandIn u) = true := by kernel_rfl
  exact (show Tryz.prog.wantsStandIn t = false by simpa using List.all_eq_true.1 hall t hm)

theorem viewObjects_holds : Rows.ViewObjectsUptoCardSaid :=
  Claim7.holds_tied_plain_at .later [] _ _ _ _ viewObjects_said (fun _ h => by cases h) (by kernel_rfl) (fun _ h => by cases h) viewObjectsUpto_row_tie rfl ⟨rfl, rfl⟩ (by kernel_rfl) rfl viewObjects_plain (by kernel_rfl)

end Go.Proofs.YtalkllfgedacoaaGreatDoor

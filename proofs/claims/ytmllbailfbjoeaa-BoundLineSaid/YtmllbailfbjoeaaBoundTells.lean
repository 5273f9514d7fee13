/- The two laws of the bounds, as they are claimed: whatever shape, whatever number of threads. -/
import Derived.Test.YtmllbailfbjoeaaClose
import Derived.Test.YtmllbailfbjoeaaBoundLine
namespace Go.Proofs.Ytmllbailfbjoeaa
open Go.ChangeShapes Go.WideShapes Go.ChangeAt Go.RowKit Go.Deep

theorem cfg_cells : Try.prog.cellsOf 24 = 11 := by kernel_rfl
theorem int_cells : Try.prog.cellsOf 3 = 1 := by kernel_rfl

set_option maxRecDepth 100000 in
theorem open_cfg {H : Type} {enc : TypeId × Value → H} {r : Reach} {b0 : Nat} {w : World} {base : Nat} {held : Bool} {v : Value} {d : DataW H} {p : List MemPlace}
    (hv : Value.okWide Try.prog w r b0 24 v) (h : DataW.Trod enc Try.prog w base (fun _ => true) held 24 v d p) : ∃ c : Cfg, v = cfgV c ∧ CfgIn w c := by
  obtain ⟨vs, rfl, hlen, hf⟩ := open_struct Try.underlying24 (by kernel_rfl) (by kernel_rfl) hv h
  obtain ⟨x0, y0, n0, e0, t0⟩ := hf 0 _ rfl
  obtain ⟨x1, y1, n1, e1, t1⟩ := hf 1 _ rfl
  obtain ⟨x2, y2, n2, e2, t2⟩ := hf 2 _ rfl
  obtain ⟨x3, y3, n3, e3, t3⟩ := hf 3 _ rfl
  obtain ⟨x4, y4, n4, e4, t4⟩ := hf 4 _ rfl
  obtain ⟨x5, y5, n5, e5, t5⟩ := hf 5 _ rfl
  obtain ⟨x6, y6, n6, e6, t6⟩ := hf 6 _ rfl
  obtain ⟨x7, y7, n7, e7, t7⟩ := hf 7 _ rfl
  obtain ⟨x8, y8, n8, e8, t8⟩ := hf 8 _ rfl
  obtain ⟨x9, y9, n9, e9, t9⟩ := hf 9 _ rfl
  obtain ⟨x10, y10, n10, e10, t10⟩ := hf 10 _ rfl
  obtain ⟨a0, q0, _, _⟩ := DataW.trod_int Try.underlying3 t0
  simp only [List.cons.injEq, and_true] at q0
  subst q0
  obtain ⟨a1, q1, _, _⟩ := DataW.trod_int Try.underlying3 t1
  simp only [List.cons.injEq, and_true] at q1
  subst q1
  obtain ⟨a2, q2, _, _⟩ := DataW.trod_int Try.underlying3 t2
  simp only [List.cons.injEq, and_true] at q2
  subst q2
  obtain ⟨a3, q3, _, _⟩ := DataW.trod_int Try.underlying3 t3
  simp only [List.cons.injEq, and_true] at q3
  subst q3
  obtain ⟨a4, q4, _, _⟩ := DataW.trod_int Try.underlying3 t4
  simp only [List.cons.injEq, and_true] at q4
  subst q4
  obtain ⟨a5, q5, _, _⟩ := DataW.trod_int Try.underlying3 t5
  simp only [List.cons.injEq, and_true] at q5
  subst q5
  obtain ⟨a6, q6, _, _⟩ := DataW.trod_int Try.underlying3 t6
  simp only [List.cons.injEq, and_true] at q6
  subst q6
  obtain ⟨a7, q7, _, _⟩ := DataW.trod_int Try.underlying3 t7
  simp only [List.cons.injEq, and_true] at q7
  subst q7
  obtain ⟨a8, q8, _, _⟩ := DataW.trod_int Try.underlying3 t8
  simp only [List.cons.injEq, and_true] at q8
  subst q8
  obtain ⟨a9, q9, _, _⟩ := DataW.trod_int Try.underlying3 t9
  simp only [List.cons.injEq, and_true] at q9
  subst q9
  obtain ⟨A, l, cap, rfl, hR, hm, _, _⟩ := rd_ints Try.underlying22 Try.underlying3 int_cells t10
  refine ⟨⟨a0, a1, a2, a3, a4, a5, a6, a7, a8, a9, l, A, cap⟩, ?_, hR, hm⟩
  have hl11 : vs.length = 11 := hlen
  match vs, hl11 with
  | [b0, b1, b2, b3, b4, b5, b6, b7, b8, b9, b10], _ =>
    simp only [List.getElem?_cons_zero, List.getElem?_cons_succ, Option.some.injEq] at e0 e1 e2 e3 e4 e5 e6 e7 e8 e9 e10
    subst e0 e1 e2 e3 e4 e5 e6 e7 e8 e9 e10
    rfl

set_option maxRecDepth 100000 in
theorem boundTells_lifted (os : Os) (started : os.Started) (H : Type) (enc : TypeId × Value → H) :
    ReturnsInHanded {} Try.checked os 4 .any (Rows.boundTellsSpec.pre6 enc Try.prog Try.f4 Rows.boundTellsRow.domain false) (Rows.boundTellsSpec.post enc Try.prog Try.f4 false true false false) := by
  refine returnsInHanded_of_change (C := Try.checked) own_knob started (by kernel_rfl) Try.func4
    (ChangeSpec.witness6 (enc := enc) (C := Try.checked) false ⟨#[], #[.agg #[.int .i64 0, .int .i64 0, .int .i64 0, .int .i64 0, .int .i64 0, .int .i64 0, .int .i64 0, .int .i64 0, .int .i64 0, .int .i64 0, .slice none 0 0]], []⟩ 8 (by kernel_rfl) (by kernel_rfl) (by kernel_rfl) (by kernel_rfl)) ?_
  intro W base args ds gs before hval0 hW hcnd _
  have hval : ∀ (j : Nat) t v, Try.f4.params[j]? = some t → args[j]? = some v → Value.okWide Try.prog W .any base t v := hval0
  have hW' := hW
  obtain ⟨p, q, hA0, hV, rfl, hfz, hnd⟩ := hW
  have hA : DataW.TrodAll enc Try.prog W 0 (fun _ => true) true Try.f4.params.toList args.toList ds p := hA0
  rw [Try.params4] at hA hval
  obtain ⟨v0, d0, rfl, rfl, h0⟩ := trodAll_one hA
  obtain ⟨c, rfl, hin⟩ := open_cfg (hval 0 24 v0 rfl rfl) h0
  refine (BoundTells_any c W hin).mono fun e W' ⟨he, hb⟩ => ?_
  subst he
  exact ⟨_, rfl, law_post laid_out (by kernel_rfl) (by kernel_rfl) Try.underlying4 rfl hW' rfl hb⟩

theorem boundTells_holds : Rows.BoundTellsSaid :=
  OpenClaim.holds_of_wide 4 Try.f4 rfl rfl rfl rfl rfl rfl rfl ⟨rfl, rfl, rfl, rfl, rfl⟩ rfl rfl rfl rfl rfl (by kernel_rfl) Try.func4 (by kernel_rfl)
    (of_decide_eq_true (by kernel_rfl)) (by unfold Func.isWrapper; first | (rw [if_pos (by decide +kernel)]; kernel_rfl) | (rw [if_neg (by decide +kernel)]; exact ⟨rfl, rfl⟩))
    (fun os started H enc _ => boundTells_lifted os started H enc)

end Go.Proofs.Ytmllbailfbjoeaa

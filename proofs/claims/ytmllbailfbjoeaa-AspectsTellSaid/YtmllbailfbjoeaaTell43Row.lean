/- What a queue can't have told, of any history: the statement AspectsTell, whole: for every slice of notes the call returns true, and what came in reads as before. No condition. -/
import Derived.Test.YtmllbailfbjoeaaOpen
import Derived.Test.YtmllbailfbjoeaaLaw43
namespace Go.Proofs.Ytmllbailfbjoeaa
open Go.ChangeShapes Go.WideShapes Go.ChangeAt Go.RowKit Go.Deep

section
variable {H : Type} {enc : TypeId × Value → H} {w : World} {base : Nat} {spare : Nat → Bool} {held : Bool}

set_option maxRecDepth 100000 in
theorem open_note {n : Nat} {cs : List Value} {y : DataW H × List MemPlace} (h : DataW.trod enc Try.prog w base spare held n 119 cs = some y) : ∃ a : Nte, cs = a.cells ∧ (Lit.int .i64 a.thread).wf = true := by
  have hl := fld_len Try.underlying119 h
  rw [show Try.prog.cellsOf 119 = 13 by kernel_rfl] at hl
  have c1 : Try.prog.cellsOf 3 = 1 := by kernel_rfl
  have cb : Try.prog.cellsOf 4 = 1 := by kernel_rfl
  have cr : Try.prog.cellsOf 77 = 5 := by kernel_rfl
  have cq : Try.prog.cellsOf 117 = 4 := by kernel_rfl
  have cs1 : Try.prog.cellsOf 75 = 1 := by kernel_rfl
  have ce : Try.prog.cellsOf 54 = 1 := by kernel_rfl
  obtain ⟨_, _, h0⟩ := fld Try.underlying119 h 0 0 1 3 rfl c1
  obtain ⟨_, _, h1⟩ := fld Try.underlying119 h 1 1 1 3 rfl c1
  obtain ⟨_, _, h2⟩ := fld Try.underlying119 h 2 2 1 3 rfl c1
  obtain ⟨_, _, h3⟩ := fld Try.underlying119 h 3 3 1 3 rfl c1
  obtain ⟨_, _, hr⟩ := fld Try.underlying119 h 4 4 5 77 rfl cr
  obtain ⟨_, _, hq⟩ := fld Try.underlying119 h 5 9 4 117 rfl cq
  obtain ⟨_, _, r0⟩ := fld Try.underlying77 hr 0 0 1 3 rfl c1
  obtain ⟨_, _, r1⟩ := fld Try.underlying77 hr 1 1 1 3 rfl c1
  obtain ⟨_, _, r2⟩ := fld Try.underlying77 hr 2 2 1 3 rfl c1
  obtain ⟨_, _, r3⟩ := fld Try.underlying77 hr 3 3 1 4 rfl cb
  obtain ⟨_, _, r4⟩ := fld Try.underlying77 hr 4 4 1 75 rfl cs1
  obtain ⟨_, _, q0⟩ := fld Try.underlying117 hq 0 0 1 3 rfl c1
  obtain ⟨_, _, q1⟩ := fld Try.underlying117 hq 1 1 1 3 rfl c1
  obtain ⟨_, _, q2⟩ := fld Try.underlying117 hq 2 2 1 54 rfl ce
  obtain ⟨_, _, q3⟩ := fld Try.underlying117 hq 3 3 1 3 rfl c1
  obtain ⟨z0, e0, _⟩ := leaf_int Try.underlying3 h0
  obtain ⟨z1, e1, w1⟩ := leaf_int Try.underlying3 h1
  obtain ⟨z2, e2, _⟩ := leaf_int Try.underlying3 h2
  obtain ⟨z3, e3, _⟩ := leaf_int Try.underlying3 h3
  obtain ⟨z4, e4, _⟩ := leaf_int Try.underlying3 r0
  obtain ⟨z5, e5, _⟩ := leaf_int Try.underlying3 r1
  obtain ⟨z6, e6, _⟩ := leaf_int Try.underlying3 r2
  obtain ⟨z7, e7⟩ := leaf_bool Try.underlying4 r3
  obtain ⟨z8, l8, c8, e8, _⟩ := leaf_slice Try.underlying75 r4
  obtain ⟨z9, e9, _⟩ := leaf_int Try.underlying3 q0
  obtain ⟨z10, e10, _⟩ := leaf_int Try.underlying3 q1
  obtain ⟨z11, e11, _⟩ := leaf_int Try.underlying54 q2
  obtain ⟨z12, e12, _⟩ := leaf_int Try.underlying3 q3
  replace e4 := part_at e4
  replace e5 := part_at e5
  replace e6 := part_at e6
  replace e7 := part_at e7
  replace e8 := part_at e8
  replace e9 := part_at e9
  replace e10 := part_at e10
  replace e11 := part_at e11
  replace e12 := part_at e12
  refine ⟨⟨z0, z1, z2, z3, z4, z5, z6, z7, z8, l8, c8, z9, z10, z11, z12⟩, ?_, w1⟩
  match cs, hl with
  | [a0, a1, a2, a3, a4, a5, a6, a7, a8, a9, a10, a11, a12], _ =>
    simp at e0 e1 e2 e3 e4 e5 e6 e7 e8 e9 e10 e11 e12
    subst e0 e1 e2 e3 e4 e5 e6 e7 e8 e9 e10 e11 e12
    rfl
end

set_option maxRecDepth 100000 in
theorem aspectsTell_lifted (os : Os) (started : os.Started) (H : Type) (enc : TypeId × Value → H) :
    ReturnsInHanded {} Try.checked os 5 .any (Rows.aspectsTellSpec.pre6 enc Try.prog Try.f5 Rows.aspectsTellRow.domain false) (Rows.aspectsTellSpec.post enc Try.prog Try.f5 false true false false) := by
  refine returnsInHanded_of_change (C := Try.checked) own_knob started (by kernel_rfl) Try.func5
    (ChangeSpec.witness6 (enc := enc) (C := Try.checked) false ⟨#[], #[.slice none 0 0], []⟩ 8 (by kernel_rfl) (by kernel_rfl) (by kernel_rfl) (by kernel_rfl)) ?_
  intro W base args ds gs before hval0 hW hcnd _
  have hval : ∀ (j : Nat) t v, Try.f5.params[j]? = some t → args[j]? = some v → Value.okWide Try.prog W .any base t v := hval0
  have hW' := hW
  obtain ⟨p, q, hA0, hV, rfl, hfz, hnd⟩ := hW
  have hA : DataW.TrodAll enc Try.prog W 0 (fun _ => true) true Try.f5.params.toList args.toList ds p := hA0
  rw [Try.params5] at hA hval
  obtain ⟨v0, d0, rfl, rfl, h0⟩ := trodAll_one hA
  obtain ⟨a0, l0, c0, rfl⟩ := okWide_slice Try.underlying29 (hval 0 29 v0 rfl rfl)
  obtain ⟨n0, h0⟩ := h0
  obtain ⟨A1, l, cap1, e0, hR1, hm1, _, _, hok⟩ := rd_recs (fun a : Nte => (Lit.int .i64 a.thread).wf = true) Try.underlying29 (by kernel_rfl) (by decide) (fun n cs y h => open_note h) h0
  rw [e0]
  refine (Law43_any A1 cap1 l W hm1 hok hR1).mono fun e W' ⟨he, hb⟩ => ?_
  subst he
  rw [← e0]
  exact ⟨_, rfl, law_post laid_out (by kernel_rfl) (by kernel_rfl) Try.underlying4 rfl hW' rfl hb⟩

theorem aspectsTell_holds : Rows.AspectsTellSaid :=
  OpenClaim.holds_of_wide 5 Try.f5 rfl rfl rfl rfl rfl rfl rfl ⟨rfl, rfl, rfl, rfl, rfl⟩ rfl rfl rfl rfl rfl (by kernel_rfl) Try.func5 (by kernel_rfl)
    (of_decide_eq_true (by kernel_rfl)) (by unfold Func.isWrapper; first | (rw [if_pos (by decide +kernel)]; kernel_rfl) | (rw [if_neg (by decide +kernel)]; exact ⟨rfl, rfl⟩))
    (fun os started H enc _ => aspectsTell_lifted os started H enc)

end Go.Proofs.Ytmllbailfbjoeaa

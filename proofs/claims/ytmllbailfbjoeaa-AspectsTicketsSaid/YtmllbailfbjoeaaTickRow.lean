/- A queue of cells tells nothing that a queue can't have told, whatever its threads do: the statement AspectsTickets, whole: for every size, number of threads and of tries, and every slice of acts the call returns true, and what came in reads as before. No condition. -/
import Derived.Test.YtmllbailfbjoeaaOpen
import Derived.Test.YtmllbailfbjoeaaLaw43t
import Derived.Carry
namespace Go.Proofs.Ytmllbailfbjoeaa
open Go.ChangeShapes Go.WideShapes Go.ChangeAt Go.RowKit Go.Deep

section
variable {H : Type} {enc : TypeId × Value → H} {w : World} {base : Nat} {spare : Nat → Bool} {held : Bool}

set_option maxRecDepth 100000 in
theorem open_act {n : Nat} {cs : List Value} {y : DataW H × List MemPlace} (h : DataW.trod enc Try.prog w base spare held n 65 cs = some y) : ∃ a : Actr, cs = a.cells ∧ True := by
  have hl := fld_len Try.underlying65 h
  rw [show Try.prog.cellsOf 65 = 3 by kernel_rfl] at hl
  have c1 : Try.prog.cellsOf 3 = 1 := by kernel_rfl
  obtain ⟨_, _, h0⟩ := fld Try.underlying65 h 0 0 1 3 rfl c1
  obtain ⟨_, _, h1⟩ := fld Try.underlying65 h 1 1 1 3 rfl c1
  obtain ⟨_, _, h2⟩ := fld Try.underlying65 h 2 2 1 3 rfl c1
  obtain ⟨z0, e0, _⟩ := leaf_int Try.underlying3 h0
  obtain ⟨z1, e1, _⟩ := leaf_int Try.underlying3 h1
  obtain ⟨z2, e2, _⟩ := leaf_int Try.underlying3 h2
  refine ⟨⟨z0, z1, z2⟩, ?_, trivial⟩
  match cs, hl with
  | [a0, a1, a2], _ =>
    simp at e0 e1 e2
    subst e0 e1 e2
    rfl
end

set_option maxRecDepth 100000 in
theorem aspectsTickets_lifted (os : Os) (started : os.Started) (H : Type) (enc : TypeId × Value → H) :
    ReturnsInHanded {} Try.checked os 9 .any (Rows.aspectsTicketsSpec.pre6 enc Try.prog Try.f9 Rows.aspectsTicketsRow.domain false) (Rows.aspectsTicketsSpec.post enc Try.prog Try.f9 false true false false) := by
  refine returnsInHanded_of_change (C := Try.checked) own_knob started (by kernel_rfl) Try.func9
    (ChangeSpec.witness6 (enc := enc) (C := Try.checked) false ⟨#[], #[.int .i64 0, .int .i64 0, .int .i64 0, .slice none 0 0], []⟩ 8 (by kernel_rfl) (by kernel_rfl) (by kernel_rfl) (by kernel_rfl)) ?_
  intro W base args ds gs before hval0 hW hcnd _
  have hval : ∀ (j : Nat) t v, Try.f9.params[j]? = some t → args[j]? = some v → Value.okWide Try.prog W .any base t v := hval0
  have hW' := hW
  obtain ⟨p, q, hA0, hV, rfl, hfz, hnd⟩ := hW
  have hA : DataW.TrodAll enc Try.prog W 0 (fun _ => true) true Try.f9.params.toList args.toList ds p := hA0
  rw [Try.params9] at hA hval
  obtain ⟨v0, v1, v2, v3, d0, d1, d2, d3, p0, p1, p2, p3, rfl, rfl, rfl, h0, h1, h2, h3⟩ := trodAll_four hA
  obtain ⟨z0, rfl⟩ := okWide_int Try.underlying3 (hval 0 3 v0 rfl rfl)
  obtain ⟨z1, rfl⟩ := okWide_int Try.underlying3 (hval 1 3 v1 rfl rfl)
  obtain ⟨z2, rfl⟩ := okWide_int Try.underlying3 (hval 2 3 v2 rfl rfl)
  obtain ⟨a0, l0, c0, rfl⟩ := okWide_slice Try.underlying60 (hval 3 60 v3 rfl rfl)
  obtain ⟨n0, h3⟩ := h3
  obtain ⟨A1, l, cap1, e0, hR1, hm1, _, _, hok⟩ := rd_recs (fun _ : Actr => True) Try.underlying60 (by kernel_rfl) (by decide) (fun n cs y h => open_act h) h3
  rw [e0]
  refine (LawT_any A1 cap1 z0 z1 z2 l W hR1).mono fun e W' ⟨he, hb⟩ => ?_
  subst he
  rw [← e0]
  exact ⟨_, rfl, law_post laid_out (by kernel_rfl) (by kernel_rfl) Try.underlying4 rfl hW' rfl hb⟩

theorem aspectsTickets_holds : Rows.AspectsTicketsSaid :=
  OpenClaim.holds_of_wide 9 Try.f9 rfl rfl rfl rfl rfl rfl rfl ⟨rfl, rfl, rfl, rfl, rfl⟩ rfl rfl rfl rfl rfl (by kernel_rfl) Try.func9 (by kernel_rfl)
    (of_decide_eq_true (by kernel_rfl)) (by unfold Func.isWrapper; first | (rw [if_pos (by decide +kernel)]; kernel_rfl) | (rw [if_neg (by decide +kernel)]; exact ⟨rfl, rfl⟩))
    (fun os started H enc _ => aspectsTickets_lifted os started H enc)

end Go.Proofs.Ytmllbailfbjoeaa

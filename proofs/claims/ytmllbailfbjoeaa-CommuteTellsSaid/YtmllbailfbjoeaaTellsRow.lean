/- The law of what may change places, as it is claimed. -/
import Derived.Test.YtmllbailfbjoeaaSameRow
import Derived.Test.YtmllbailfbjoeaaLawTells
namespace Go.Proofs.Ytmllbailfbjoeaa
open Go.ChangeShapes Go.WideShapes Go.ChangeAt Go.RowKit Go.Deep

set_option maxRecDepth 100000 in
theorem open_accV {H : Type} {enc : TypeId × Value → H} {r : Reach} {b0 : Nat} {w : World} {base : Nat} {spare : Nat → Bool} {held : Bool} {v : Value} {d : DataW H} {p : List MemPlace}
    (hv : Value.okWide Try.prog w r b0 44 v) (h : DataW.Trod enc Try.prog w base spare held 44 v d p) : ∃ a : Acc, v = accV a := by
  obtain ⟨cs, rfl, hsz⟩ := okWide_struct Try.underlying44 hv
  obtain ⟨l⟩ := cs
  obtain ⟨fuel, hf⟩ := h
  simp only [Value.cells] at hf
  obtain ⟨a, ha, _⟩ := open_acc Try.underlying44 (by kernel_rfl) (by kernel_rfl) rfl acc_kinds hf
  refine ⟨a, ?_⟩
  have hl : l = a.cells := by simpa using ha
  rw [hl]
  rfl

set_option maxRecDepth 100000 in
theorem commuteTells_lifted (os : Os) (started : os.Started) (H : Type) (enc : TypeId × Value → H) :
    ReturnsInHanded {} Try.checked os 6 .any (Rows.commuteTellsSpec.pre6 enc Try.prog Try.f6 Rows.commuteTellsRow.domain false) (Rows.commuteTellsSpec.post enc Try.prog Try.f6 false true false false) := by
  refine returnsInHanded_of_change (C := Try.checked) own_knob started (by kernel_rfl) Try.func6
    (ChangeSpec.witness6 (enc := enc) (C := Try.checked) false ⟨#[], #[.slice none 0 0, accV Acc.none, accV Acc.none, .int .i64 0], []⟩ 8 (by kernel_rfl) (by kernel_rfl) (by kernel_rfl) (by kernel_rfl)) ?_
  intro W base args ds gs before hval0 hW hcnd _
  have hval : ∀ (j : Nat) t v, Try.f6.params[j]? = some t → args[j]? = some v → Value.okWide Try.prog W .any base t v := hval0
  have hW' := hW
  obtain ⟨p, q, hA0, hV, rfl, hfz, hnd⟩ := hW
  have hA : DataW.TrodAll enc Try.prog W 0 (fun _ => true) true Try.f6.params.toList args.toList ds p := hA0
  rw [Try.params6] at hA hval
  obtain ⟨v0, v1, v2, v3, d0, d1, d2, d3, p0, p1, p2, p3, rfl, rfl, rfl, h0, h1, h2, h3⟩ := trodAll_four hA
  obtain ⟨a0, l0, c0, rfl⟩ := okWide_slice Try.underlying41 (hval 0 41 v0 rfl rfl)
  obtain ⟨i, rfl⟩ := okWide_int Try.underlying3 (hval 3 3 v3 rfl rfl)
  obtain ⟨n3, h3⟩ := h3
  obtain ⟨z3, q3, _, w3⟩ := DataW.trod_int Try.underlying3 h3
  simp only [Value.cells, List.cons.injEq, Value.int.injEq, true_and, and_true] at q3
  subst q3
  have hi := i64_bounds w3
  obtain ⟨n0, h0⟩ := h0
  obtain ⟨A1, l, cap1, e0, hR1, hm1, hc1, _⟩ := rd_accs Try.underlying41 Try.underlying44 (by kernel_rfl) (by kernel_rfl) rfl acc_kinds h0
  obtain ⟨a, rfl⟩ := open_accV (hval 1 44 v1 rfl rfl) h1
  obtain ⟨b, rfl⟩ := open_accV (hval 2 44 v2 rfl rfl) h2
  rw [e0]
  refine (LawTells_any A1 cap1 l a b i W hm1 hc1 hi.1 hi.2 hR1).mono fun e W' ⟨he, hb⟩ => ?_
  subst he
  rw [← e0]
  exact ⟨_, rfl, law_post laid_out (by kernel_rfl) (by kernel_rfl) Try.underlying4 rfl hW' rfl hb⟩

theorem commuteTells_holds : Rows.CommuteTellsSaid :=
  OpenClaim.holds_of_wide 6 Try.f6 rfl rfl rfl rfl rfl rfl rfl ⟨rfl, rfl, rfl, rfl, rfl⟩ rfl rfl rfl rfl rfl (by kernel_rfl) Try.func6 (by kernel_rfl)
    (of_decide_eq_true (by kernel_rfl)) (by unfold Func.isWrapper; first | (rw [if_pos (by decide +kernel)]; kernel_rfl) | (rw [if_neg (by decide +kernel)]; exact ⟨rfl, rfl⟩))
    (fun os started H enc _ => commuteTells_lifted os started H enc)

end Go.Proofs.Ytmllbailfbjoeaa

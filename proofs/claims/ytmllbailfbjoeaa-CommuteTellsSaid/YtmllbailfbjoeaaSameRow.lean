/- The law of neighbours that change places, as it is claimed. -/
import Derived.Test.YtmllbailfbjoeaaNormalRow
import Derived.Test.YtmllbailfbjoeaaLawSame
namespace Go.Proofs.Ytmllbailfbjoeaa
open Go.ChangeShapes Go.WideShapes Go.ChangeAt Go.RowKit Go.Deep

theorem i64_bounds {i : Int} (h : (Lit.int .i64 i).wf = true) : -9223372036854775808 ≤ i ∧ i ≤ 9223372036854775807 := by
  simp only [Lit.wf, Bool.and_eq_true, decide_eq_true_eq] at h
  exact h

set_option maxRecDepth 100000 in
theorem commuteSame_lifted (os : Os) (started : os.Started) (H : Type) (enc : TypeId × Value → H) :
    ReturnsInHanded {} Try.checked os 8 .any (Rows.commuteSameSpec.pre6 enc Try.prog Try.f8 Rows.commuteSameRow.domain false) (Rows.commuteSameSpec.post enc Try.prog Try.f8 false true false false) := by
  refine returnsInHanded_of_change_sized (C := Try.checked) own_knob started (by kernel_rfl) Try.func8
    (ChangeSpec.witness6 (enc := enc) (C := Try.checked) false ⟨#[], #[.slice none 0 0, .slice none 0 0, .int .i64 0], []⟩ 8 (by kernel_rfl) (by kernel_rfl) (by kernel_rfl) (by kernel_rfl)) ?_
  intro W base args ds gs before hval0 hW hcnd hsz0 _
  have hval : ∀ (j : Nat) t v, Try.f8.params[j]? = some t → args[j]? = some v → Value.okWide Try.prog W .any base t v := hval0
  have hsz : (DataW.weightsEach Try.prog (Try.f8.params.toList ++ Rows.commuteSameSpec.plain.varTypes Try.prog) (ds ++ gs)).all (· ≤ reachBytes) = true := hsz0
  have hW' := hW
  obtain ⟨p, q, hA0, hV, rfl, hfz, hnd⟩ := hW
  have hA : DataW.TrodAll enc Try.prog W 0 (fun _ => true) true Try.f8.params.toList args.toList ds p := hA0
  rw [Try.params8] at hA hval hsz
  obtain ⟨v0, v1, v2, d0, d1, d2, p0, p1, p2, rfl, rfl, rfl, h0, h1, h2⟩ := trodAll_three hA
  obtain ⟨a0, l0, c0, rfl⟩ := okWide_slice Try.underlying53 (hval 0 53 v0 rfl rfl)
  obtain ⟨a1, l1, c1, rfl⟩ := okWide_slice Try.underlying41 (hval 1 41 v1 rfl rfl)
  obtain ⟨i, rfl⟩ := okWide_int Try.underlying3 (hval 2 3 v2 rfl rfl)
  obtain ⟨n2, h2⟩ := h2
  obtain ⟨z2, q2, _, w2⟩ := DataW.trod_int Try.underlying3 h2
  simp only [Value.cells, List.cons.injEq, Value.int.injEq, true_and, and_true] at q2
  subst q2
  have hi := i64_bounds w2
  obtain ⟨n0, h0⟩ := h0
  obtain ⟨n1, h1⟩ := h1
  obtain ⟨A0, ws, cap0, e0, hR0, hm0, hc0, _, hd0⟩ := rd_words Try.underlying53 Try.underlying42 word_cells h0
  obtain ⟨A1, l, cap1, e1, hR1, hm1, hc1, _⟩ := rd_accs Try.underlying41 Try.underlying44 (by kernel_rfl) (by kernel_rfl) rfl acc_kinds h1
  have hn : ws.length * 8 ≤ 140737488355328 := by
    rcases hd0 with ⟨_, rfl⟩ | ⟨sp, hd⟩
    · simp
    · have := sized_slice hsz (j := 0) (t := 53) (e := 42) rfl (by rw [← hd]; rfl) Try.underlying53
      rw [word_bytes] at this
      simp only [lits, List.length_map, reachBytes] at this
      omega
  rw [e0, e1]
  refine (LawSame_any A0 A1 cap0 cap1 ws l i W hn hm1 hc1 hi.1 hi.2 hR0 hR1).mono fun e W' ⟨he, hb⟩ => ?_
  subst he
  rw [← e0, ← e1]
  exact ⟨_, rfl, law_post laid_out (by kernel_rfl) (by kernel_rfl) Try.underlying4 rfl hW' rfl hb⟩

theorem commuteSame_holds : Rows.CommuteSameSaid :=
  OpenClaim.holds_of_wide 8 Try.f8 rfl rfl rfl rfl rfl rfl rfl ⟨rfl, rfl, rfl, rfl, rfl⟩ rfl rfl rfl rfl rfl (by kernel_rfl) Try.func8 (by kernel_rfl)
    (of_decide_eq_true (by kernel_rfl)) (by unfold Func.isWrapper; first | (rw [if_pos (by decide +kernel)]; kernel_rfl) | (rw [if_neg (by decide +kernel)]; exact ⟨rfl, rfl⟩))
    (fun os started H enc _ => commuteSame_lifted os started H enc)

end Go.Proofs.Ytmllbailfbjoeaa

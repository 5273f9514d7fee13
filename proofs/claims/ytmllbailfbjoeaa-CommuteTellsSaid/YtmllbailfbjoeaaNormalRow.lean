/- The law of the order, as it is claimed. -/
import Derived.Test.YtmllbailfbjoeaaClose2
import Derived.Test.YtmllbailfbjoeaaLawNormal
namespace Go.Proofs.Ytmllbailfbjoeaa
open Go.ChangeShapes Go.WideShapes Go.ChangeAt Go.RowKit Go.Deep

theorem word_bytes : Try.prog.bytesOf 42 = 8 := by kernel_rfl
theorem word_cells : Try.prog.cellsOf 42 = 1 := by kernel_rfl

theorem acc_kinds : ∀ j f, (match Try.prog.underlying 44 with | some (.struct fs) => fs | _ => #[])[j]? = some f → Try.prog.underlying f.type = some (accKind j) := by
  rw [Try.underlying44]
  intro j f h
  match j with
  | 0 => have := Option.some.inj h; subst this; exact Try.underlying3
  | 1 => have := Option.some.inj h; subst this; exact Try.underlying3
  | 2 => have := Option.some.inj h; subst this; exact Try.underlying3
  | 3 => have := Option.some.inj h; subst this; exact Try.underlying42
  | 4 => have := Option.some.inj h; subst this; exact Try.underlying42
  | 5 => have := Option.some.inj h; subst this; exact Try.underlying42
  | 6 => have := Option.some.inj h; subst this; exact Try.underlying4
  | j + 7 => simp at h

set_option maxRecDepth 100000 in
theorem commuteNormal_lifted (os : Os) (started : os.Started) (H : Type) (enc : TypeId × Value → H) :
    ReturnsInHanded {} Try.checked os 7 .any (Rows.commuteNormalSpec.pre6 enc Try.prog Try.f7 Rows.commuteNormalRow.domain false) (Rows.commuteNormalSpec.post enc Try.prog Try.f7 false true false false) := by
  refine returnsInHanded_of_change_sized (C := Try.checked) own_knob started (by kernel_rfl) Try.func7
    (ChangeSpec.witness6 (enc := enc) (C := Try.checked) false ⟨#[], #[.slice none 0 0, .slice none 0 0], []⟩ 8 (by kernel_rfl) (by kernel_rfl) (by kernel_rfl) (by kernel_rfl)) ?_
  intro W base args ds gs before hval0 hW hcnd hsz0 _
  have hval : ∀ (j : Nat) t v, Try.f7.params[j]? = some t → args[j]? = some v → Value.okWide Try.prog W .any base t v := hval0
  have hsz : (DataW.weightsEach Try.prog (Try.f7.params.toList ++ Rows.commuteNormalSpec.plain.varTypes Try.prog) (ds ++ gs)).all (· ≤ reachBytes) = true := hsz0
  have hW' := hW
  obtain ⟨p, q, hA0, hV, rfl, hfz, hnd⟩ := hW
  have hA : DataW.TrodAll enc Try.prog W 0 (fun _ => true) true Try.f7.params.toList args.toList ds p := hA0
  rw [Try.params7] at hA hval hsz
  obtain ⟨v0, v1, d0, d1, p0, p1, rfl, rfl, rfl, h0, h1⟩ := trodAll_two hA
  obtain ⟨a0, l0, c0, rfl⟩ := okWide_slice Try.underlying53 (hval 0 53 v0 rfl rfl)
  obtain ⟨a1, l1, c1, rfl⟩ := okWide_slice Try.underlying41 (hval 1 41 v1 rfl rfl)
  obtain ⟨n0, h0⟩ := h0
  obtain ⟨n1, h1⟩ := h1
  obtain ⟨A0, ws, cap0, e0, hR0, hm0, hc0, _, hd0⟩ := rd_words Try.underlying53 Try.underlying42 word_cells h0
  obtain ⟨A1, l, cap1, e1, hR1, hm1, hc1, _⟩ := rd_accs Try.underlying41 Try.underlying44 (by kernel_rfl) (by kernel_rfl) rfl acc_kinds h1
  have hn : ws.length * 8 ≤ 140737488355328 := by
    rcases hd0 with ⟨_, rfl⟩ | ⟨sp, hd⟩
    · simp
    · have := sized_slice hsz (j := 0) (t := 53) (e := 42) rfl (by rw [← hd]; rfl) Try.underlying53
      rw [word_bytes] at this
      simp only [lits, List.length_map, reachBytes] at this
      omega
  rw [e0, e1]
  refine (LawNormal_any A0 A1 cap0 cap1 ws l W hn hm1 hc1 hR0 hR1).mono fun e W' ⟨he, hb⟩ => ?_
  subst he
  rw [← e0, ← e1]
  exact ⟨_, rfl, law_post laid_out (by kernel_rfl) (by kernel_rfl) Try.underlying4 rfl hW' rfl hb⟩

theorem commuteNormal_holds : Rows.CommuteNormalSaid :=
  OpenClaim.holds_of_wide 7 Try.f7 rfl rfl rfl rfl rfl rfl rfl ⟨rfl, rfl, rfl, rfl, rfl⟩ rfl rfl rfl rfl rfl (by kernel_rfl) Try.func7 (by kernel_rfl)
    (of_decide_eq_true (by kernel_rfl)) (by unfold Func.isWrapper; first | (rw [if_pos (by decide +kernel)]; kernel_rfl) | (rw [if_neg (by decide +kernel)]; exact ⟨rfl, rfl⟩))
    (fun os started H enc _ => commuteNormal_lifted os started H enc)

end Go.Proofs.Ytmllbailfbjoeaa

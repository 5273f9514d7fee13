/- A machine that no call made has nothing, and does nothing: the statement MachineNobody, whole: whatever the number and the event, the call returns true, and what came in reads as before. No condition. -/
import Derived.Test.YtedipingocmmdaaGreatEvTame
import Derived.Test.YtedipingocmmdaaGreatEvM18
import Derived.Test.YtedipingocmmdaaGreatEvA18
namespace Go.Proofs.YtedipingocmmdaaGreat
open Go.ChangeShapes Go.WideShapes Go.ChangeAt Go.RowKit Go.Deep

theorem LawMn_any (z : Int) (cs : Array Value) (w : World) (hl : cs.size = 9) (ht : ∀ v ∈ cs.toList, Ev.tame w v) :
    Calls Tryz.prog 3 #[.int .i64 z, .agg cs] w fun e w' => e = .returned (.bool true) ∧ Below w.heap.size w w' := by
  obtain ⟨l⟩ := cs
  match l, hl with
  | [a0, a1, a2, a3, a4, a5, a6, a7, a8], _ =>
    have hok := Ev.unL_ok (w := w) (cs := [a0, a1, a2, a3, a4, a5, a6, a7, a8]) [a0, a1, a2, a3, a4, a5, a6, a7, a8] 0 (fun j v hj => ⟨by rw [Nat.zero_add]; exact hj, ht v (List.mem_of_getElem? hj)⟩)
    obtain ⟨h1, h2⟩ := hok
    have h := Ev.saysX_of (Ev.oneK_ok (by kernel_rfl) Ev.awake18_true) (cs := [a0, a1, a2, a3, a4, a5, a6, a7, a8]) (w := w) (by simp) ht
      (args := [.int .i64 z, .agg ⟨Ev.unL 0 [a0, a1, a2, a3, a4, a5, a6, a7, a8]⟩]) (fun v hv => by
        rcases List.mem_cons.mp hv with rfl | hv
        · exact trivial
        · rcases List.mem_singleton.mp hv with rfl
          exact ⟨(Ev.okL_eq _ _ _).mpr fun x hx => (h1 x hx).1, fun x hx => (h1 x hx).2⟩) (Ev.mn_all z _ _ _ _ _ _ _ _ _)
    have e : (List.map (Ev.ren (Ev.extR [a0, a1, a2, a3, a4, a5, a6, a7, a8])) [.int .i64 z, .agg ⟨Ev.unL 0 [a0, a1, a2, a3, a4, a5, a6, a7, a8]⟩]).toArray = #[.int .i64 z, .agg #[a0, a1, a2, a3, a4, a5, a6, a7, a8]] := by
      show #[Value.int .i64 z, .agg ⟨Ev.renL _ (Ev.unL 0 [a0, a1, a2, a3, a4, a5, a6, a7, a8])⟩] = _
      rw [Ev.renL_eq, h2]
    rw [e] at h
    exact h

set_option maxRecDepth 100000 in
theorem machineNobody_lifted (os : Os) (started : os.Started) (H : Type) (enc : TypeId × Value → H) :
    ReturnsInHanded {} Tryz.checked os 3 .any (Rows.machineNobodySpec.pre6 enc Tryz.prog Tryz.f3 Rows.machineNobodyRow.domain false) (Rows.machineNobodySpec.post enc Tryz.prog Tryz.f3 false true false false) := by
  refine returnsInHanded_of_change (C := Tryz.checked) own_knob started (by kernel_rfl) Tryz.func3
    (ChangeSpec.witness6 (enc := enc) (C := Tryz.checked) false ⟨#[], #[.int .i64 0, .agg #[.int .i64 0, .int .i64 0, .int .i64 0, .int .i64 0, .int .i64 0, .bool false, .slice none 0 0, .int .i64 0, .slice none 0 0]], []⟩ 8 (by kernel_rfl) (by kernel_rfl) (by kernel_rfl) (by kernel_rfl)) ?_
  intro W base args ds gs before hval0 hW hcnd _
  have hval : ∀ (j : Nat) t v, Tryz.f3.params[j]? = some t → args[j]? = some v → Value.okWide Tryz.prog W .any base t v := hval0
  have hW' := hW
  obtain ⟨p, q, hA0, hV, rfl, hfz, hnd⟩ := hW
  have hA : DataW.TrodAll enc Tryz.prog W 0 (fun _ => true) true Tryz.f3.params.toList args.toList ds p := hA0
  rw [Tryz.params3] at hA hval
  obtain ⟨v0, v1, d0, d1, p0, p1, rfl, rfl, rfl, h0, h1⟩ := trodAll_two hA
  obtain ⟨z0, rfl⟩ := okWide_int Tryz.underlying3 (hval 0 3 v0 rfl rfl)
  have hv1 := hval 1 27 v1 rfl rfl
  simp only [Value.okWide, Tryz.underlying27] at hv1
  obtain ⟨cs, rfl, hsz, hrow⟩ := hv1
  rw [show Tryz.prog.cellsOf 27 = 9 by kernel_rfl] at hsz
  refine (LawMn_any z0 cs W hsz (Ev.tame_row (ts := [3, 3, 3, 3, 3, 4, 22, 3, 25]) (by kernel_rfl) (by kernel_rfl) hrow)).mono fun e W' ⟨he, hb⟩ => ?_
  subst he
  exact ⟨_, rfl, law_post laid_out (by kernel_rfl) (by kernel_rfl) Tryz.underlying4 rfl hW' rfl hb⟩

theorem machineNobody_holds : Rows.MachineNobodySaid :=
  OpenClaim.holds_of_wide 3 Tryz.f3 rfl rfl rfl rfl rfl rfl rfl ⟨rfl, rfl, rfl, rfl, rfl⟩ rfl rfl rfl rfl rfl (by kernel_rfl) Tryz.func3 (by kernel_rfl)
    (of_decide_eq_true (by kernel_rfl)) (by unfold Func.isWrapper; first | (rw [if_pos (by decide +kernel)]; kernel_rfl) | (rw [if_neg (by decide +kernel)]; exact ⟨rfl, rfl⟩))
    (fun os started H enc _ => machineNobody_lifted os started H enc)

end Go.Proofs.YtedipingocmmdaaGreat


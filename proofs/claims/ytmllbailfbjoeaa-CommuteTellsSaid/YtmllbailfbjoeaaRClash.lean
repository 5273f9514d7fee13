/- The document's Clashes. -/
import Derived.Test.YtmllbailfbjoeaaClash
namespace Go.Proofs.Ytmllbailfbjoeaa
open Go.RowKit Go.Sort

set_option maxHeartbeats 8000000 in
set_option maxRecDepth 100000 in
theorem rClashes_any (A : Option Addr) (c : Nat) (l : List Acc) (w : World) (hl : l.length ≤ 1048576) (hR : Rd w A (accs l)) :
    Calls Try.prog 54 #[.slice A l.length c] w fun e w' => e = .returned (.int .i64 (cls l l.length)) ∧ Below w.heap.size w w' := by
  have HR := Lib.hid hR
  clear hR
  generalize hn : l.length = n at hl ⊢
  have HN := Lib.hid hn
  clear hn
  go_enter Try.func54, Try.ntmps54
  go_wp2
  go_loopw [3, 8] (fun m i wr => ∃ k : Nat, k ≤ n ∧ i = .int .i64 k ∧ m = .int .i64 (cls l k) ∧ Below w.heap.size w wr) (fun _ i _ => n - (intOf i).toNat)
  case atStart => exact ⟨0, Nat.zero_le _, rfl, rfl, Below.refl _ _⟩
  case round =>
    obtain ⟨i, hi, rfl, rfl, hb⟩ := hrel
    have HB := Lib.hid hb
    clear hb
    by_cases hlt : i < n
    · have hil : i < l.length := by rw [HN.out]; exact hlt
      obtain ⟨b, o, rfl, hbl, hc⟩ := HR.out.at_ (by rw [accs_length]; omega)
      generalize hx : l.getD i Acc.none = x
      have hcb := cls_b l i (by omega)
      have HX := Lib.hid hx
      have HC := Lib.hid hc
      clear hc hx hil
      generalize hcl : cls l i = cl at hcb ⊢
      have HCL := Lib.hid hcl
      clear hcl
      obtain ⟨b1, b2⟩ := hcb
      go_wp2
      obtain ⟨wo, rfl⟩ : ∃ wo : World, wo = wr := ⟨_, rfl⟩
      go_loopw [3, 5] (fun m j wi => ∃ k : Nat, k ≤ i ∧ j = .int .i64 k ∧ m = .int .i64 (clOf x (l.take k) cl) ∧ Below wo.heap.size wo wi) (fun _ j _ => i - (intOf j).toNat)
      case atStart => exact ⟨0, Nat.zero_le _, rfl, by simp [clOf], Below.refl _ _⟩
      case round =>
        obtain ⟨k, hk, rfl, rfl, hbi⟩ := hrel
        have HBI := Lib.hid hbi
        clear hbi
        by_cases hki : k < i
        · have hkl : k < l.length := by have := HN.out; omega
          have hil : i < l.length := by have := HN.out; omega
          have hbo : b < wo.heap.size := Nat.lt_of_lt_of_le hbl HB.out.size
          have hcr : ∀ k v, (accs l)[k]? = some v → wr.cell? ⟨b, o + k, none⟩ = some v := fun k v hk => by
            rw [HBI.out.cell (p := ⟨b, o + k, none⟩) hbo, HB.out.cell (p := ⟨b, o + k, none⟩) hbl]; exact HC.out k v hk
          generalize hy : l.getD k Acc.none = y
          obtain ⟨c0, c1, c2, c3, c4, c5, c6⟩ := acc_cells hcr hkl hy
          have hct := clOf_take x l cl k hkl
          rw [hy] at hct
          have hcb := clOf_b x (l.take k) cl
          have hlk : ((l.take k).length : Int) ≤ k := by simp; omega
          have HCT := Lib.hid hct
          have hcm0 : 0 ≤ clOf x (l.take k) cl ∧ clOf x (l.take k) cl ≤ 2199023255552 := by omega
          clear hct hy hkl hcb hlk
          generalize hcm : clOf x (l.take k) cl = cm at *
          clear hcm
          obtain ⟨b3, b4⟩ := hcm0
          obtain ⟨d0, d1, d2, d3, d4, d5, d6⟩ := acc_cells hcr hil HX.out
          clear hcr hil
          have q1 : (0 : Int) ≤ (k : Int) := by omega
          have q2 : (k : Int) < (n : Int) := by omega
          have q3 : (0 : Int) ≤ (i : Int) := by omega
          have q4 : (i : Int) < (n : Int) := by omega
          have k0 := cell_regrown c0
          have j0 := cell_regrown d0
          have k1 := cell_regrown c1
          have j1 := cell_regrown d1
          have k2 := cell_regrown c2
          have j2 := cell_regrown d2
          have k3 := cell_regrown c3
          have j3 := cell_regrown d3
          have k4 := cell_regrown c4
          have j4 := cell_regrown d4
          have k5 := cell_regrown c5
          have j5 := cell_regrown d5
          have k6 := cell_regrown c6
          have j6 := cell_regrown d6
          have HF := Lib.hid (rFree_any y x)
          have hsw : (y.thread != x.thread) = (x.thread != y.thread) := by rw [Bool.eq_iff_iff]; simp; exact ⟨fun h e => h e.symm, fun h e => h e.symm⟩
          rw [hsw] at HCT
          clear hsw
          clear b1 b2
          cases hth : x.thread != y.thread
          · go_wp2
            refine wp_region_quiet_below (by kernel_rfl) (by kernel_rfl) ?_
            repeat (go_big_quiet_step ((go_at_call 46; exact Calls.regrown_of (HF.out _))))
            refine wpQuiet_nil ?_
            intro _ hw'
            obtain ⟨⟨dq, osq⟩, hw''⟩ := hw'
            subst hw''
            go_wp2
            refine ⟨⟨k + 1, by omega, by go_num, by rw [HCT.out, hth]; simp, HBI.out.trans ((below_regrown _ dq osq).mono HBI.out.size)⟩, by simp [intOf]; omega⟩
          · cases hfr : freeB y x
            all_goals
              rw [hfr] at HF
              go_wp2
              refine wp_region_quiet_below (by kernel_rfl) (by kernel_rfl) ?_
              repeat (go_big_quiet_step ((go_at_call 46; exact Calls.regrown_of (HF.out _))))
              refine wpQuiet_nil ?_
              intro _ hw'
              obtain ⟨⟨dq, osq⟩, hw''⟩ := hw'
              subst hw''
              go_wp2
              refine ⟨⟨k + 1, by omega, by go_num, by rw [HCT.out, hth, hfr]; simp, HBI.out.trans ((below_regrown _ dq osq).mono HBI.out.size)⟩, by simp [intOf]; omega⟩
        · go_wp2
          obtain rfl : k = i := by omega
          refine ⟨⟨k + 1, by omega, by go_num, by rw [cls, HX.out, HCL.out], HB.out.trans (HBI.out.mono HB.out.size)⟩, by simp [intOf]; omega⟩
    · go_wp2
      go_ret
      obtain rfl : i = n := by omega
      exact ⟨rfl, HB.out⟩

end Go.Proofs.Ytmllbailfbjoeaa

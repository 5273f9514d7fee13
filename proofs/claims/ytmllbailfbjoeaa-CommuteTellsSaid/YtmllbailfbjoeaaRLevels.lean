/- The document's Levels. -/
import Derived.Test.YtmllbailfbjoeaaLevels
import Derived.Test.YtmllbailfbjoeaaAppend
namespace Go.Proofs.Ytmllbailfbjoeaa
open Go.RowKit Go.Sort

set_option maxHeartbeats 2000000 in
set_option maxRecDepth 100000 in
theorem rLevels_any (A : Option Addr) (c : Nat) (l : List Acc) (w : World) (hl : l.length ≤ 1048576) (hR : Rd w A (accs l)) :
    Calls Try.prog 44 #[.slice A l.length c] w (RetInts (lvs l l.length) w) := by
  have HR := Lib.hid hR
  clear hR
  generalize hn : l.length = n at hl ⊢
  have HN := Lib.hid hn
  clear hn
  go_enter Try.func44, Try.ntmps44
  go_wp2
  go_loopw [3, 9] (fun v i wr => ∃ (k : Nat) (V : Option Addr) (cv : Nat), k ≤ n ∧ i = .int .i64 k ∧ v = .slice V k cv ∧ wr.ownsRow w.heap.size 3 1 (.slice V k cv) k (ints (lvs l k)) ∧ Below w.heap.size w wr) (fun _ i _ => n - (intOf i).toNat)
  case atStart => exact ⟨0, none, 0, Nat.zero_le _, rfl, rfl, own_nil _ _ _ _, Below.refl _ _⟩
  case round =>
    obtain ⟨i, V, cv, hi, rfl, rfl, hown, hb⟩ := hrel
    have HW := Lib.hid hown
    have HB := Lib.hid hb
    clear hown hb
    by_cases hlt : i < n
    · have hil : i < l.length := by rw [HN.out]; exact hlt
      obtain ⟨b, o, rfl, hbl, hc⟩ := HR.out.at_ (by rw [accs_length]; omega)
      generalize hx : l.getD i Acc.none = x
      have HX := Lib.hid hx
      have HC := Lib.hid hc
      clear hc hx hil
      go_wp2
      obtain ⟨wo, rfl⟩ : ∃ wo : World, wo = wr := ⟨_, rfl⟩
      go_loopw [5, 6] (fun m j wi => ∃ k : Nat, k ≤ i ∧ j = .int .i64 k ∧ m = .int .i64 (lvOf x (l.take k) ((lvs l i).take k) 0) ∧ Below wo.heap.size wo wi) (fun _ j _ => i - (intOf j).toNat)
      case atStart => exact ⟨0, Nat.zero_le _, rfl, by simp [lvOf], Below.refl _ _⟩
      case round =>
        obtain ⟨k, hk, rfl, rfl, hbi⟩ := hrel
        have HBI := Lib.hid hbi
        clear hbi
        by_cases hki : k < i
        · have hkl : k < l.length := by have := HN.out; omega
          have hil : i < l.length := by have := HN.out; omega
          have hbo : b < wo.heap.size := Nat.lt_of_lt_of_le hbl HB.out.size
          have hcr : ∀ k v, (accs l)[k]? = some v → wr.cell? ⟨b, o + k, none⟩ = some v := fun k v hk => by
            rw [HBI.out.cell (p := ⟨b, o + k, none⟩) hbo, HB.out.cell (p := ⟨b, o + k, none⟩) hbl]; exact HC.out k v hk
          generalize hy : l.getD k Acc.none = y
          obtain ⟨c0, c1, c2, c3, c4, c5, c6⟩ := acc_cells hcr hkl hy
          obtain ⟨d0, d1, d2, d3, d4, d5, d6⟩ := acc_cells hcr hil HX.out
          have hlen := lvs_length l i
          obtain ⟨bv, ov, rfl, hbv, hcv⟩ := (own_rd (own_below HW.out HBI.out)).at_ (by rw [ints_length]; omega)
          have v0 := hcv k _ (ints_at (by omega))
          have hm := lvOf_b x (l.take k) ((lvs l i).take k) 0 i (by omega) (by omega) (fun z hz => lvs_b l i z (List.mem_of_mem_take hz))
          have hz : 0 ≤ (lvs l i).getD k 0 ∧ (lvs l i).getD k 0 + 1 ≤ (i : Int) := lvs_b l i _ (by simp [List.getD, hlen, hki])
          have hlv := lvOf_take l i k (by omega) hki
          rw [HX.out, hy] at hlv
          have HLV := Lib.hid hlv
          have HY := Lib.hid hy
          clear hcr hcv hkl hil hy hlv hlen
          generalize lvOf x (l.take k) ((lvs l i).take k) 0 = m at *
          generalize (lvs l i).getD k 0 = z at *
          obtain ⟨hm1, hm2⟩ := hm
          obtain ⟨hz1, hz2⟩ := hz
          have k0 := cell_regrown c0
          have j0 := cell_regrown d0
          have k1 := cell_regrown c1
          have j1 := cell_regrown d1
          have k2 := cell_regrown c2
          have j2 := cell_regrown d2
          have k3 := cell_regrown c3
          have j3 := cell_regrown d3
          have k4 := cell_regrown c4
          have j4 := cell_regrown d4
          have k5 := cell_regrown c5
          have j5 := cell_regrown d5
          have k6 := cell_regrown c6
          have j6 := cell_regrown d6
          have kv := cell_regrown v0
          have q1 : (0 : Int) ≤ (k : Int) := by omega
          have q2 : (k : Int) < (n : Int) := by omega
          have q3 : (0 : Int) ≤ (i : Int) := by omega
          have q4 : (i : Int) < (n : Int) := by omega
          have q5 : (k : Int) < (i : Int) := by omega
          cases hfr : freeB y x
          all_goals rcases Int.lt_or_le z m with hzm | hzm
          all_goals
            go_wp2
            refine wp_region_quiet_below (by kernel_rfl) (by kernel_rfl) ?_
            repeat (quiet_step ((go_at_call 46; exact Calls.regrown_of (rFree_any y x _))))
            refine wpQuiet_nil ?_
            intro _ hw'
            obtain ⟨⟨dq, osq⟩, hw''⟩ := hw'
            subst hw''
            go_wp2
            refine ⟨⟨k + 1, by omega, by go_num, ?_, HBI.out.trans ((below_regrown _ dq osq).mono HBI.out.size)⟩, by simp [intOf]; omega⟩
            rw [HLV.out, hfr]
            simp only [Bool.false_eq_true, if_true, if_false] <;> first | rfl | (congr 1; omega)
        · obtain rfl : k = i := by omega
          have hlen := lvs_length l k
          rw [List.take_of_length_le (l := lvs l k) (by omega), ← HX.out]
          have hown := own_below HW.out HBI.out
          have HOWN := Lib.hid hown
          have HBW := Lib.hid (HB.out.trans (HBI.out.mono HB.out.size))
          clear hown
          generalize hz : lvOf (l.getD k Acc.none) (l.take k) (lvs l k) 0 = z
          have HZ := Lib.hid hz
          clear hz
          go_wp2_with (at_builtin; refine append_int (.tmp 40) (.tmp 42) rfl rfl w.heap.size V k cv (lvs l k) z wr.heap.size 1 rfl (own_below HOWN.out ((Below.refl _ _).alloc (Nat.le_refl _) _)) rfl (new1 _ _ _) (by omega) (Nat.le_trans HBW.out.size (by simp)) ?_; intro V' cv' w1 hown1 hb1 _)
          refine ⟨⟨k + 1, V', cv', by omega, by go_num, rfl, ?_, ?_⟩, by simp [intOf]; omega⟩
          · rw [lvs, HZ.out]; exact hown1
          · exact (HBW.out.alloc HBW.out.size _).trans hb1
    · go_wp2
      go_ret
      obtain rfl : i = n := by omega
      unfold RetInts
      rw [lvs_length]
      exact ⟨_, _, rfl, own_rd HW.out, HB.out⟩

end Go.Proofs.Ytmllbailfbjoeaa

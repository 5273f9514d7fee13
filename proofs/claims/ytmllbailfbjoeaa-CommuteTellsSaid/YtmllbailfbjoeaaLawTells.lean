/- The law CommuteTells, walked: which accesses may change places, how deep they lie, in which order they stand. -/
import Derived.Test.YtmllbailfbjoeaaRNormal2
import Derived.Test.YtmllbailfbjoeaaRClash
import Derived.Test.YtmllbailfbjoeaaAwake28
import Derived.Test.YtmllbailfbjoeaaEq
namespace Go.Proofs.Ytmllbailfbjoeaa
open Go.RowKit Go.Sort
attribute [local go_sem ↓] Go.wp_at_zero Go.wp_at_succ

theorem box_at {w : World} (x : Acc) {g : Nat} (h : w.heap[g]? = some (.cells #[.int .i64 x.thread, .int .i64 x.kind, .int .i64 x.addr, .int .u64 x.want, .int .u64 x.old, .int .u64 x.now, .bool x.ok] 44 (0, 0))) :
    w.cell? ⟨g, 0, none⟩ = some (.int .i64 x.thread) ∧ w.cell? ⟨g, 1, none⟩ = some (.int .i64 x.kind) ∧ w.cell? ⟨g, 2, none⟩ = some (.int .i64 x.addr) ∧ w.cell? ⟨g, 3, none⟩ = some (.int .u64 x.want) ∧ w.cell? ⟨g, 4, none⟩ = some (.int .u64 x.old) ∧ w.cell? ⟨g, 5, none⟩ = some (.int .u64 x.now) ∧ w.cell? ⟨g, 6, none⟩ = some (.bool x.ok) := by
  have hb : Blk w g 44 x.cells := h
  exact ⟨hb.cell rfl, hb.cell rfl, hb.cell rfl, hb.cell rfl, hb.cell rfl, hb.cell rfl, hb.cell rfl⟩

theorem below_drew {B : Nat} {W w : World} (h : Below B W.drew w) : Below B W w := ⟨h.os, h.tape, h.output, h.size, h.block⟩

set_option maxHeartbeats 16000000 in
set_option maxRecDepth 100000 in
theorem LawTells_any (B : Option Addr) (d : Nat) (l : List Acc) (a b : Acc) (i : Int) (w : World) (hlm : l.length ≤ maxLen) (hld : l.length ≤ d) (hi1 : -9223372036854775808 ≤ i) (hi2 : i ≤ 9223372036854775807) (hB : Rd w B (accs l)) :
    Calls Try.prog 6 #[.slice B l.length d, accV a, accV b, .int .i64 i] w fun e w' => e = .returned (.bool true) ∧ Below w.heap.size w w' := by
  unfold maxLen at hlm
  have HB := Lib.hid hB
  clear hB
  unfold accV
  by_cases h120 : 120 < l.length
  · have g : (120 : Int) < (l.length : Int) := by omega
    generalize l.length = m at *
    go_enter Try.func6, Try.ntmps6
    go_wp2_with fail
    refine (awake28_any _).mono ?_
    rintro er w1 ⟨rfl, hb1⟩
    go_wp2
    go_ret
    exact ⟨rfl, (((Below.refl _ _).alloc (Nat.le_refl _) _).alloc (by simp) _).trans (hb1.mono (by simp; omega))⟩
  · have HSW := Lib.hid (fun W h => Swapped_any B d l i W (by omega) hi1 hi2 h)
    have HRL := Lib.hid (fun W h => rLevels_any B d l W (by omega) h)
    have HLV := Lib.hid (fun W h => Levels_any B d l W (by omega) hld h)
    have HDP := Lib.hid (fun W h => Depth_any B d l W (by omega) hld h)
    have HC1 := Lib.hid (fun W h => Clashes_any B d l W (by omega) hld h)
    have HC2 := Lib.hid (fun W h => rClashes_any B d l W (by omega) h)
    have HNM := Lib.hid (fun W h => Normal_any B d l W (by omega) hld h)
    have HRN := Lib.hid (fun W h => rNormal_any B d l W (by omega) h)
    have HLN := Lib.hid (lvs_length l l.length)
    have HLB := Lib.hid (lvs_b l l.length)
    have HMAY : RowKit.Hid (mayB l i = (decide (0 ≤ i) && decide (i < (l.length : Int) - 1) && freeB (l.getD i.toNat Acc.none) (l.getD (i.toNat + 1) Acc.none))) := Lib.hid rfl
    have HSL : RowKit.Hid ((if mayB l i = true then swapS l i.toNat else l).length = l.length) := Lib.hid (by split <;> simp [swapS])
    have g : ¬ ((120 : Int) < (l.length : Int)) := by omega
    generalize hm : l.length = m at *
    have HM := Lib.hid hm
    clear hm
    go_enter Try.func6, Try.ntmps6
    go_wp2_with fail
    obtain ⟨W0, hW0⟩ : ∃ W0, W0 = ((w.alloc (.cells #[.int .i64 a.thread, .int .i64 a.kind, .int .i64 a.addr, .int .u64 a.want, .int .u64 a.old, .int .u64 a.now, .bool a.ok] 44)).alloc (.cells #[.int .i64 b.thread, .int .i64 b.kind, .int .i64 b.addr, .int .u64 b.want, .int .u64 b.old, .int .u64 b.now, .bool b.ok] 44)) := ⟨_, rfl⟩
    have hbA := box_at (w := W0) a (g := w.heap.size) (by rw [hW0, Below.heap_alloc _ _ _ (by simp)]; exact heap_alloc_new w _)
    have hbB := box_at (w := W0) b (g := w.heap.size + 1) (by rw [hW0]; have h := heap_alloc_new (w.alloc (.cells #[.int .i64 a.thread, .int .i64 a.kind, .int .i64 a.addr, .int .u64 a.want, .int .u64 a.old, .int .u64 a.now, .bool a.ok] 44)) (.cells #[.int .i64 b.thread, .int .i64 b.kind, .int .i64 b.addr, .int .u64 b.want, .int .u64 b.old, .int .u64 b.now, .bool b.ok] 44); simpa using h)
    have hsz0 : w.heap.size + 1 < W0.heap.size := by rw [hW0]; simp
    have hb0 : Below w.heap.size w W0 := by rw [hW0]; exact ((Below.refl _ _).alloc (Nat.le_refl _) _).alloc (by simp) _
    rw [← hW0]
    clear hW0
    have HBA := Lib.hid hbA
    have HBB := Lib.hid hbB
    have HB0 := Lib.hid hb0
    clear hbA hbB hb0
    refine (HRL.out _ (HB.out.below HB0.out)).mono ?_
    rintro er w1 ⟨L, cl, rfl, hrd, hb1⟩
    rw [HLN.out]
    have HRD := Lib.hid hrd
    have HB1 := Lib.hid hb1
    clear hrd hb1
    go_wp2
    go_loop [9, 22] (fun s j => ∃ k : Nat, k ≤ m ∧ j = .int .i64 k ∧ s = .int .i64 (depthS ((lvs l m).take k))) (fun _ j => m - (intOf j).toNat)
    case atStart => exact ⟨0, Nat.zero_le _, rfl, rfl⟩
    case round =>
      obtain ⟨k, hk, rfl, rfl⟩ := hrel
      by_cases hlt : k < m
      · have hkl : k < (lvs l m).length := by rw [HLN.out]; exact hlt
        obtain ⟨bl, o, rfl, hbl, hc⟩ := HRD.out.at_ (by rw [ints_length]; omega)
        have x1 := hc k _ (ints_at hkl)
        have hd := depth_take (lvs l m) k hkl
        have hz := HLB.out ((lvs l m).getD k 0) (by simp [List.getD, hkl])
        have hm := depth_b ((lvs l m).take k) m (by omega) (fun x hx => HLB.out x (List.mem_of_mem_take hx))
        have HD := Lib.hid hd
        clear hc hd hkl
        generalize (lvs l m).getD k 0 = z at *
        generalize depthS ((lvs l m).take k) = q at *
        obtain ⟨z1, z2⟩ := hz
        obtain ⟨m1, m2⟩ := hm
        have hq : (if q < z + 1 then z + 1 else q) = max q (z + 1) := by split <;> omega
        go_wp2
        all_goals
          go_round
          case rel => exact ⟨k + 1, by omega, by go_num, by first | (rw [HD.out]; done) | (rw [HD.out]; congr 1; omega)⟩
          case measure => simp [intOf]; omega
      · obtain rfl : k = m := by omega
        rw [List.take_of_length_le (l := lvs l k) (by rw [HLN.out]; omega)]
        go_wp2_with fail
        refine (HSW.out _ ((HB.out.below HB0.out).below HB1.out)).mono ?_
        rintro er w2 ⟨A2, c2, rfl, _, _, hb2⟩
        rw [HSL.out]
        have hBW : Below W0.heap.size W0 w2 := HB1.out.trans (hb2.mono HB1.out.size)
        have HBW := Lib.hid hBW
        clear hb2 hBW
        go_upto_region 10 with (fail)
        have HCR : RowKit.Hid (∀ bb o, B = some ⟨bb, o, none⟩ → bb < w.heap.size → ∀ j v, w.cell? ⟨bb, o + j, none⟩ = some v → w2.cell? ⟨bb, o + j, none⟩ = some v) := Lib.hid (fun bb o _ hlt j v hj => by
          rw [HBW.out.cell (p := ⟨bb, o + j, none⟩) (Nat.lt_of_lt_of_le hlt HB0.out.size), HB0.out.cell (p := ⟨bb, o + j, none⟩) hlt]; exact hj)
        go_cut [14] (fun s14 wx => s14 = .bool (mayB l i) ∧ Below w2.heap.size w2 wx)
        case first =>
          have HF := Lib.hid (rFree_any a b)
          by_cases h0 : 0 ≤ i
          · have t1 : decide (0 ≤ i) = true := by simpa using h0
            have t3 : IntKind.i64.wrap ((k : Int) - 1) = (k : Int) - 1 := IntWalk.i64_in _ (by omega)
            by_cases h1 : i < (k : Int) - 1
            · have t2 : decide (i < (k : Int) - 1) = true := by simpa using h1
              obtain ⟨bb, o, rfl, hbl, hc⟩ := HB.out.at_ (by rw [accs_length, HM.out]; omega)
              obtain ⟨n, rfl⟩ := Int.eq_ofNat_of_zero_le h0
              have hcr : ∀ j v, (accs l)[j]? = some v → w2.cell? ⟨bb, o + j, none⟩ = some v := fun j v hj => HCR.out bb o rfl hbl j v (hc j v hj)
              generalize hx : l.getD n Acc.none = x
              generalize hy : l.getD (n + 1) Acc.none = y
              obtain ⟨c0, c1, c2, c3, c4, c5, c6⟩ := acc_cells hcr (by rw [HM.out]; omega) hx
              obtain ⟨d0, d1, d2, d3, d4, d5, d6⟩ := acc_cells hcr (by rw [HM.out]; omega) hy
              have hma := HMAY.out
              rw [t1, t2, Int.toNat_natCast, hx, hy] at hma
              simp only [Bool.true_and] at hma
              have HMA := Lib.hid hma
              clear hma hx hy hc hcr HF
              have HF := Lib.hid (rFree_any x y)
              have q1 : (0 : Int) ≤ (n : Int) := by omega
              have q2 : (n : Int) < (k : Int) := by omega
              have q3 : (0 : Int) ≤ (n : Int) + 1 := by omega
              have q4 : (n : Int) + 1 < (k : Int) := by omega
              have q5 : IntKind.i64.wrap ((n : Int) + 1) = (n : Int) + 1 := IntWalk.i64_in _ (by omega)
              have q6 : ((n : Int) + 1).toNat = n + 1 := by omega
              have k0 := cell_regrown c0
              have k1 := cell_regrown c1
              have k2 := cell_regrown c2
              have k3 := cell_regrown c3
              have k4 := cell_regrown c4
              have k5 := cell_regrown c5
              have k6 := cell_regrown c6
              have j0 := cell_regrown d0
              have j1 := cell_regrown d1
              have j2 := cell_regrown d2
              have j3 := cell_regrown d3
              have j4 := cell_regrown d4
              have j5 := cell_regrown d5
              have j6 := cell_regrown d6
              refine wp_region_quiet_below (by kernel_rfl) (by kernel_rfl) ?_
              repeat (go_big_quiet_step ((go_at_call 46; exact Calls.regrown_of (HF.out _))))
              refine wpQuiet_nil ?_
              intro _ hw'
              obtain ⟨⟨dq, osq⟩, hw''⟩ := hw'
              subst hw''
              go_wp2_with fail
              go_meet
              exact ⟨by rw [HMA.out], below_regrown _ dq osq⟩
            · have t2 : decide (i < (k : Int) - 1) = false := by simpa using h1
              have hma := HMAY.out
              rw [t1, t2] at hma
              have HMA := Lib.hid hma
              clear hma
              refine wp_region_quiet_below (by kernel_rfl) (by kernel_rfl) ?_
              repeat (go_big_quiet_step ((go_at_call 46; exact Calls.regrown_of (HF.out _))))
              refine wpQuiet_nil ?_
              intro _ hw'
              obtain ⟨⟨dq, osq⟩, hw''⟩ := hw'
              subst hw''
              go_wp2_with fail
              go_meet
              exact ⟨by rw [HMA.out]; rfl, below_regrown _ dq osq⟩
          · have t1 : decide (0 ≤ i) = false := by simpa using h0
            have hma := HMAY.out
            rw [t1] at hma
            have HMA := Lib.hid hma
            clear hma
            refine wp_region_quiet_below (by kernel_rfl) (by kernel_rfl) ?_
            repeat (go_big_quiet_step ((go_at_call 46; exact Calls.regrown_of (HF.out _))))
            refine wpQuiet_nil ?_
            intro _ hw'
            obtain ⟨⟨dq, osq⟩, hw''⟩ := hw'
            subst hw''
            go_wp2_with fail
            go_meet
            exact ⟨by rw [HMA.out]; rfl, below_regrown _ dq osq⟩
        case rest =>
          obtain ⟨rfl, hbc⟩ := hcut
          have hBC : Below W0.heap.size W0 wc := HBW.out.trans (hbc.mono HBW.out.size)
          have HBC := Lib.hid hBC
          clear hbc hBC
          generalize mayB l i = mb at *
          have hmb : (mb != mb) = false := by simp
          go_upto_region 13 with (fail)
          have HRB := Lib.hid (show Rd wc B (accs l) from (HB.out.below HB0.out).below HBC.out)
          have hszc : W0.heap.size ≤ wc.heap.size := HBC.out.size
          have hgA : w.heap.size < wc.heap.size := by omega
          have hgB : w.heap.size + 1 < wc.heap.size := by omega
          obtain ⟨a0, a1, a2, a3, a4, a5, a6⟩ := HBA.out
          rw [← HBC.out.cell (p := ⟨w.heap.size, 0, none⟩) (by show w.heap.size < W0.heap.size; omega)] at a0
          rw [← HBC.out.cell (p := ⟨w.heap.size, 1, none⟩) (by show w.heap.size < W0.heap.size; omega)] at a1
          rw [← HBC.out.cell (p := ⟨w.heap.size, 2, none⟩) (by show w.heap.size < W0.heap.size; omega)] at a2
          rw [← HBC.out.cell (p := ⟨w.heap.size, 3, none⟩) (by show w.heap.size < W0.heap.size; omega)] at a3
          rw [← HBC.out.cell (p := ⟨w.heap.size, 4, none⟩) (by show w.heap.size < W0.heap.size; omega)] at a4
          rw [← HBC.out.cell (p := ⟨w.heap.size, 5, none⟩) (by show w.heap.size < W0.heap.size; omega)] at a5
          rw [← HBC.out.cell (p := ⟨w.heap.size, 6, none⟩) (by show w.heap.size < W0.heap.size; omega)] at a6
          obtain ⟨b0, b1, b2, b3, b4, b5, b6⟩ := HBB.out
          rw [← HBC.out.cell (p := ⟨w.heap.size + 1, 0, none⟩) (by show w.heap.size + 1 < W0.heap.size; omega)] at b0
          rw [← HBC.out.cell (p := ⟨w.heap.size + 1, 1, none⟩) (by show w.heap.size + 1 < W0.heap.size; omega)] at b1
          rw [← HBC.out.cell (p := ⟨w.heap.size + 1, 2, none⟩) (by show w.heap.size + 1 < W0.heap.size; omega)] at b2
          rw [← HBC.out.cell (p := ⟨w.heap.size + 1, 3, none⟩) (by show w.heap.size + 1 < W0.heap.size; omega)] at b3
          rw [← HBC.out.cell (p := ⟨w.heap.size + 1, 4, none⟩) (by show w.heap.size + 1 < W0.heap.size; omega)] at b4
          rw [← HBC.out.cell (p := ⟨w.heap.size + 1, 5, none⟩) (by show w.heap.size + 1 < W0.heap.size; omega)] at b5
          rw [← HBC.out.cell (p := ⟨w.heap.size + 1, 6, none⟩) (by show w.heap.size + 1 < W0.heap.size; omega)] at b6
          have HIN : RowKit.Hid (∀ L3 L4 c3 c4 W, Rd W L3 (ints (lvs l k)) → Rd W L4 (ints (lvs l k)) → Calls Try.prog 35 #[.slice L3 k c3, .slice L4 k c4] W fun e w' => e = .returned (.bool true) ∧ Below W.heap.size W w') := Lib.hid (fun L3 L4 c3 c4 W h1 h2 => by
            have h := Ints_any L3 L4 c3 c4 (lvs l k) (lvs l k) W (by rw [HLN.out]; unfold maxLen; omega) (by rw [HLN.out]; unfold maxLen; omega) h1 h2
            rw [HLN.out, show (lvs l k == lvs l k) = true from beq_self_eq_true _] at h
            exact h)
          have HLG : RowKit.Hid (∀ (q : List Acc) A6 A7 c6 c7 W, q.length = k → Rd W A6 (accs q) → Rd W A7 (accs q) → Calls Try.prog 49 #[.slice A6 k c6, .slice A7 k c7] W fun e w' => e = .returned (.bool true) ∧ Below W.heap.size W w') := Lib.hid (fun q A6 A7 c6 c7 W hq h1 h2 => by
            have h := Log_any A6 A7 c6 c7 q q W (by rw [hq]; unfold maxLen; omega) (by rw [hq]; unfold maxLen; omega) h1 h2
            rw [hq, show (q == q) = true from beq_self_eq_true _] at h
            exact h)
          have HFIN := Lib.hid (show Below w.heap.size w wc from HB0.out.trans (HBC.out.mono HB0.out.size))
          clear HBA HBB
          go_region_held3? (fun w' => w'.cell? ⟨w.heap.size, 0, none⟩ = some (.int .i64 a.thread) ∧ w'.cell? ⟨w.heap.size, 1, none⟩ = some (.int .i64 a.kind) ∧ w'.cell? ⟨w.heap.size, 2, none⟩ = some (.int .i64 a.addr) ∧ w'.cell? ⟨w.heap.size, 3, none⟩ = some (.int .u64 a.want) ∧ w'.cell? ⟨w.heap.size, 4, none⟩ = some (.int .u64 a.old) ∧ w'.cell? ⟨w.heap.size, 5, none⟩ = some (.int .u64 a.now) ∧ w'.cell? ⟨w.heap.size, 6, none⟩ = some (.bool a.ok) ∧ w'.cell? ⟨w.heap.size + 1, 0, none⟩ = some (.int .i64 b.thread) ∧ w'.cell? ⟨w.heap.size + 1, 1, none⟩ = some (.int .i64 b.kind) ∧ w'.cell? ⟨w.heap.size + 1, 2, none⟩ = some (.int .i64 b.addr) ∧ w'.cell? ⟨w.heap.size + 1, 3, none⟩ = some (.int .u64 b.want) ∧ w'.cell? ⟨w.heap.size + 1, 4, none⟩ = some (.int .u64 b.old) ∧ w'.cell? ⟨w.heap.size + 1, 5, none⟩ = some (.int .u64 b.now) ∧ w'.cell? ⟨w.heap.size + 1, 6, none⟩ = some (.bool b.ok)) (first | go_keep | (simp only [hkA, hkB]; go_keep)) (first
            | (go_at_call 47; refine (Free_any a b _).mono ?_; rintro er v1 ⟨rfl, hb⟩; have H1 := Lib.hid (show Below wc.heap.size wc v1 from below_drew hb); clear hb; have hkA := fun o => H1.out.cell (p := ⟨w.heap.size, o, none⟩) hgA; have hkB := fun o => H1.out.cell (p := ⟨w.heap.size + 1, o, none⟩) hgB)
            | (go_at_call 46; refine (rFree_any a b _).mono ?_; rintro er v2 ⟨rfl, hb⟩; have H2 := Lib.hid (show Below wc.heap.size wc v2 from H1.out.trans (hb.mono H1.out.size)); clear hb; have hkA := fun o => H2.out.cell (p := ⟨w.heap.size, o, none⟩) hgA; have hkB := fun o => H2.out.cell (p := ⟨w.heap.size + 1, o, none⟩) hgB)
            | (go_at_call 48; refine (HLV.out _ (HRB.out.below H2.out)).mono ?_; rintro er v3 ⟨L3, c3, rfl, hr, hb⟩; have H3 := Lib.hid (show Below wc.heap.size wc v3 from H2.out.trans (hb.mono H2.out.size)); rw [HLN.out]; have R3 := Lib.hid hr; clear hr; clear hb; have hkA := fun o => H3.out.cell (p := ⟨w.heap.size, o, none⟩) hgA; have hkB := fun o => H3.out.cell (p := ⟨w.heap.size + 1, o, none⟩) hgB)
            | (go_at_call 44; refine (HRL.out _ (HRB.out.below H3.out)).mono ?_; rintro er v4 ⟨L4, c4, rfl, hr, hb⟩; have H4 := Lib.hid (show Below wc.heap.size wc v4 from H3.out.trans (hb.mono H3.out.size)); rw [HLN.out]; have R4 := Lib.hid hr; have R34 := Lib.hid (R3.out.below hb); clear hr; clear hb; have hkA := fun o => H4.out.cell (p := ⟨w.heap.size, o, none⟩) hgA; have hkB := fun o => H4.out.cell (p := ⟨w.heap.size + 1, o, none⟩) hgB)
            | (go_at_call 35; refine (HIN.out L3 L4 c3 c4 _ R34.out R4.out).mono ?_; rintro er v5 ⟨rfl, hb⟩; have H5 := Lib.hid (show Below wc.heap.size wc v5 from H4.out.trans (hb.mono H4.out.size)); clear hb; have hkA := fun o => H5.out.cell (p := ⟨w.heap.size, o, none⟩) hgA; have hkB := fun o => H5.out.cell (p := ⟨w.heap.size + 1, o, none⟩) hgB)
            | (go_at_call 50; refine (HNM.out _ (HRB.out.below H5.out)).mono ?_; rintro er v6 ⟨os, hp, hr0, A6, c6, rfl, hr, _, hb⟩; have H6 := Lib.hid (show Below wc.heap.size wc v6 from H5.out.trans (hb.mono H5.out.size)); have O6 := Lib.hid (show IsOrder l os from ⟨hp, hr0⟩); have E6 := Lib.hid (show (os.map fun i => l.getD i.toNat Acc.none).length = k from (by rw [List.length_map, O6.out.len, HM.out])); rw [E6.out]; have R6 := Lib.hid hr; clear hr hp hr0; clear hb; have hkA := fun o => H6.out.cell (p := ⟨w.heap.size, o, none⟩) hgA; have hkB := fun o => H6.out.cell (p := ⟨w.heap.size + 1, o, none⟩) hgB)
            | (go_at_call 51; refine (HRN.out _ (HRB.out.below H6.out)).mono ?_; rintro er v7 ⟨os', hso, A7, c7, rfl, hr, hb⟩; have H7 := Lib.hid (show Below wc.heap.size wc v7 from H6.out.trans (hb.mono H6.out.size)); have E7 := Lib.hid (show os' = os from hso.same O6.out); have R7 := Lib.hid (show Rd v7 A7 (accs (os.map fun i => l.getD i.toNat Acc.none)) from (by rw [← E7.out]; exact hr)); have L7 := Lib.hid (show (os'.map (at_ l)).length = k from (by rw [E7.out]; exact E6.out)); rw [L7.out]; have R67 := Lib.hid (R6.out.below hb); clear hr hso; clear hb; have hkA := fun o => H7.out.cell (p := ⟨w.heap.size, o, none⟩) hgA; have hkB := fun o => H7.out.cell (p := ⟨w.heap.size + 1, o, none⟩) hgB)
            | (go_at_call 49; refine (HLG.out _ A6 A7 c6 c7 _ E6.out R67.out R7.out).mono ?_; rintro er v8 ⟨rfl, hb⟩; have H8 := Lib.hid (show Below wc.heap.size wc v8 from H7.out.trans (hb.mono H7.out.size)); clear hb; have hkA := fun o => H8.out.cell (p := ⟨w.heap.size, o, none⟩) hgA; have hkB := fun o => H8.out.cell (p := ⟨w.heap.size + 1, o, none⟩) hgB)
            | (go_at_call 52; refine (HDP.out _ (HRB.out.below H8.out)).mono ?_; rintro er v9 ⟨rfl, hb⟩; have H9 := Lib.hid (show Below wc.heap.size wc v9 from H8.out.trans (hb.mono H8.out.size)); clear hb; have hkA := fun o => H9.out.cell (p := ⟨w.heap.size, o, none⟩) hgA; have hkB := fun o => H9.out.cell (p := ⟨w.heap.size + 1, o, none⟩) hgB)
            | (go_at_call 53; refine (HC1.out _ (HRB.out.below H9.out)).mono ?_; rintro er v10 ⟨rfl, hb⟩; have H10 := Lib.hid (show Below wc.heap.size wc v10 from H9.out.trans (hb.mono H9.out.size)); clear hb; have hkA := fun o => H10.out.cell (p := ⟨w.heap.size, o, none⟩) hgA; have hkB := fun o => H10.out.cell (p := ⟨w.heap.size + 1, o, none⟩) hgB)
            | (go_at_call 54; refine (HC2.out _ (HRB.out.below H10.out)).mono ?_; rintro er v11 ⟨rfl, hb⟩; have H11 := Lib.hid (show Below wc.heap.size wc v11 from H10.out.trans (hb.mono H10.out.size)); clear hb; have hkA := fun o => H11.out.cell (p := ⟨w.heap.size, o, none⟩) hgA; have hkB := fun o => H11.out.cell (p := ⟨w.heap.size + 1, o, none⟩) hgB)
            | (go_at_call 43; refine (awake28_any _).mono ?_; rintro er v12 ⟨rfl, hb⟩; have H12 := Lib.hid (show Below wc.heap.size wc v12 from H11.out.trans (hb.mono H11.out.size)); clear hb; have hkA := fun o => H12.out.cell (p := ⟨w.heap.size, o, none⟩) hgA; have hkB := fun o => H12.out.cell (p := ⟨w.heap.size + 1, o, none⟩) hgB))
          all_goals go_wp2
          all_goals
            go_ret
            exact ⟨rfl, HFIN.out.trans (H12.out.mono HFIN.out.size)⟩

end Go.Proofs.Ytmllbailfbjoeaa

/- slices.symMergeCmpFunc over numbers: the case of one number ahead. -/
import Derived.Test.YtieglgahfeecbaaGreatDoorP1
import Derived.Test.YtieglgahfeecbaaGreatDoorP2
import Derived.Test.YtieglgahfeecbaaGreatDoorP11
set_option maxHeartbeats 64000000
set_option maxRecDepth 100000
namespace Go.Proofs.YtieglgahfeecbaaGreatDoor
open Go.RowKit Go.Sort
attribute [local go_sem ↓] Go.wp_at_zero Go.wp_at_succ
abbrev noteZ : Value := .agg #[.int .i64 0, .int .i64 0, .int .i64 0, .int .i64 0, .int .i64 0, .int .i64 0, .int .i64 0, .bool false, .slice none 0 0, .int .i64 0, .int .i64 0, .int .i64 0, .int .i64 0]
theorem noteZ_info : (Tryz.prog.info? 44).map (fun i => (i.zero, i.size, i.bytes)) = some (some noteZ, 13, 120) := by kernel_rfl
theorem CloneN_any (A : Option Addr) (n c : Nat) (xs : List Value) (w : World) (hn : n * 120 <= 140737488355328) (hx : xs.length = n * 13) (h1 : ∀ u ∈ xs, u.oneCell' = true) (hR : Rd w A xs) :
  Calls Tryz.prog 24 #[.slice A n c] w (RetOwn 44 13 n xs w) := by
 have HR := Zd hR
 have HX := Zd hx
 have H1 := Zd h1
 clear hR hx h1
 rcases A with _ | ad
 . have hxs : xs = [] := by
    rcases HR.out with h | ⟨b, o, h, _⟩
    . exact h
    . cases h
   obtain rfl : n = 0 := by have := HX.out; rw [hxs] at this; simp at this; omega
   have hnil := fun w => Lib.run_eql_slice_nil (P := Tryz.prog) w 25 44 none 0 c 0 0 Tryz.underlying25
   go_enter Tryz.func24, Tryz.ntmps24
   go_wp2
   go_ret
   exact ⟨none, 0, rfl, by rw [hxs]; exact own_nil _ _ _ _, Below.refl _ _⟩
 . have hnil := fun w => Lib.run_eql_slice_nil (P := Tryz.prog) w 25 44 (some ad) n c 0 0 Tryz.underlying25
   obtain ⟨i0, hi, hz0, hz1, hz2⟩ := info_parts noteZ_info
   have hnm : n <= maxLen := by unfold maxLen; omega
   have HI := Zd (And.intro hi (And.intro hz0 (And.intro hz1 (And.intro hz2 hnm))))
   clear hi hz0 hz1 hz2 hnm
   go_enter Tryz.func24, Tryz.ntmps24
   go_wp2_with (at_builtin; refine wpList_append_own _ rfl (.tmp 5) (.tmp 6) 25 rfl w.heap.size 44 i0 (noteZ) 13 120 Tryz.underlying25 HI.out.1 HI.out.2.1 HI.out.2.2.1 HI.out.2.2.2.1 rfl (by decide) (.slice (some ⟨w.heap.size, 0, none⟩) 0 0) 0 [] rfl (own_empty w 44 13) ad n c xs rfl HX.out (rd_add (HR.out.alloc _)) H1.out (by have := HI.out.2.2.2.2; omega) (by omega) (by simp) ?_; intro v' w1 hown1 hg1 hnl1)
   go_ret
   have hown2 : w1.ownsRow w.heap.size 44 13 v' n xs := by simpa using hown1
   have hb := ((Below.refl _ w).alloc (Nat.le_refl _) _).trans ((own_grown (own_empty w 44 13) (by simp) hg1))
   rcases hown2.2 with ⟨rfl, h0⟩ | ⟨g, cap, cur, rfl, _⟩
   . subst h0
     exact ⟨none, 0, rfl, hown2, hb⟩
   . exact ⟨_, _, rfl, hown2, hb⟩
def fstN : List Nte -> Nat -> Nat
 | [], _ => 0
 | x :: r, left => if x.kind = 1 then (if left = 0 then 0 else fstN r (left - 1) + 1) else fstN r left + 1
theorem fstN_le : ∀ (l : List Nte) (left : Nat), fstN l left <= l.length
 | [], _ => Nat.le_refl _
 | x :: r, left => by
   unfold fstN
   have h1 := fstN_le r (left - 1)
   have h2 := fstN_le r left
   simp only [List.length_cons]
   split
   . split <;> omega
   . omega
theorem fstN_drop (l : List Nte) (k left : Nat) (hk : k < l.length) : fstN (l.drop k) left = if (l.getD k Nte.none).kind = 1 then (if left = 0 then 0 else fstN (l.drop (k + 1)) (left - 1) + 1) else fstN (l.drop (k + 1)) left + 1 := by
 rw [List.drop_eq_getElem_cons hk, show l.getD k Nte.none = l[k] from by simp [List.getD, hk]]
 rfl
theorem First_any (A : Option Addr) (c : Nat) (l : List Nte) (z : Int) (w : World) (hl : l.length <= 1048576) (hlc : l.length <= c) (hz2 : z <= 9223372036854775807) (hR : Rd w A (rows l)) :
  Calls Tryz.prog 11 #[.slice A l.length c, .int .i64 z] w (RetOwn 44 13 (fstN l (max z 0).toNat) (rows (l.take (fstN l (max z 0).toNat))) w) := by
 have HR := Zd hR
 obtain ⟨m0, hm0⟩ : ∃ m : Nat, (max z 0).toNat = m := ⟨_, rfl⟩
 have HM0 : Hid (max z 0 = (m0 : Int)) := Zd (by rw [<- hm0, Int.toNat_of_nonneg (Int.le_max_right z 0)])
 have HML : Hid (m0 <= 9223372036854775807) := Zd (by have := HM0.out; omega)
 rw [hm0]
 clear hR hm0 hz2
 generalize hn : l.length = n at *
 have HN := Zd hn
 clear hn
 by_cases hz : 0 <= z
 . obtain rfl : z = (m0 : Int) := by have := HM0.out; omega
   clear HM0
   go_enter Tryz.func11, Tryz.ntmps11
   go_wp2
   go_loopw [5, 12] (fun lf i wr => ∃ k left : Nat, k <= n /\ i = .int .i64 k /\ lf = .int .i64 left /\ left <= 9223372036854775807 /\ fstN l m0 = k + fstN (l.drop k) left /\ Below w.heap.size w wr) (fun _ i _ => n - (intOf i).toNat)
   case atStart => exact ⟨0, m0, Nat.zero_le _, rfl, rfl, HML.out, by simp, Below.refl _ _⟩
   case round =>
    obtain ⟨k, left, hk, rfl, rfl, hlf, hfs, hb⟩ := hrel
    have HFS := Zd hfs
    have HB := Zd hb
    have HLF := Zd hlf
    clear hfs hb hlf
    by_cases hlt : k < n
    . have hkl : k < l.length := by rw [HN.out]; exact hlt
      obtain ⟨b, o, rfl, hbl, hc⟩ := HR.out.at_ (by rw [rows_length]; exact Nat.mul_pos (by omega) (by decide))
      generalize hx : l.getD k Nte.none = x
      obtain ⟨c0, c1, c2, c3, c4, c5, c6, c7, c8, c9, c10, c11, c12⟩ := note_cells (fun j v hj => by rw [HB.out.cell (p := ⟨b, o + j, none⟩) hbl]; exact hc j v hj) hkl hx
      have HD := Zd (fstN_drop l k left hkl)
      rw [hx] at HD
      have q1 : (0 : Int) <= (k : Int) := by omega
      have q2 : (k : Int) < (n : Int) := by omega
      have q3 : k <= c := Nat.le_trans (Nat.le_of_lt hlt) hlc
      have q4 : (k : Int) <= (c : Int) := by omega
      have HBOX : Hid (Blk (wr.alloc (nbox x)) wr.heap.size 44 x.cells) := Zd (Blk.new wr 44 x.cells)
      have HB2 := Zd (HB.out.trans (((Below.refl wr.heap.size wr).alloc (Nat.le_refl _) (nbox x)).mono HB.out.size))
      clear hc hx
      go_upto_region 5 with (fail)
      have b0 := HBOX.out.cell (i := 0) rfl
      clear c0 c1 c2 c3 c4 c5 c6 c7 c8 c9 c10 c11 c12
      generalize (wr.alloc (nbox x)) = W1 at *
      by_cases k1 : x.kind = 1
      . have g1 : (x.kind == 1) = true := by simp [k1]
        have HD1 := HD.out
        rw [if_pos k1] at HD1
        clear k1
        rcases Nat.eq_zero_or_pos left with rfl | hp
        . have HZ := Zd HD1
          clear HD1
          have HFE : Hid (fstN l m0 = k) := Zd (by rw [HFS.out, HZ.out]; rfl)
          have hka : (if c = 0 then some (⟨b, o, none⟩ : Addr) else some ⟨b, o + 0 * 13, none⟩) = some ⟨b, o, none⟩ := by simp
          have HCL := Zd (CloneN_any (some ⟨b, o, none⟩) k c (rows (l.take k)) W1 (by omega) (by rw [rows_length, List.length_take, Nat.min_eq_left (Nat.le_of_lt hkl)]; rfl) (rows_one _) (by rw [<- rows_take]; exact rd_take (HR.out.below HB2.out) _))
          clear HFS HZ HD HLF
          go_wp2_with (first | (refine HCL.out.mono ?_; rintro e w2 ⟨A2, c2, rfl, ho2, hb2⟩))
          go_ret
          rw [HFE.out]
          exact ⟨A2, c2, rfl, own_lower ho2 HB2.out.size, HB2.out.trans (hb2.mono HB2.out.size)⟩
        . rw [if_neg (by omega)] at HD1
          have HZ := Zd HD1
          have g2 : (left == 0) = false := by simp; omega
          have hm : RowKit.wrap64 ((left : Int) - 1) = ((left - 1 : Nat) : Int) := by have := HLF.out; unfold RowKit.wrap64; omega
          clear HD1
          go_wp2_with fail
          go_roundw
          case measure => simp [intOf]; omega
          case rel => exact ⟨k + 1, left - 1, by omega, by go_num, by first | rw [hm] | go_num, by have := HLF.out; omega, by rw [HFS.out, HZ.out]; omega, HB2.out⟩
      . have g1 : (x.kind == 1) = false := by simp [k1]
        have HD1 := HD.out
        rw [if_neg k1] at HD1
        have HZ := Zd HD1
        clear k1 HD1
        go_wp2_with fail
        go_roundw
        case measure => simp [intOf]; omega
        case rel => exact ⟨k + 1, left, by omega, by go_num, rfl, HLF.out, by rw [HFS.out, HZ.out]; omega, HB2.out⟩
    . obtain rfl : k = n := by omega
      have HE : Hid (fstN l m0 = k) := Zd (by rw [HFS.out, List.drop_of_length_le (by rw [HN.out]; exact Nat.le_refl _)]; rfl)
      have HT : Hid (l.take k = l) := Zd (List.take_of_length_le (by rw [HN.out]; exact Nat.le_refl _))
      have HCL := Zd (CloneN_any A k c (rows l) wr (by omega) (by rw [rows_length, HN.out]; rfl) (rows_one l) (HR.out.below HB.out))
      go_wp2_with (first | (refine HCL.out.mono ?_; rintro e w2 ⟨A2, c2, rfl, ho2, hb2⟩))
      go_ret
      rw [HE.out, HT.out]
      exact ⟨A2, c2, rfl, own_lower ho2 HB.out.size, HB.out.trans (hb2.mono HB.out.size)⟩
 . obtain rfl : m0 = 0 := by have := HM0.out; omega
   clear HM0
   go_enter Tryz.func11, Tryz.ntmps11
   go_wp2
   go_loopw [5, 12] (fun lf i wr => ∃ k left : Nat, k <= n /\ i = .int .i64 k /\ lf = .int .i64 left /\ left <= 9223372036854775807 /\ fstN l 0 = k + fstN (l.drop k) left /\ Below w.heap.size w wr) (fun _ i _ => n - (intOf i).toNat)
   case atStart => exact ⟨0, 0, Nat.zero_le _, rfl, rfl, by omega, by simp, Below.refl _ _⟩
   case round =>
    obtain ⟨k, left, hk, rfl, rfl, hlf, hfs, hb⟩ := hrel
    have HFS := Zd hfs
    have HB := Zd hb
    have HLF := Zd hlf
    clear hfs hb hlf
    by_cases hlt : k < n
    . have hkl : k < l.length := by rw [HN.out]; exact hlt
      obtain ⟨b, o, rfl, hbl, hc⟩ := HR.out.at_ (by rw [rows_length]; exact Nat.mul_pos (by omega) (by decide))
      generalize hx : l.getD k Nte.none = x
      obtain ⟨c0, c1, c2, c3, c4, c5, c6, c7, c8, c9, c10, c11, c12⟩ := note_cells (fun j v hj => by rw [HB.out.cell (p := ⟨b, o + j, none⟩) hbl]; exact hc j v hj) hkl hx
      have HD := Zd (fstN_drop l k left hkl)
      rw [hx] at HD
      have q1 : (0 : Int) <= (k : Int) := by omega
      have q2 : (k : Int) < (n : Int) := by omega
      have q3 : k <= c := Nat.le_trans (Nat.le_of_lt hlt) hlc
      have q4 : (k : Int) <= (c : Int) := by omega
      have HBOX : Hid (Blk (wr.alloc (nbox x)) wr.heap.size 44 x.cells) := Zd (Blk.new wr 44 x.cells)
      have HB2 := Zd (HB.out.trans (((Below.refl wr.heap.size wr).alloc (Nat.le_refl _) (nbox x)).mono HB.out.size))
      clear hc hx
      go_upto_region 5 with (fail)
      have b0 := HBOX.out.cell (i := 0) rfl
      clear c0 c1 c2 c3 c4 c5 c6 c7 c8 c9 c10 c11 c12
      generalize (wr.alloc (nbox x)) = W1 at *
      by_cases k1 : x.kind = 1
      . have g1 : (x.kind == 1) = true := by simp [k1]
        have HD1 := HD.out
        rw [if_pos k1] at HD1
        clear k1
        rcases Nat.eq_zero_or_pos left with rfl | hp
        . have HZ := Zd HD1
          clear HD1
          have HFE : Hid (fstN l 0 = k) := Zd (by rw [HFS.out, HZ.out]; rfl)
          have hka : (if c = 0 then some (⟨b, o, none⟩ : Addr) else some ⟨b, o + 0 * 13, none⟩) = some ⟨b, o, none⟩ := by simp
          have HCL := Zd (CloneN_any (some ⟨b, o, none⟩) k c (rows (l.take k)) W1 (by omega) (by rw [rows_length, List.length_take, Nat.min_eq_left (Nat.le_of_lt hkl)]; rfl) (rows_one _) (by rw [<- rows_take]; exact rd_take (HR.out.below HB2.out) _))
          clear HFS HZ HD HLF
          go_wp2_with (first | (refine HCL.out.mono ?_; rintro e w2 ⟨A2, c2, rfl, ho2, hb2⟩))
          go_ret
          rw [HFE.out]
          exact ⟨A2, c2, rfl, own_lower ho2 HB2.out.size, HB2.out.trans (hb2.mono HB2.out.size)⟩
        . rw [if_neg (by omega)] at HD1
          have HZ := Zd HD1
          have g2 : (left == 0) = false := by simp; omega
          have hm : RowKit.wrap64 ((left : Int) - 1) = ((left - 1 : Nat) : Int) := by have := HLF.out; unfold RowKit.wrap64; omega
          clear HD1
          go_wp2_with fail
          go_roundw
          case measure => simp [intOf]; omega
          case rel => exact ⟨k + 1, left - 1, by omega, by go_num, by first | rw [hm] | go_num, by have := HLF.out; omega, by rw [HFS.out, HZ.out]; omega, HB2.out⟩
      . have g1 : (x.kind == 1) = false := by simp [k1]
        have HD1 := HD.out
        rw [if_neg k1] at HD1
        have HZ := Zd HD1
        clear k1 HD1
        go_wp2_with fail
        go_roundw
        case measure => simp [intOf]; omega
        case rel => exact ⟨k + 1, left, by omega, by go_num, rfl, HLF.out, by rw [HFS.out, HZ.out]; omega, HB2.out⟩
    . obtain rfl : k = n := by omega
      have HE : Hid (fstN l 0 = k) := Zd (by rw [HFS.out, List.drop_of_length_le (by rw [HN.out]; exact Nat.le_refl _)]; rfl)
      have HT : Hid (l.take k = l) := Zd (List.take_of_length_le (by rw [HN.out]; exact Nat.le_refl _))
      have HCL := Zd (CloneN_any A k c (rows l) wr (by omega) (by rw [rows_length, HN.out]; rfl) (rows_one l) (HR.out.below HB.out))
      go_wp2_with (first | (refine HCL.out.mono ?_; rintro e w2 ⟨A2, c2, rfl, ho2, hb2⟩))
      go_ret
      rw [HE.out, HT.out]
      exact ⟨A2, c2, rfl, own_lower ho2 HB.out.size, HB.out.trans (hb2.mono HB.out.size)⟩
def kindN (z : Int) : List Nte -> Nat
 | [] => 0
 | x :: r => (if x.kind = z then 1 else 0) + kindN z r
theorem kindN_drop (z : Int) (l : List Nte) (k : Nat) (hk : k < l.length) : kindN z (l.drop k) = (if (l.getD k Nte.none).kind = z then 1 else 0) + kindN z (l.drop (k + 1)) := by
 rw [List.drop_eq_getElem_cons hk, show l.getD k Nte.none = l[k] from by simp [List.getD, hk]]
 rfl
theorem hCalls_any (A : Option Addr) (c : Nat) (l : List Nte) (w : World) (hl : l.length <= 1048576) (hR : Rd w A (rows l)) :
  Calls Tryz.prog 15 #[.slice A l.length c] w fun e w' => e = .returned (.tuple #[.int .i64 (kindN 1 l), .int .i64 (kindN 3 l)]) /\ Below w.heap.size w w' := by
 have HR := Zd hR
 clear hR
 generalize hn : l.length = n at *
 have HN := Zd hn
 clear hn
 go_enter Tryz.func15, Tryz.ntmps15
 go_wp2
 go_loopw [2, 3, 8] (fun a b i wr => ∃ k m1 m3 : Nat, k <= n /\ i = .int .i64 k /\ a = .int .i64 m1 /\ b = .int .i64 m3 /\ m1 <= k /\ m3 <= k /\ kindN 1 l = m1 + kindN 1 (l.drop k) /\ kindN 3 l = m3 + kindN 3 (l.drop k) /\ Below w.heap.size w wr) (fun _ _ i _ => n - (intOf i).toNat)
 case atStart => exact ⟨0, 0, 0, Nat.zero_le _, rfl, rfl, rfl, Nat.le_refl _, Nat.le_refl _, by simp, by simp, Below.refl _ _⟩
 case round =>
  obtain ⟨k, m1, m3, hk, rfl, rfl, rfl, hm1, hm3, h1, h3, hb⟩ := hrel
  have H1 := Zd h1
  have H3 := Zd h3
  have HB := Zd hb
  clear h1 h3 hb
  by_cases hlt : k < n
  . have hkl : k < l.length := by rw [HN.out]; exact hlt
    obtain ⟨b, o, rfl, hbl, hc⟩ := HR.out.at_ (by rw [rows_length]; exact Nat.mul_pos (by omega) (by decide))
    generalize hx : l.getD k Nte.none = x
    obtain ⟨c0, c1, c2, c3, c4, c5, c6, c7, c8, c9, c10, c11, c12⟩ := note_cells (fun j v hj => by rw [HB.out.cell (p := ⟨b, o + j, none⟩) hbl]; exact hc j v hj) hkl hx
    have HD1 := Zd (kindN_drop 1 l k hkl)
    have HD3 := Zd (kindN_drop 3 l k hkl)
    rw [hx] at HD1 HD3
    have q1 : (0 : Int) <= (k : Int) := by omega
    have q2 : (k : Int) < (n : Int) := by omega
    have HBOX : Hid (Blk (wr.alloc (nbox x)) wr.heap.size 44 x.cells) := Zd (Blk.new wr 44 x.cells)
    have HB2 := Zd (HB.out.trans (((Below.refl wr.heap.size wr).alloc (Nat.le_refl _) (nbox x)).mono HB.out.size))
    clear hc hx
    go_upto_region 4 with (fail)
    have b0 := HBOX.out.cell (i := 0) rfl
    clear c0 c1 c2 c3 c4 c5 c6 c7 c8 c9 c10 c11 c12
    generalize (wr.alloc (nbox x)) = W1 at *
    by_cases k1 : x.kind = 1
    . have g1 : (x.kind == 1) = true := by simp [k1]
      have D1 := HD1.out
      have D3 := HD3.out
      rw [if_pos k1] at D1
      rw [if_neg (by omega)] at D3
      have Z1 := Zd D1
      have Z3 := Zd D3
      clear k1 D1 D3
      go_wp2_with fail
      go_roundw
      case measure => simp [intOf]; omega
      case rel => exact ⟨k + 1, m1 + 1, m3, by omega, by go_num, by go_num, rfl, by omega, by omega, by rw [H1.out, Z1.out]; omega, by rw [H3.out, Z3.out]; omega, HB2.out⟩
    . have g1 : (x.kind == 1) = false := by simp [k1]
      by_cases k3 : x.kind = 3
      . have g3 : (x.kind == 3) = true := by simp [k3]
        have D1 := HD1.out
        have D3 := HD3.out
        rw [if_neg k1] at D1
        rw [if_pos k3] at D3
        have Z1 := Zd D1
        have Z3 := Zd D3
        clear k1 k3 D1 D3
        go_wp2_with fail
        go_roundw
        case measure => simp [intOf]; omega
        case rel => exact ⟨k + 1, m1, m3 + 1, by omega, by go_num, rfl, by go_num, by omega, by omega, by rw [H1.out, Z1.out]; omega, by rw [H3.out, Z3.out]; omega, HB2.out⟩
      . have g3 : (x.kind == 3) = false := by simp [k3]
        have D1 := HD1.out
        have D3 := HD3.out
        rw [if_neg k1] at D1
        rw [if_neg k3] at D3
        have Z1 := Zd D1
        have Z3 := Zd D3
        clear k1 k3 D1 D3
        go_wp2_with fail
        go_roundw
        case measure => simp [intOf]; omega
        case rel => exact ⟨k + 1, m1, m3, by omega, by go_num, rfl, rfl, by omega, by omega, by rw [H1.out, Z1.out]; omega, by rw [H3.out, Z3.out]; omega, HB2.out⟩
  . obtain rfl : k = n := by omega
    have HE1 : Hid (kindN 1 l = m1) := Zd (by rw [H1.out, List.drop_of_length_le (by rw [HN.out]; exact Nat.le_refl _)]; rfl)
    have HE3 : Hid (kindN 3 l = m3) := Zd (by rw [H3.out, List.drop_of_length_le (by rw [HN.out]; exact Nat.le_refl _)]; rfl)
    go_wp2_with fail
    go_ret2
    rw [HE1.out, HE3.out]
    exact ⟨rfl, HB.out⟩
def RowI (base g n c : Nat) (w : World) (xs : List Int) : Prop := w.ownsRow base 3 1 (.slice (some ⟨g, 0, none⟩) n c) n (ints xs) /\ xs.length = n
theorem RowI.cell {base g n c : Nat} {w : World} {xs : List Int} (h : RowI base g n c w xs) {k : Nat} (hk : k < n) : w.cell? ⟨g, k, none⟩ = some (.int .i64 (xs.getD k 0)) := by
 obtain ⟨b, o, he, _, hc⟩ := (own_rd h.1).at_ (by rw [ints_length, h.2]; omega)
 injection he with he
 injection he with h1 h2
 subst h1 h2
 have := hc k _ (ints_at (by rw [h.2]; exact hk))
 rwa [Nat.zero_add] at this
theorem RowI.lt {base g n c : Nat} {w : World} {xs : List Int} (h : RowI base g n c w xs) (hn : 0 < n) : g < w.heap.size := by
 obtain ⟨g', he, _, hl, _⟩ := own_form h.1 hn
 injection he with he
 injection he with h1
 subst h1
 exact hl
theorem RowI.frozen {base g n c : Nat} {w : World} {xs : List Int} (h : RowI base g n c w xs) {k : Nat} (hk : k < n) : w.frozen? ⟨g, k, none⟩ = false := by
 obtain ⟨g', he, _, _, hf, _⟩ := own_form h.1 (by omega)
 injection he with he
 injection he with h1
 subst h1
 exact hf k
theorem RowI.set_ {base g n c : Nat} {w : World} {xs : List Int} (h : RowI base g n c w xs) {k : Nat} (hk : k < n) (z : Int) : RowI base g n c (w.setCell ⟨g, k, none⟩ (.int .i64 z)) (xs.set k z) := by
 refine ⟨?_, by simpa using h.2⟩
 have := own_set h.1 (by omega) k (.int .i64 z) (by omega)
 rwa [ints_set] at this
theorem RowI.drew {base g n c : Nat} {w : World} {xs : List Int} (h : RowI base g n c w xs) : RowI base g n c w.drew xs := h
theorem RowI.below {base g n c : Nat} {w w' : World} {xs : List Int} (h : RowI base g n c w xs) (hb : Below w.heap.size w w') : RowI base g n c w' xs := ⟨own_below h.1 hb, h.2⟩
def exch (xs : List Int) (i j : Nat) : List Int := (xs.set i (xs.getD j 0)).set j (xs.getD i 0)
theorem exch_length (xs : List Int) (i j : Nat) : (exch xs i j).length = xs.length := by simp [exch]
def swr (xs : List Int) (a b : Nat) : Nat -> List Int
 | 0 => xs
 | k + 1 => exch (swr xs a b k) (a + k) (b + k)
theorem swr_length (xs : List Int) (a b k : Nat) : (swr xs a b k).length = xs.length := by
 induction k with
 | zero => rfl
 | succ k ih => simp [swr, exch_length, ih]
theorem swapRange_nat (base g n c a b k : Nat) (f : Value) (xs : List Int) (w : World) (hn : n <= 1048576) (ha : a + k <= n) (hb : b + k <= n) (hR : RowI base g n c w xs) :
  Calls Tryz.prog 232 #[.slice (some ⟨g, 0, none⟩) n c, .int .i64 a, .int .i64 b, .int .i64 k, f] w fun e w' => e = .returned (.tuple #[]) /\ RowI base g n c w' (swr xs a b k) /\ Only g w w' := by
 have HR := Zd hR
 clear hR
 go_enter Tryz.func232, Tryz.ntmps232
 go_wp2
 go_loopw [10] (fun i wr => ∃ j : Nat, j <= k /\ i = .int .i64 j /\ RowI base g n c wr (swr xs a b j) /\ Only g w wr) (fun i _ => k - (intOf i).toNat)
 case atStart => exact ⟨0, Nat.zero_le _, rfl, HR.out, Only.refl _ _⟩
 case round =>
  obtain ⟨j, hj, rfl, hr, ho⟩ := hrel
  have HRR := Zd hr
  have HO := Zd ho
  clear hr ho
  by_cases hlt : j < k
  . have x1 := HRR.out.cell (k := a + j) (by omega)
    have x2 := HRR.out.cell (k := b + j) (by omega)
    have f1 := HRR.out.frozen (k := a + j) (by omega)
    have f2 := HRR.out.frozen (k := b + j) (by omega)
    have hgl := HRR.out.lt (by omega)
    have q1 : ((a : Int) + (j : Int)).toNat = a + j := by omega
    have q2 : ((b : Int) + (j : Int)).toNat = b + j := by omega
    have q3 : (0 : Int) <= (a : Int) + (j : Int) := by omega
    have q4 : (0 : Int) <= (b : Int) + (j : Int) := by omega
    have q5 : (a : Int) + (j : Int) < (n : Int) := by omega
    have q6 : (b : Int) + (j : Int) < (n : Int) := by omega
    generalize hx : (swr xs a b j).getD (a + j) 0 = x at *
    generalize hy : (swr xs a b j).getD (b + j) 0 = y at *
    have HX := Zd hx
    have HY := Zd hy
    clear hx hy
    have hy1 := (HRR.out.set_ (k := a + j) (by omega) y).cell (k := b + j) (by omega)
    have hy2 := (HRR.out.set_ (k := a + j) (by omega) y).frozen (k := b + j) (by omega)
    have HE := Zd ((HRR.out.set_ (k := a + j) (by omega) y).set_ (k := b + j) (by omega) x)
    have HOE := Zd ((HO.out.set_ (a + j) (.int .i64 y)).set_ (b + j) (.int .i64 x))
    generalize ((swr xs a b j).set (a + j) y).getD (b + j) 0 = v' at hy1
    go_wp2
    go_region
    generalize (wr.setCell ⟨g, a + j, none⟩ (.int .i64 y)).setCell ⟨g, b + j, none⟩ (.int .i64 x) = w2 at *
    clear hy1 hy2 x1 x2 f1 f2
    go_wp2
    refine ⟨⟨j + 1, by omega, by go_num, ?_, HOE.out.drew⟩, by simp [intOf]; omega⟩
    rw [swr, exch, HX.out, HY.out]
    exact HE.out.drew
  . go_wp2
    go_end0
    obtain rfl : j = k := by omega
    exact ⟨rfl, HRR.out, HO.out⟩
theorem swapRange_int (base g n c a b k : Nat) (f : Value) (xs : List Int) (w : World) (A B K : Int) (eA : A = a) (eB : B = b) (eK : K = k) (hn : n <= 1048576) (ha : a + k <= n) (hb : b + k <= n) (hR : RowI base g n c w xs) :
  Calls Tryz.prog 232 #[.slice (some ⟨g, 0, none⟩) n c, .int .i64 A, .int .i64 B, .int .i64 K, f] w fun e w' => e = .returned (.tuple #[]) /\ RowI base g n c w' (swr xs a b k) /\ Only g w w' := by
 subst eA eB eK
 exact swapRange_nat base g n c a b k f xs w hn ha hb hR
theorem exch_get (xs : List Int) (i j x : Nat) (hi : i < xs.length) (hj : j < xs.length) : (exch xs i j)[x]? = if x = j then xs[i]? else if x = i then xs[j]? else xs[x]? := by
 unfold exch
 simp only [List.getElem?_set, List.length_set, List.getD, List.getElem?_eq_getElem hi, List.getElem?_eq_getElem hj, Option.getD_some]
 by_cases h1 : j = x
 . subst h1; simp [hj]
 . by_cases h2 : i = x
   . subst h2; simp [h1, hi]; intro h; exact absurd h.symm h1
   . rw [if_neg h1, if_neg h2, if_neg (fun h => h1 h.symm), if_neg (fun h => h2 h.symm)]
theorem swr_get (xs : List Int) (a b : Nat) : ∀ k, a + k <= b -> b + k <= xs.length -> ∀ x, (swr xs a b k)[x]? = if a <= x /\ x < a + k then xs[b + (x - a)]? else if b <= x /\ x < b + k then xs[a + (x - b)]? else xs[x]?
 | 0, _, _, x => by
   simp only [swr]
   rw [if_neg (by omega), if_neg (by omega)]
 | k + 1, h1, h2, x => by
   have ih := swr_get xs a b k (by omega) (by omega)
   have hl := swr_length xs a b k
   simp only [swr]
   rw [exch_get _ _ _ _ (by omega) (by omega), ih (a + k), ih (b + k), ih x]
   by_cases e1 : x = b + k
   . subst e1
     rw [if_pos rfl, if_neg (by omega), if_neg (by omega), if_neg (by omega), if_pos (by omega)]
     congr 1; omega
   . rw [if_neg e1]
     by_cases e2 : x = a + k
     . subst e2
       rw [if_pos rfl, if_neg (by omega), if_neg (by omega), if_pos (by omega)]
       congr 1; omega
     . rw [if_neg e2]
       repeat' split
       all_goals first | rfl | omega | (congr 1; omega)
def rot (xs : List Int) (a m b : Nat) : List Int := (List.range xs.length).map fun x => if a <= x /\ x < a + (b - m) then xs.getD (m + (x - a)) 0 else if a + (b - m) <= x /\ x < b then xs.getD (x - (b - m)) 0 else xs.getD x 0
theorem rot_get (xs : List Int) (a m b x : Nat) (h1 : a <= m) (h2 : m <= b) (h3 : b <= xs.length) : (rot xs a m b)[x]? = if a <= x /\ x < a + (b - m) then xs[m + (x - a)]? else if a + (b - m) <= x /\ x < b then xs[x - (b - m)]? else xs[x]? := by
 unfold rot
 rcases Nat.lt_or_ge x xs.length with h | h
 . rw [List.getElem?_map, List.getElem?_range h]
   simp only [Option.map_some]
   have g : ∀ y, y < xs.length -> some (xs.getD y 0) = xs[y]? := fun y hy => by simp [List.getD, hy]
   split
   . exact g _ (by omega)
   . split
     . exact g _ (by omega)
     . exact g _ h
 . rw [List.getElem?_eq_none (by simpa using h), if_neg (by omega), if_neg (by omega), List.getElem?_eq_none h]
theorem rot_step1 (ys : List Int) (m i j : Nat) (h1 : j < i) (h2 : i <= m) (h3 : m + j <= ys.length) : rot (swr ys (m - i) m j) (m - i + j) m (m + j) = rot ys (m - i) m (m + j) := by
 have hl := swr_length ys (m - i) m j
 apply List.ext_getElem?
 intro x
 rw [rot_get _ _ _ _ _ (by omega) (by omega) (by omega), rot_get _ _ _ _ _ (by omega) (by omega) (by omega)]
 simp only [swr_get ys (m - i) m j (by omega) (by omega)]
 repeat' split
 all_goals first | rfl | omega | (congr 1; omega)
theorem rot_step2 (ys : List Int) (m i j : Nat) (h1 : i < j) (h2 : i <= m) (h3 : m + j <= ys.length) : rot (swr ys (m - i) (m + j - i) i) (m - i) m (m + j - i) = rot ys (m - i) m (m + j) := by
 have hl := swr_length ys (m - i) (m + j - i) i
 apply List.ext_getElem?
 intro x
 rw [rot_get _ _ _ _ _ (by omega) (by omega) (by omega), rot_get _ _ _ _ _ (by omega) (by omega) (by omega)]
 simp only [swr_get ys (m - i) (m + j - i) i (by omega) (by omega)]
 repeat' split
 all_goals first | rfl | omega | (congr 1; omega)
theorem rot_step3 (ys : List Int) (m i : Nat) (h2 : i <= m) (h3 : m + i <= ys.length) : swr ys (m - i) m i = rot ys (m - i) m (m + i) := by
 apply List.ext_getElem?
 intro x
 rw [rot_get _ _ _ _ _ (by omega) (by omega) (by omega)]
 simp only [swr_get ys (m - i) m i (by omega) (by omega)]
 repeat' split
 all_goals first | rfl | omega | (congr 1; omega)
theorem rotate_nat (base g n c a m b : Nat) (f : Value) (xs : List Int) (w : World) (hn : n <= 1048576) (ha : a < m) (hm : m < b) (hb : b <= n) (hR : RowI base g n c w xs) :
  Calls Tryz.prog 231 #[.slice (some ⟨g, 0, none⟩) n c, .int .i64 a, .int .i64 m, .int .i64 b, f] w fun e w' => e = .returned (.tuple #[]) /\ RowI base g n c w' (rot xs a m b) /\ Only g w w' := by
 have HR := Zd hR
 clear hR
 go_enter Tryz.func231, Tryz.ntmps231
 go_wp2
 go_loopw [10, 11] (fun u v wr => ∃ (i j : Nat) (ys : List Int), 1 <= i /\ i <= m /\ 1 <= j /\ m + j <= n /\ u = .int .i64 i /\ v = .int .i64 j /\ RowI base g n c wr ys /\ Only g w wr /\ rot ys (m - i) m (m + j) = rot xs a m b) (fun u v _ => (intOf u).toNat + (intOf v).toNat)
 case atStart => exact ⟨m - a, b - m, xs, by omega, by omega, by omega, by omega, by go_num, by go_num, HR.out, Only.refl _ _, by rw [show m - (m - a) = a by omega, show m + (b - m) = b by omega]⟩
 case round =>
  obtain ⟨i, j, ys, hi1, hi2, hj1, hj2, rfl, rfl, hr, ho, he⟩ := hrel
  have HRR := Zd hr
  have HO := Zd ho
  have HE := Zd he
  have HL := Zd hr.2
  clear hr ho he
  rcases Nat.lt_trichotomy i j with h | h | h
  . have h1 : ((i : Int) != (j : Int)) = true := by rw [bne_iff_ne]; omega
    have h2 : ¬ ((j : Int) < (i : Int)) := by omega
    go_wp2_with fail
    refine (swapRange_int base g n c (m - i) (m + j - i) i f ys _ _ _ _ (by omega) (by omega) (by omega) hn (by omega) (by omega) HRR.out).mono ?_
    rintro e w1 ⟨rfl, hr1, ho1⟩
    have HR1 := Zd hr1
    have HO1 := Zd ho1
    clear hr1 ho1
    go_wp2
    refine ⟨⟨i, j - i, _, hi1, hi2, by omega, by omega, rfl, by go_num, HR1.out, HO.out.trans HO1.out, ?_⟩, by simp [intOf]; omega⟩
    rw [<- HE.out, <- rot_step2 ys m i j h hi2 (by rw [HL.out]; exact hj2), show m + (j - i) = m + j - i by omega]
  . subst h
    go_wp2_with fail
    refine (swapRange_int base g n c (m - i) m i f ys _ _ _ _ (by omega) (by omega) (by omega) hn (by omega) (by omega) HRR.out).mono ?_
    rintro e w1 ⟨rfl, hr1, ho1⟩
    go_wp2
    go_end0
    refine ⟨rfl, ?_, HO.out.trans ho1⟩
    rw [<- HE.out, <- rot_step3 ys m i hi2 (by rw [HL.out]; exact hj2)]
    exact hr1
  . have h1 : ((i : Int) != (j : Int)) = true := by rw [bne_iff_ne]; omega
    have h2 : (j : Int) < (i : Int) := by omega
    go_wp2_with fail
    refine (swapRange_int base g n c (m - i) m j f ys _ _ _ _ (by omega) (by omega) (by omega) hn (by omega) (by omega) HRR.out).mono ?_
    rintro e w1 ⟨rfl, hr1, ho1⟩
    have HR1 := Zd hr1
    have HO1 := Zd ho1
    clear hr1 ho1
    go_wp2
    refine ⟨⟨i - j, j, _, by omega, by omega, hj1, hj2, by go_num, rfl, HR1.out, HO.out.trans HO1.out, ?_⟩, by simp [intOf]; omega⟩
    rw [<- HE.out, <- rot_step1 ys m i j h hi2 (by rw [HL.out]; exact hj2), show m - (i - j) = m - i + j by omega]
section
theorem exch_at (xs : List Int) (i j x : Nat) (hi : i < xs.length) (hj : j < xs.length) : (exch xs i j).getD x 0 = if x = j then xs.getD i 0 else if x = i then xs.getD j 0 else xs.getD x 0 := by
 simp only [List.getD, exch_get xs i j x hi hj]
 split
 . rfl
 . split <;> rfl
theorem exch_perm (xs : List Int) (i j : Nat) (hi : i < xs.length) (hj : j < xs.length) : (exch xs i j).Perm xs := by
 unfold exch
 have e1 : xs.getD j 0 = xs[j] := by simp [List.getD, hj]
 have e2 : xs.getD i 0 = xs[i] := by simp [List.getD, hi]
 rw [e1, e2]
 exact List.set_set_perm hi hj
theorem rot_perm (xs : List Int) (a m b : Nat) (h1 : a <= m) (h2 : m <= b) (h3 : b <= xs.length) : (rot xs a m b).Perm xs := by
 have e : rot xs a m b = xs.take a ++ (((xs.drop m).take (b - m)) ++ ((xs.drop a).take (m - a)) ++ xs.drop b) := by
  apply List.ext_getElem?
  intro x
  rw [rot_get xs a m b x h1 h2 h3]
  simp only [List.getElem?_append, List.length_take, List.length_drop, List.length_append, List.getElem?_take, List.getElem?_drop]
  repeat' split
  all_goals first | rfl | omega | (congr 1; omega)
 have e' : xs = xs.take a ++ (((xs.drop a).take (m - a)) ++ ((xs.drop m).take (b - m)) ++ xs.drop b) := by
  apply List.ext_getElem?
  intro x
  simp only [List.getElem?_append, List.length_take, List.length_drop, List.length_append, List.getElem?_take, List.getElem?_drop]
  repeat' split
  all_goals first | rfl | omega | (congr 1; omega)
 rw [e]
 conv => rhs; rw [e']
 exact List.Perm.append_left _ (List.Perm.append_right _ List.perm_append_comm)
structure Mix (a b : Nat) (xs ys : List Int) : Prop where
 perm : ys.Perm xs
 out : ∀ i, i < a ∨ b <= i -> ys.getD i 0 = xs.getD i 0
 inn : ∀ i, a <= i -> i < b -> ∃ j, a <= j /\ j < b /\ ys.getD i 0 = xs.getD j 0
theorem Mix.refl (a b : Nat) (xs : List Int) : Mix a b xs xs := ⟨.refl _, fun _ _ => rfl, fun i h1 h2 => ⟨i, h1, h2, rfl⟩⟩
theorem Mix.trans {a b : Nat} {xs ys zs : List Int} (h : Mix a b xs ys) (k : Mix a b ys zs) : Mix a b xs zs :=
 ⟨k.perm.trans h.perm, fun i hi => (k.out i hi).trans (h.out i hi), fun i h1 h2 => by
  obtain ⟨j, j1, j2, e⟩ := k.inn i h1 h2
  obtain ⟨l, l1, l2, e'⟩ := h.inn j j1 j2
  exact ⟨l, l1, l2, e.trans e'⟩⟩
theorem Mix.wide {a b a' b' : Nat} {xs ys : List Int} (h : Mix a b xs ys) (h1 : a' <= a) (h2 : b <= b') : Mix a' b' xs ys :=
 ⟨h.perm, fun i hi => h.out i (by omega), fun i i1 i2 => by
  by_cases hi : a <= i /\ i < b
  . obtain ⟨j, j1, j2, e⟩ := h.inn i hi.1 hi.2
    exact ⟨j, by omega, by omega, e⟩
  . exact ⟨i, i1, i2, h.out i (by omega)⟩⟩
theorem Mix.exch {a b : Nat} {xs : List Int} (i j : Nat) (hi : a <= i /\ i < b) (hj : a <= j /\ j < b) (hb : b <= xs.length) : Mix a b xs (exch xs i j) := by
 refine ⟨exch_perm xs i j (by omega) (by omega), fun x hx => ?_, fun x h1 h2 => ?_⟩
 . rw [exch_at xs i j x (by omega) (by omega), if_neg (by omega), if_neg (by omega)]
 . rw [exch_at xs i j x (by omega) (by omega)]
   split
   . exact ⟨i, hi.1, hi.2, rfl⟩
   . split
     . exact ⟨j, hj.1, hj.2, rfl⟩
     . exact ⟨x, h1, h2, rfl⟩
theorem rot_at (xs : List Int) (a m b x : Nat) (h1 : a <= m) (h2 : m <= b) (h3 : b <= xs.length) : (rot xs a m b).getD x 0 = if a <= x /\ x < a + (b - m) then xs.getD (m + (x - a)) 0 else if a + (b - m) <= x /\ x < b then xs.getD (x - (b - m)) 0 else xs.getD x 0 := by
 simp only [List.getD, rot_get xs a m b x h1 h2 h3]
 split
 . rfl
 . split <;> rfl
theorem Mix.rot {xs : List Int} (a m b : Nat) (h1 : a <= m) (h2 : m <= b) (h3 : b <= xs.length) : Mix a b xs (rot xs a m b) := by
 refine ⟨rot_perm xs a m b h1 h2 h3, fun x hx => ?_, fun x i1 i2 => ?_⟩
 . rw [rot_at xs a m b x h1 h2 h3, if_neg (by omega), if_neg (by omega)]
 . rw [rot_at xs a m b x h1 h2 h3]
   split
   . exact ⟨m + (x - a), by omega, by omega, rfl⟩
   . split
     . exact ⟨x - (b - m), by omega, by omega, rfl⟩
     . exact ⟨x, i1, i2, rfl⟩
structure Less (lt : Int -> Int -> Bool) : Prop where
 asymm : ∀ x y, lt x y = true -> lt y x = false
 trans : ∀ x y z, lt y x = false -> lt z y = false -> lt z x = false
def Rises (lt : Int -> Int -> Bool) (a b : Nat) (xs : List Int) : Prop := ∀ i j, a <= i -> i < j -> j < b -> lt (xs.getD j 0) (xs.getD i 0) = false
def RisesBut (lt : Int -> Int -> Bool) (a i j : Nat) (xs : List Int) : Prop := ∀ p q, a <= p -> p < q -> q <= i -> q ≠ j -> lt (xs.getD q 0) (xs.getD p 0) = false
theorem rises_but_start {lt : Int -> Int -> Bool} {a i : Nat} {xs : List Int} (h : Rises lt a i xs) : RisesBut lt a i i xs :=
 fun p q h1 h2 h3 h4 => h p q h1 h2 (by omega)
theorem rises_but_step {lt : Int -> Int -> Bool} (hl : Less lt) {a i j : Nat} {xs : List Int} (h : RisesBut lt a i j xs) (ha : a < j) (hj : j <= i) (hi : i < xs.length) (hlt : lt (xs.getD j 0) (xs.getD (j - 1) 0) = true) :
  RisesBut lt a i (j - 1) (exch xs j (j - 1)) := by
 intro p q h1 h2 h3 h4
 rw [exch_at xs j (j - 1) q (by omega) (by omega), exch_at xs j (j - 1) p (by omega) (by omega)]
 rw [if_neg h4]
 by_cases hq : q = j
 . subst hq
   rw [if_pos rfl]
   by_cases hp : p = q - 1
   . subst hp; rw [if_pos rfl]; exact hl.asymm _ _ hlt
   . rw [if_neg hp, if_neg (by omega)]; exact h p (q - 1) h1 (by omega) (by omega) (by omega)
 . rw [if_neg hq]
   by_cases hp : p = j - 1
   . subst hp; rw [if_pos rfl]; exact h j q (by omega) (by omega) h3 hq
   . rw [if_neg hp]
     by_cases hp2 : p = j
     . subst hp2; rw [if_pos rfl]; exact h (p - 1) q (by omega) (by omega) h3 hq
     . rw [if_neg hp2]; exact h p q h1 h2 h3 hq
theorem rises_but_end {lt : Int -> Int -> Bool} (hl : Less lt) {a i j : Nat} {xs : List Int} (h : RisesBut lt a i j xs) (ha : a <= j) (hj : j <= i) (he : j = a ∨ lt (xs.getD j 0) (xs.getD (j - 1) 0) = false) : Rises lt a (i + 1) xs := by
 intro p q h1 h2 h3
 by_cases hq : q = j
 . subst hq
   rcases he with he | he
   . omega
   . by_cases hp : p = q - 1
     . subst hp; exact he
     . exact hl.trans _ _ _ (h p (q - 1) h1 (by omega) (by omega) (by omega)) he
 . exact h p q h1 h2 (by omega) hq
theorem Rises.le {lt : Int -> Int -> Bool} (hl : Less lt) {a b : Nat} {xs : List Int} (h : Rises lt a b xs) {i j : Nat} (h1 : a <= i) (h2 : i <= j) (h3 : j < b) : lt (xs.getD j 0) (xs.getD i 0) = false := by
 by_cases e : i = j
 . subst e
   cases hc : lt (xs.getD i 0) (xs.getD i 0) with
   | false => rfl
   | true => have := hl.asymm _ _ hc; rw [hc] at this; cases this
 . exact h i j h1 (by omega) h3
theorem sym_split {lt : Int -> Int -> Bool} (hl : Less lt) {a m b mid s e : Nat} {xs : List Int} (h1 : Rises lt a m xs) (h2 : Rises lt m b xs) (hb : b <= xs.length)
  (ha : a <= s) (hs : s <= m) (hme : m <= e) (heb : e <= b) (hmid : e + s = mid + m)
  (L : s = a ∨ e = b ∨ lt (xs.getD e 0) (xs.getD (s - 1) 0) = false) (R : s = m ∨ e = m ∨ lt (xs.getD (e - 1) 0) (xs.getD s 0) = true) :
  Rises lt a s (rot xs s m e) /\ Rises lt s mid (rot xs s m e) /\ Rises lt mid e (rot xs s m e) /\ Rises lt e b (rot xs s m e) /\
   ∀ p q, a <= p -> p < mid -> mid <= q -> q < b -> lt ((rot xs s m e).getD q 0) ((rot xs s m e).getD p 0) = false := by
 have hr := fun x => rot_at xs s m e x hs hme (by omega)
 refine ⟨fun i j i1 i2 i3 => ?_, fun i j i1 i2 i3 => ?_, fun i j i1 i2 i3 => ?_, fun i j i1 i2 i3 => ?_, fun p q p1 p2 q1 q2 => ?_⟩
 . rw [hr i, hr j, if_neg (by omega), if_neg (by omega), if_neg (by omega), if_neg (by omega)]
   exact h1 i j i1 i2 (by omega)
 . rw [hr i, hr j, if_pos (by omega), if_pos (by omega)]
   exact h2 _ _ (by omega) (by omega) (by omega)
 . rw [hr i, hr j, if_neg (by omega), if_pos (by omega), if_neg (by omega), if_pos (by omega)]
   exact h1 _ _ (by omega) (by omega) (by omega)
 . rw [hr i, hr j, if_neg (by omega), if_neg (by omega), if_neg (by omega), if_neg (by omega)]
   exact h2 i j (by omega) i2 i3
 . rw [hr p, hr q, if_neg (show ¬ (s <= q /\ q < s + (e - m)) by omega)]
   by_cases hp : s <= p /\ p < s + (e - m)
   . rw [if_pos hp]
     by_cases hq : s + (e - m) <= q /\ q < e
     . rw [if_pos hq]
       rcases R with R | R | R
       . omega
       . omega
       . have x1 := h2.le hl (i := m + (p - s)) (j := e - 1) (by omega) (by omega) (by omega)
         have x2 := h1.le hl (i := s) (j := q - (e - m)) (by omega) (by omega) (by omega)
         exact hl.trans _ _ _ (hl.trans _ _ _ x1 (hl.asymm _ _ R)) x2
     . rw [if_neg hq]
       exact h2 _ _ (by omega) (by omega) (by omega)
   . rw [if_neg hp, if_neg (show ¬ (s + (e - m) <= p /\ p < e) by omega)]
     by_cases hq : s + (e - m) <= q /\ q < e
     . rw [if_pos hq]
       exact h1 _ _ (by omega) (by omega) (by omega)
     . rw [if_neg hq]
       rcases L with L | L | L
       . omega
       . omega
       . have x1 := h1.le hl (i := p) (j := s - 1) (by omega) (by omega) (by omega)
         have x2 := h2.le hl (i := e) (j := q) (by omega) (by omega) (by omega)
         exact hl.trans _ _ _ (hl.trans _ _ _ x1 L) x2
theorem rises_join {lt : Int -> Int -> Bool} {a mid b : Nat} {xs : List Int} (h1 : Rises lt a mid xs) (h2 : Rises lt mid b xs) (hc : ∀ p q, a <= p -> p < mid -> mid <= q -> q < b -> lt (xs.getD q 0) (xs.getD p 0) = false) : Rises lt a b xs := by
 intro i j i1 i2 i3
 by_cases hj : j < mid
 . exact h1 i j i1 i2 hj
 . by_cases hi : i < mid
   . exact hc i j i1 hi (by omega) i3
   . exact h2 i j (by omega) i2 i3
theorem Rises.keep {lt : Int -> Int -> Bool} {a b : Nat} {xs ys : List Int} (h : Rises lt a b xs) (he : ∀ i, a <= i -> i < b -> ys.getD i 0 = xs.getD i 0) : Rises lt a b ys := by
 intro i j i1 i2 i3
 rw [he i i1 (by omega), he j (by omega) i3]
 exact h i j i1 i2 i3
theorem cross_mix {lt : Int -> Int -> Bool} {a mid b : Nat} {xs ys : List Int} (hc : ∀ p q, a <= p -> p < mid -> mid <= q -> q < b -> lt (xs.getD q 0) (xs.getD p 0) = false)
  (h : Mix a mid xs ys) : ∀ p q, a <= p -> p < mid -> mid <= q -> q < b -> lt (ys.getD q 0) (ys.getD p 0) = false := by
 intro p q p1 p2 q1 q2
 obtain ⟨j, j1, j2, e⟩ := h.inn p p1 p2
 rw [e, h.out q (by omega)]
 exact hc j q j1 j2 q1 q2
theorem cross_mix' {lt : Int -> Int -> Bool} {a mid b : Nat} {xs ys : List Int} (hc : ∀ p q, a <= p -> p < mid -> mid <= q -> q < b -> lt (xs.getD q 0) (xs.getD p 0) = false)
  (h : Mix mid b xs ys) : ∀ p q, a <= p -> p < mid -> mid <= q -> q < b -> lt (ys.getD q 0) (ys.getD p 0) = false := by
 intro p q p1 p2 q1 q2
 obtain ⟨j, j1, j2, e⟩ := h.inn q q1 q2
 rw [e, h.out p (by omega)]
 exact hc p j p1 p2 j1 j2
structure Moves (lt : Int -> Int -> Bool) (a i b k : Nat) (ys : List Int) : Prop where
 rest : ∀ p q, a <= p -> p < q -> q < b -> p ≠ k -> lt (ys.getD q 0) (ys.getD p 0) = false
 low : ∀ q, k < q -> q < i -> lt (ys.getD q 0) (ys.getD k 0) = true
 high : ∀ q, i <= q -> q < b -> lt (ys.getD q 0) (ys.getD k 0) = false
theorem Moves.step {lt : Int -> Int -> Bool} (hl : Less lt) {a i b k : Nat} {ys : List Int} (h : Moves lt a i b k ys) (hk : a <= k) (hki : k + 1 < i) (hib : i <= b) (hb : b <= ys.length) : Moves lt a i b (k + 1) (exch ys k (k + 1)) := by
 have hx := fun x => exch_at ys k (k + 1) x (by omega) (by omega)
 refine ⟨fun p q p1 p2 p3 p4 => ?_, fun q q1 q2 => ?_, fun q q1 q2 => ?_⟩
 . rw [hx p, hx q, if_neg p4]
   by_cases hp : p = k
   . subst hp
     rw [if_pos rfl]
     by_cases hq : q = p + 1
     . subst hq; rw [if_pos rfl]; exact hl.asymm _ _ (h.low (p + 1) (by omega) hki)
     . rw [if_neg hq, if_neg (by omega)]; exact h.rest (p + 1) q (by omega) (by omega) p3 (by omega)
   . rw [if_neg hp]
     by_cases hq : q = k + 1
     . subst hq; rw [if_pos rfl]; exact h.rest p k p1 (by omega) (by omega) hp
     . rw [if_neg hq]
       by_cases hq2 : q = k
       . subst hq2; rw [if_pos rfl]; exact h.rest p (q + 1) p1 (by omega) (by omega) hp
       . rw [if_neg hq2]; exact h.rest p q p1 p2 p3 hp
 . rw [hx q, hx (k + 1), if_pos rfl, if_neg (by omega), if_neg (by omega)]; exact h.low q (by omega) q2
 . rw [hx q, hx (k + 1), if_pos rfl, if_neg (by omega), if_neg (by omega)]; exact h.high q q1 q2
theorem Moves.done {lt : Int -> Int -> Bool} {a i b k : Nat} {ys : List Int} (h : Moves lt a i b k ys) (hk : k + 1 = i) : Rises lt a b ys := by
 intro p q p1 p2 p3
 by_cases hp : p = k
 . subst hp; exact h.high q (by omega) p3
 . exact h.rest p q p1 p2 p3 hp
end
def Cmps (g : Nat) (w0 : World) (f : FuncId) (caps : Array Value) (c : Int -> Int -> Int) (ok : Int -> Prop) : Prop :=
 ∀ x y, ok x -> ok y -> ∀ w', Only g w0 w' -> Calls Tryz.prog f (#[.int .i64 x, .int .i64 y] ++ caps) w' fun e w'' => e = .returned (.int .i64 (c x y)) /\ Below w'.heap.size w' w''
def ltOf (c : Int -> Int -> Int) (x y : Int) : Bool := decide (c x y < 0)
theorem Cmps.later {g : Nat} {w0 w1 : World} {f : FuncId} {caps : Array Value} {c : Int -> Int -> Int} {ok : Int -> Prop} (h : Cmps g w0 f caps c ok) (ho : Only g w0 w1) : Cmps g w1 f caps c ok :=
 fun x y hx hy w' hw => h x y hx hy w' (ho.trans hw)
def Sorted (base g n c a b : Nat) (lt : Int -> Int -> Bool) (xs : List Int) (w : World) (e : Ending) (w' : World) : Prop :=
 e = .returned (.tuple #[]) /\ ∃ ys, RowI base g n c w' ys /\ Mix a b xs ys /\ Rises lt a b ys /\ Only g w w'
theorem mem_of_mix {a b : Nat} {xs ys : List Int} (h : Mix a b xs ys) {ok : Int -> Prop} (hk : ∀ x ∈ xs, ok x) : ∀ x ∈ ys, ok x := fun x hx => hk x (h.perm.mem_iff.1 hx)
theorem getD_ok {ys : List Int} {ok : Int -> Prop} (hk : ∀ x ∈ ys, ok x) {i : Nat} (hi : i < ys.length) : ok (ys.getD i 0) := hk _ (by simp [List.getD, hi])
theorem insertion_nat (base g n cp a b : Nat) (f : FuncId) (caps : Array Value) (c : Int -> Int -> Int) (ok : Int -> Prop) (xs : List Int) (w : World) (hn : n <= 1048576) (hab : a <= b) (hb : b <= n) (hR : RowI base g n cp w xs)
  (hf : Enters f) (hl : Less (ltOf c)) (hC : Cmps g w f caps c ok) (hok : ∀ x ∈ xs, ok x) :
  Calls Tryz.prog 229 #[.slice (some ⟨g, 0, none⟩) n cp, .int .i64 a, .int .i64 b, .func (.func f) #[] caps] w (Sorted base g n cp a b (ltOf c) xs w) := by
 have HR := Zd hR
 have HC := Zd hC
 have HL := Zd hl
 have HOK := Zd hok
 have HF := Zd hf
 clear hR hC hl hok hf
 go_enter Tryz.func229, Tryz.ntmps229
 go_wp2
 go_loopw [8] (fun u wr => ∃ (i : Nat) (ys : List Int), a + 1 <= i /\ i <= max b (a + 1) /\ u = .int .i64 i /\ RowI base g n cp wr ys /\ Mix a b xs ys /\ Rises (ltOf c) a i ys /\ Only g w wr) (fun u _ => b - (intOf u).toNat)
 case atStart => exact ⟨a + 1, xs, by omega, by omega, by go_num, HR.out, Mix.refl _ _ _, fun i j h1 h2 h3 => by omega, Only.refl _ _⟩
 case round =>
  obtain ⟨i, ys, hi1, hi2, rfl, hr, hm, hs, ho⟩ := hrel
  have HRR := Zd hr
  have HM := Zd hm
  have HS := Zd hs
  have HO := Zd ho
  clear hr hm hs ho
  by_cases hlt : i < b
  . go_wp2
    obtain ⟨wo, rfl⟩ : ∃ wo : World, wo = wr := ⟨_, rfl⟩
    go_loopw [9] (fun u wi => ∃ (j : Nat) (zs : List Int), a <= j /\ j <= i /\ u = .int .i64 j /\ RowI base g n cp wi zs /\ Mix a b xs zs /\ RisesBut (ltOf c) a i j zs /\ Only g w wi) (fun u _ => (intOf u).toNat)
    case atStart => exact ⟨i, ys, by omega, by omega, rfl, HRR.out, HM.out, rises_but_start HS.out, HO.out⟩
    case round =>
     obtain ⟨j, zs, hj1, hj2, rfl, hr, hm, hs, ho⟩ := hrel
     have HRZ := Zd hr
     have HMZ := Zd hm
     have HSZ := Zd hs
     have HOZ := Zd ho
     clear hr hm hs ho
     by_cases hja : j = a
     . subst hja
       have hd : decide ((j : Int) < (j : Int)) = false := by simp
       go_wp2
       refine wp_region_quiet_below (by kernel_rfl) (by kernel_rfl) ?_
       repeat (go_big_quiet_step (fail))
       refine wpQuiet_nil ?_
       intro _ hw'
       obtain ⟨⟨dq, osq⟩, hw''⟩ := hw'
       subst hw''
       go_wp2
       refine ⟨⟨i + 1, zs, by omega, by omega, by go_num, HRZ.out.below (below_regrown _ dq osq), HMZ.out, rises_but_end HL.out HSZ.out (by omega) hj2 (.inl rfl), HOZ.out.trans (.of_below (below_regrown _ dq osq))⟩, by simp [intOf]; omega⟩
     . have hlen := HRZ.out.2
       have hjl : j < zs.length := by rw [hlen]; omega
       have hjl2 : j - 1 < zs.length := by rw [hlen]; omega
       have x1 := HRZ.out.cell (k := j) (by omega)
       have x2 := HRZ.out.cell (k := j - 1) (by omega)
       have HCALL : Hid (∀ W : World, Below wr.heap.size wr W -> Calls Tryz.prog f (#[.int .i64 (zs.getD j 0), .int .i64 (zs.getD (j - 1) 0)] ++ caps) W fun e w'' => e = .returned (.int .i64 (c (zs.getD j 0) (zs.getD (j - 1) 0))) /\ Below W.heap.size W w'') := by
        intro W hW
        exact HC.out _ _ (getD_ok (mem_of_mix HMZ.out HOK.out) hjl) (getD_ok (mem_of_mix HMZ.out HOK.out) hjl2) W (HOZ.out.trans (.of_below hW))
       have HSTEP := Zd (fun h => rises_but_step HL.out HSZ.out (by omega) hj2 (by rw [hlen]; omega) h)
       have HEND := Zd (fun h => rises_but_end HL.out HSZ.out hj1 hj2 (.inr h))
       have hgl := HRZ.out.lt (by omega)
       have hd : decide ((a : Int) < (j : Int)) = true := by simp; omega
       have hd2 : decide (a < j) = true := by simp; omega
       have haj : a < j := by omega
       have hw1 := IntWalk.i64_in ((j : Int) - 1) (by omega)
       have ht : ((j : Int) - 1).toNat = j - 1 := by omega
       have q1 : (0 : Int) <= (j : Int) := by omega
       have q2 : (j : Int) < (n : Int) := by omega
       have q3 : (0 : Int) <= (j : Int) - 1 := by omega
       have q4 : (j : Int) - 1 < (n : Int) := by omega
       have q5 : (1 : Int) <= (j : Int) := by omega
       have k1 := cell_regrown x1
       have k2 := cell_regrown x2
       have hrun : ∀ (args : Array Value) (W : World), Sem.run Tryz.prog (callFunc f args) W = .ok (.enter f args) W := HF.out
       clear hlen hjl hjl2 hja
       generalize hx : zs.getD j 0 = x at *
       generalize hy : zs.getD (j - 1) 0 = y at *
       have HX := Zd hx
       have HY := Zd hy
       clear hx hy
       cases hcl : decide (c x y < 0)
       . have HCL := Zd (show ltOf c x y = false from hcl)
         go_wp2
         refine wp_region_quiet_below (by kernel_rfl) (by kernel_rfl) ?_
         repeat (go_big_quiet_step ((exact Calls.regrown_of (HCALL.out _ (below_regrown _ _ _)))))
         refine wpQuiet_nil ?_
         intro _ hw'
         obtain ⟨⟨dq, osq⟩, hw''⟩ := hw'
         subst hw''
         go_wp2
         refine ⟨⟨i + 1, zs, by omega, by omega, by go_num, HRZ.out.below (below_regrown _ dq osq), HMZ.out, HEND.out HCL.out, HOZ.out.trans (.of_below (below_regrown _ dq osq))⟩, by simp [intOf]; omega⟩
       . have HCL := Zd (show ltOf c x y = true from hcl)
         go_wp2
         refine wp_region_quiet_below (by kernel_rfl) (by kernel_rfl) ?_
         repeat (go_big_quiet_step ((exact Calls.regrown_of (HCALL.out _ (below_regrown _ _ _)))))
         refine wpQuiet_nil ?_
         intro _ hw'
         obtain ⟨⟨dq, osq⟩, hw''⟩ := hw'
         subst hw''
         clear k1 k2 x1 x2 hrun
         replace HRZ := Zd (HRZ.out.below (below_regrown _ dq osq))
         replace HOZ := Zd (HOZ.out.trans (.of_below (below_regrown _ dq osq)))
         generalize grow (redrawn wr dq) osq = w2 at *
         have y1 := HRZ.out.cell (k := j) (by omega)
         have y2 := HRZ.out.cell (k := j - 1) (by omega)
         have f1 := HRZ.out.frozen (k := j) (by omega)
         rw [HX.out] at y1
         rw [HY.out] at y2
         have hy1 := (HRZ.out.set_ (k := j) (by omega) y).cell (k := j - 1) (by omega)
         have hy2 := (HRZ.out.set_ (k := j) (by omega) y).frozen (k := j - 1) (by omega)
         have HE := Zd ((HRZ.out.set_ (k := j) (by omega) y).set_ (k := j - 1) (by omega) x)
         have HOE := Zd ((HOZ.out.set_ j (.int .i64 y)).set_ (j - 1) (.int .i64 x))
         have HME := Zd (HMZ.out.trans (Mix.exch (a := a) (b := b) j (j - 1) (by omega) (by omega) (by have := HRZ.out.2; omega)))
         generalize (zs.set j y).getD (j - 1) 0 = v' at hy1
         go_wp2
         go_region
         generalize (w2.setCell ⟨g, j, none⟩ (.int .i64 y)).setCell ⟨g, j - 1, none⟩ (.int .i64 x) = w3 at *
         clear hy1 hy2 y1 y2 f1
         go_wp2
         refine ⟨⟨j - 1, _, by omega, by omega, by go_num, HE.out.drew, ?_, ?_, HOE.out.drew⟩, by simp [intOf]; omega⟩
         . have h := HME.out
           unfold exch at h
           rwa [HX.out, HY.out] at h
         . have h := HSTEP.out HCL.out
           unfold exch at h
           rwa [HX.out, HY.out] at h
  . go_wp2
    go_end0
    refine ⟨rfl, ys, HRR.out, HM.out, ?_, HO.out⟩
    intro p q h1 h2 h3
    exact HS.out p q h1 h2 (by omega)
theorem lt_of_le_lt {lt : Int -> Int -> Bool} (hl : Less lt) {x y z : Int} (h1 : lt y x = false) (h2 : lt y z = true) : lt x z = true := by
 cases h : lt x z with
 | true => rfl
 | false => have := hl.trans z x y h h1; rw [h2] at this; cases this
theorem lt_of_lt_le {lt : Int -> Int -> Bool} (hl : Less lt) {x y z : Int} (h1 : lt x y = true) (h2 : lt z y = false) : lt x z = true := by
 cases h : lt x z with
 | true => rfl
 | false => have := hl.trans y z x h2 h; rw [h1] at this; cases this
theorem moves_start {lt : Int -> Int -> Bool} {a i b : Nat} {xs : List Int} (h2 : Rises lt (a + 1) b xs) (hlo : ∀ p, a + 1 <= p -> p < i -> lt (xs.getD p 0) (xs.getD a 0) = true) (hhi : ∀ p, i <= p -> p < b -> lt (xs.getD p 0) (xs.getD a 0) = false) : Moves lt a i b a xs :=
 ⟨fun p q h1 h3 h4 h5 => h2 p q (by omega) h3 h4, fun q h1 h3 => hlo q (by omega) h3, fun q h1 h3 => hhi q h1 h3⟩
theorem results_none' {fn : Func} (h : fn.results = #[]) (tmps : Array Value) (P : Program) (w : World) : (results fn tmps).run P w = .ok (.tuple #[]) w := by
 simp [results, h]
theorem symMerge_a (base g n cp a b : Nat) (f : FuncId) (caps : Array Value) (c : Int -> Int -> Int) (ok : Int -> Prop) (xs : List Int) (w : World) (hn : n <= 1048576) (hab : a + 1 < b) (hb : b <= n) (hR : RowI base g n cp w xs)
  (hf : Enters f) (hl : Less (ltOf c)) (hC : Cmps g w f caps c ok) (hok : ∀ x ∈ xs, ok x) (h2 : Rises (ltOf c) (a + 1) b xs) (M : Int) (hM : M = ((a + 1 : Nat) : Int)) :
  Calls Tryz.prog 230 #[.slice (some ⟨g, 0, none⟩) n cp, .int .i64 a, .int .i64 M, .int .i64 b, .func (.func f) #[] caps] w (Sorted base g n cp a b (ltOf c) xs w) := by
 have HR := Zd hR
 have HC := Zd hC
 have HL := Zd hl
 have HOK := Zd hok
 have HF := Zd hf
 have H2 := Zd h2
 subst hM
 generalize hm : a + 1 = m at *
 have hma : a < m := by omega
 have hma2 : m <= a + 1 := by omega
 have HM := Zd hm
 clear hR hC hl hok hf h2 hm
 have h1 : ((m : Int) - (a : Int) == 1) = true := by rw [beq_iff_eq]; omega
 go_enter Tryz.func230, Tryz.ntmps230
 go_wp2
 go_loopw [10, 11] (fun u v wr => ∃ i j : Nat, m <= i /\ i <= j /\ j <= b /\ u = .int .i64 i /\ v = .int .i64 j /\ Below w.heap.size w wr /\ (∀ p, m <= p -> p < i -> ltOf c (xs.getD p 0) (xs.getD a 0) = true) /\ (∀ p, j <= p -> p < b -> ltOf c (xs.getD p 0) (xs.getD a 0) = false)) (fun u v _ => (intOf v).toNat - (intOf u).toNat)
 case atStart => exact ⟨m, b, by omega, by omega, by omega, rfl, rfl, Below.refl _ _, fun p h1 h2 => by omega, fun p h1 h2 => by omega⟩
 case round =>
  obtain ⟨i, j, hi, hij, hj, rfl, rfl, hbw, hlo, hhi⟩ := hrel
  have HBW := Zd hbw
  have HLO := Zd hlo
  have HHI := Zd hhi
  clear hbw hlo hhi
  by_cases hlt : i < j
  . go_wp2
    have hh : (((i : Int) + (j : Int)) / 2) = (((i + j) / 2 : Nat) : Int) := by omega
    rw [hh]
    have hb1 : i <= (i + j) / 2 := by omega
    have hb2 : (i + j) / 2 < j := by omega
    generalize (i + j) / 2 = h at *
    clear hh
    have hlen := HR.out.2
    have hrw := HR.out.below HBW.out
    have x1 := hrw.cell (k := h) (by omega)
    have x2 := hrw.cell (k := a) (by omega)
    have HCALL : Hid (∀ W : World, Below wr.heap.size wr W -> Calls Tryz.prog f (#[.int .i64 (xs.getD h 0), .int .i64 (xs.getD a 0)] ++ caps) W fun e w'' => e = .returned (.int .i64 (c (xs.getD h 0) (xs.getD a 0))) /\ Below W.heap.size W w'') := by
     intro W hW
     exact HC.out _ _ (getD_ok HOK.out (by omega)) (getD_ok HOK.out (by omega)) W (.of_below (btr HBW.out hW))
    have HYES := Zd (fun (hc : ltOf c (xs.getD h 0) (xs.getD a 0) = true) (p : Nat) (h1 : m <= p) (h2 : p < h + 1) => lt_of_le_lt HL.out (H2.out.le HL.out h1 (by omega) (by omega)) hc)
    have HNO := Zd (fun (hc : ltOf c (xs.getD h 0) (xs.getD a 0) = false) (p : Nat) (h1 : h <= p) (h2 : p < b) => HL.out.trans _ _ _ hc (H2.out.le HL.out (by omega) h1 h2))
    have q1 : (0 : Int) <= (h : Int) := by omega
    have q2 : (h : Int) < (n : Int) := by omega
    have q3 : (0 : Int) <= (a : Int) := by omega
    have q4 : (a : Int) < (n : Int) := by omega
    have k1 := cell_regrown x1
    have k2 := cell_regrown x2
    have hrun : ∀ (args : Array Value) (W : World), Sem.run Tryz.prog (callFunc f args) W = .ok (.enter f args) W := HF.out
    clear hlen hrw
    generalize xs.getD h 0 = x at *
    generalize hy : xs.getD a 0 = y at *
    have HY := Zd hy
    clear hy
    cases hcl : decide (c x y < 0)
    . have HCL := Zd (show ltOf c x y = false from hcl)
      refine wp_region_quiet_below (by kernel_rfl) (by kernel_rfl) ?_
      repeat (go_big_quiet_step ((exact Calls.regrown_of (HCALL.out _ (below_regrown _ _ _)))))
      refine wpQuiet_nil ?_
      intro _ hw'
      obtain ⟨⟨dq, osq⟩, hw''⟩ := hw'
      subst hw''
      go_wp2
      exact ⟨⟨i, h, hi, by omega, by omega, rfl, rfl, HBW.out.trans ((below_regrown _ dq osq).mono HBW.out.size), by rw [HY.out]; exact HLO.out, by rw [HY.out]; exact HNO.out HCL.out⟩, by simp [intOf]; omega⟩
    . have HCL := Zd (show ltOf c x y = true from hcl)
      refine wp_region_quiet_below (by kernel_rfl) (by kernel_rfl) ?_
      repeat (go_big_quiet_step ((exact Calls.regrown_of (HCALL.out _ (below_regrown _ _ _)))))
      refine wpQuiet_nil ?_
      intro _ hw'
      obtain ⟨⟨dq, osq⟩, hw''⟩ := hw'
      subst hw''
      go_wp2
      exact ⟨⟨h + 1, j, by omega, by omega, hj, by go_num, rfl, HBW.out.trans ((below_regrown _ dq osq).mono HBW.out.size), by rw [HY.out]; exact HYES.out HCL.out, by rw [HY.out]; exact HHI.out⟩, by simp [intOf]; omega⟩
  . obtain rfl : i = j := by omega
    have HST : Hid (Moves (ltOf c) a i b a xs) := by
     have h2 := H2.out
     have hlo := HLO.out
     rw [<- HM.out] at h2 hlo
     exact moves_start h2 hlo HHI.out
    go_wp2
    obtain ⟨wo, rfl⟩ : ∃ wo : World, wo = wr := ⟨_, rfl⟩
    go_loopw [13] (fun u wi => ∃ (k : Nat) (ys : List Int), a <= k /\ k + 1 <= i /\ u = .int .i64 k /\ RowI base g n cp wi ys /\ Mix a b xs ys /\ Moves (ltOf c) a i b k ys /\ Only g w wi) (fun u _ => i - (intOf u).toNat)
    case atStart => exact ⟨a, xs, by omega, by omega, rfl, HR.out.below HBW.out, Mix.refl _ _ _, HST.out, .of_below HBW.out⟩
    case round =>
     obtain ⟨k, ys, hk1, hk2, rfl, hr, hm, hs, ho⟩ := hrel
     have HRZ := Zd hr
     have HMZ := Zd hm
     have HSZ := Zd hs
     have HOZ := Zd ho
     clear hr hm hs ho
     by_cases hki : k + 1 < i
     . have x1 := HRZ.out.cell (k := k) (by omega)
       have x2 := HRZ.out.cell (k := k + 1) (by omega)
       have f1 := HRZ.out.frozen (k := k) (by omega)
       have hlen := HRZ.out.2
       have HSTEP := Zd (HSZ.out.step HL.out hk1 hki hj (by rw [hlen]; omega))
       have HME := Zd (HMZ.out.trans (Mix.exch (a := a) (b := b) k (k + 1) (by omega) (by omega) (by omega)))
       generalize hx : ys.getD k 0 = x at *
       generalize hy : ys.getD (k + 1) 0 = y at *
       have hy1 := (HRZ.out.set_ (k := k) (by omega) y).cell (k := k + 1) (by omega)
       have hy2 := (HRZ.out.set_ (k := k) (by omega) y).frozen (k := k + 1) (by omega)
       have HE := Zd ((HRZ.out.set_ (k := k) (by omega) y).set_ (k := k + 1) (by omega) x)
       have HOE := Zd ((HOZ.out.set_ k (.int .i64 y)).set_ (k + 1) (.int .i64 x))
       have HX := Zd hx
       have HY := Zd hy
       have hgl := HRZ.out.lt (by omega)
       generalize (ys.set k y).getD (k + 1) 0 = v' at hy1
       have ht : ((k : Int) + 1).toNat = k + 1 := by omega
       have q1 : (0 : Int) <= (k : Int) := by omega
       have q2 : (k : Int) < (n : Int) := by omega
       have q3 : (0 : Int) <= (k : Int) + 1 := by omega
       have q4 : (k : Int) + 1 < (n : Int) := by omega
       have q5 : (k : Int) < (i : Int) - 1 := by omega
       clear hx hy hlen
       go_wp2
       go_region
       generalize (wr.setCell ⟨g, k, none⟩ (.int .i64 y)).setCell ⟨g, k + 1, none⟩ (.int .i64 x) = w3 at *
       clear hy1 hy2 x1 x2 f1
       go_wp2
       refine ⟨⟨k + 1, _, by omega, by omega, by go_num, HE.out.drew, ?_, ?_, HOE.out.drew⟩, by simp [intOf]; omega⟩
       . have h := HME.out
         unfold exch at h
         rwa [HX.out, HY.out] at h
       . have h := HSTEP.out
         unfold exch at h
         rwa [HX.out, HY.out] at h
     . have q5 : ¬ ((k : Int) < (i : Int) - 1) := by omega
       go_wp2
       refine bodyPost_ret (results_none' rfl _ _ _) rfl ?_
       exact ⟨rfl, ys, HRZ.out, HMZ.out, HSZ.out.done (by omega), HOZ.out⟩
end Go.Proofs.YtieglgahfeecbaaGreatDoor

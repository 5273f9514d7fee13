/- commute.Normal: the order by rising levels, and threads. -/
import Derived.Test.YtmllbailfbjoeaaSort7
import Derived.Test.YtmllbailfbjoeaaLevels
namespace Go.Proofs.Ytmllbailfbjoeaa
open Go.RowKit Go.Sort

def cmp3 (a b : Int) : Int := if a < b then -1 else if b < a then 1 else 0

set_option maxHeartbeats 400000 in
theorem compare_any (a b : Int) (w : World) :
    Calls Try.prog 93 #[.int .i64 a, .int .i64 b] w fun e w' => e = .returned (.int .i64 (cmp3 a b)) ∧ Below w.heap.size w w' := by
  go_enter Try.func93, Try.ntmps93
  go_wp2
  all_goals
    go_ret
    refine ⟨ret_int ?_, Below.refl _ _⟩
    unfold cmp3
    grind

/-- How two accesses, by their places, stand to each other. -/
def cmpS (ls : List Int) (l : List Acc) (x y : Int) : Int :=
  if ls.getD x.toNat 0 = ls.getD y.toNat 0 then cmp3 (l.getD x.toNat Acc.none).thread (l.getD y.toNat Acc.none).thread else cmp3 (ls.getD x.toNat 0) (ls.getD y.toNat 0)

set_option maxHeartbeats 4000000 in
set_option maxRecDepth 100000 in
theorem Normal1_any (bl bg : Nat) (V A : Option Addr) (n cv c : Nat) (ls : List Int) (l : List Acc) (x y : Int) (w : World) (hn : n ≤ 1048576) (hls : ls.length = n) (hll : l.length = n) (hx : 0 ≤ x ∧ x < n) (hy : 0 ≤ y ∧ y < n)
    (hc1 : w.cell? ⟨bl, 0, none⟩ = some (.slice V n cv)) (hc2 : w.cell? ⟨bg, 0, none⟩ = some (.slice A n c)) (hV : Rd w V (ints ls)) (hA : Rd w A (accs l)) :
    Calls Try.prog 92 #[.int .i64 x, .int .i64 y, .pointer (some ⟨bl, 0, none⟩), .pointer (some ⟨bg, 0, none⟩)] w fun e w' => e = .returned (.int .i64 (cmpS ls l x y)) ∧ Below w.heap.size w w' := by
  obtain ⟨hx1, hx2⟩ := hx
  obtain ⟨hy1, hy2⟩ := hy
  obtain ⟨x, rfl⟩ := Int.eq_ofNat_of_zero_le hx1
  obtain ⟨y, rfl⟩ := Int.eq_ofNat_of_zero_le hy1
  obtain ⟨b1, o1, rfl, hb1, hd1⟩ := hV.at_ (by rw [ints_length]; omega)
  obtain ⟨b2, o2, rfl, hb2, hd2⟩ := hA.at_ (by rw [accs_length]; omega)
  have v1 := hd1 x _ (ints_at (by omega))
  have v2 := hd1 y _ (ints_at (by omega))
  have a1 := (acc_cells hd2 (k := x) (by omega) rfl).1
  have a2 := (acc_cells hd2 (k := y) (by omega) rfl).1
  have HS := Lib.hid (show cmpS ls l x y = if ls.getD x 0 = ls.getD y 0 then cmp3 (l.getD x Acc.none).thread (l.getD y Acc.none).thread else cmp3 (ls.getD x 0) (ls.getD y 0) by unfold cmpS; simp)
  clear hV hA hd1 hd2 hls hll
  have k1 := cell_regrown hc1
  have k2 := cell_regrown hc2
  have k3 := cell_regrown v1
  have k4 := cell_regrown v2
  have k5 := cell_regrown a1
  have k6 := cell_regrown a2
  clear hc1 hc2 v1 v2 a1 a2
  generalize ls.getD x 0 = lx at *
  generalize ls.getD y 0 = ly at *
  generalize (l.getD x Acc.none).thread = tx at *
  generalize (l.getD y Acc.none).thread = ty at *
  by_cases he : lx = ly
  · subst he
    rw [if_pos rfl] at HS
    go_enter Try.func92, Try.ntmps92
    go_wp2
    refine wp_region_quiet_below (by kernel_rfl) (by kernel_rfl) ?_
    repeat (go_big_quiet_step (fail))
    refine wpQuiet_nil ?_
    intro _ hw'
    obtain ⟨⟨dq, osq⟩, hw''⟩ := hw'
    subst hw''
    go_wp2
    have z1 := k1 dq osq
    have z2 := k2 dq osq
    have z3 := k3 dq osq
    have z4 := k4 dq osq
    have z5 := k5 dq osq
    have z6 := k6 dq osq
    have HB := Lib.hid (below_regrown w dq osq)
    clear k1 k2 k3 k4 k5 k6
    generalize grow (redrawn w dq) osq = w2 at *
    have k1 := cell_regrown z1
    have k2 := cell_regrown z2
    have k3 := cell_regrown z3
    have k4 := cell_regrown z4
    have k5 := cell_regrown z5
    have k6 := cell_regrown z6
    clear z1 z2 z3 z4 z5 z6
    refine wp_region_quiet_below (by kernel_rfl) (by kernel_rfl) ?_
    repeat (go_big_quiet_step ((go_at_call 93; exact Calls.regrown_of (compare_any _ _ _))))
    refine wpQuiet_nil ?_
    intro _ hw'
    obtain ⟨⟨dq2, osq2⟩, hw''⟩ := hw'
    subst hw''
    go_wp2
    go_ret
    exact ⟨ret_int (by rw [HS.out]), HB.out.trans ((below_regrown w2 dq2 osq2).mono HB.out.size)⟩
  · rw [if_neg he] at HS
    have hne : (lx != ly) = true := by simp [he]
    clear he
    go_enter Try.func92, Try.ntmps92
    go_wp2
    refine wp_region_quiet_below (by kernel_rfl) (by kernel_rfl) ?_
    repeat (go_big_quiet_step (fail))
    refine wpQuiet_nil ?_
    intro _ hw'
    obtain ⟨⟨dq, osq⟩, hw''⟩ := hw'
    subst hw''
    go_wp2
    have z1 := k1 dq osq
    have z2 := k2 dq osq
    have z3 := k3 dq osq
    have z4 := k4 dq osq
    have z5 := k5 dq osq
    have z6 := k6 dq osq
    have HB := Lib.hid (below_regrown w dq osq)
    clear k1 k2 k3 k4 k5 k6
    generalize grow (redrawn w dq) osq = w2 at *
    have k1 := cell_regrown z1
    have k2 := cell_regrown z2
    have k3 := cell_regrown z3
    have k4 := cell_regrown z4
    have k5 := cell_regrown z5
    have k6 := cell_regrown z6
    clear z1 z2 z3 z4 z5 z6
    refine wp_region_quiet_below (by kernel_rfl) (by kernel_rfl) ?_
    repeat (go_big_quiet_step ((go_at_call 93; exact Calls.regrown_of (compare_any _ _ _))))
    refine wpQuiet_nil ?_
    intro _ hw'
    obtain ⟨⟨dq2, osq2⟩, hw''⟩ := hw'
    subst hw''
    go_wp2
    go_ret
    exact ⟨ret_int (by rw [HS.out]), HB.out.trans ((below_regrown w2 dq2 osq2).mono HB.out.size)⟩

/-- Accesses handed back in a row of the caller's own. -/
def RetAccs (l : List Acc) (w : World) (e : Ending) (w' : World) : Prop :=
  ∃ A c, e = .returned (.slice A l.length c) ∧ Rd w' A (accs l) ∧ l.length ≤ c ∧ Below w.heap.size w w'

theorem Normal1_enters : Enters 92 := enters_of Try.func92 (by kernel_rfl) (by kernel_rfl)

end Go.Proofs.Ytmllbailfbjoeaa

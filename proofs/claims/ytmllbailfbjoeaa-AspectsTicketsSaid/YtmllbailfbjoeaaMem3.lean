/- Add, Swap and Load of package mem, walked. -/
import Derived.Test.YtmllbailfbjoeaaMem2
namespace Go.Proofs.Ytmllbailfbjoeaa
open Go.RowKit Go.Sort

theorem add1_enters : Enters 133 := enters_of Try.func133 (by kernel_rfl) (by kernel_rfl)
theorem swap1_enters : Enters 130 := enters_of Try.func130 (by kernel_rfl) (by kernel_rfl)
theorem load1_enters : Enters 131 := enters_of Try.func131 (by kernel_rfl) (by kernel_rfl)

theorem load1_any (x : Int) (w : World) : Calls Try.prog 131 #[.int .u64 x] w (fun e w' => e = .returned (.tuple #[.int .u64 x, .bool true]) ∧ Below w.heap.size w w') := by
  go_enter Try.func131, Try.ntmps131
  go_wp2
  go_ret2
  exact ⟨rfl, Below.refl _ _⟩

theorem add1_any (x y : Int) (g : Nat) (w : World) (hx : 0 ≤ x) (hy : 0 ≤ y) (hs : x + y < 18446744073709551616) (hc : w.cell? ⟨g, 0, none⟩ = some (.int .u64 y)) : Calls Try.prog 133 #[.int .u64 x, .pointer (some ⟨g, 0, none⟩)] w (fun e w' => e = .returned (.tuple #[.int .u64 (x + y), .bool true]) ∧ Below w.heap.size w w') := by
  go_enter Try.func133, Try.ntmps133
  go_wp2
  go_ret2
  exact ⟨rfl, Below.refl _ _⟩

/-- What a swap leaves. -/
def swapV (x want y : Int) : Int := if x = want then y else x

theorem swap1_any (x want y : Int) (g g' : Nat) (w : World) (hc : w.cell? ⟨g, 0, none⟩ = some (.int .u64 want)) (hc' : w.cell? ⟨g', 0, none⟩ = some (.int .u64 y)) : Calls Try.prog 130 #[.int .u64 x, .pointer (some ⟨g, 0, none⟩), .pointer (some ⟨g', 0, none⟩)] w (fun e w' => e = .returned (.tuple #[.int .u64 (swapV x want y), .bool (decide (x = want))]) ∧ Below w.heap.size w w') := by
  by_cases h : x = want
  · have hb : (x != want) = false := by simp [h]
    have HH := Lib.hid h
    clear h
    go_enter Try.func130, Try.ntmps130
    go_wp2
    go_ret2
    exact ⟨by simp [swapV, HH.out], Below.refl _ _⟩
  · have hb : (x != want) = true := by simpa using h
    have HH := Lib.hid h
    clear h
    go_enter Try.func130, Try.ntmps130
    go_wp2
    go_ret2
    exact ⟨by simp [swapV, HH.out], Below.refl _ _⟩

theorem MPost.alloc {gw gm B : Nat} {cb : Option Nat} {ws : List Int} {w w' : World} (h : MPost gw gm B cb ws w w') (o : Obj) : MPost gw gm B cb ws w (w'.alloc o) := by
  obtain ⟨cb', cs, AC, cc, hM, hK, hC⟩ := h
  exact ⟨cb', cs, AC, cc, hM.alloc o, hK.alloc o, hC⟩
theorem MPost.from_ {gw gm B : Nat} {cb : Option Nat} {ws : List Int} {w w1 w' : World} (h : MPost gw gm B cb ws w1 w') (hb : Below w.heap.size w w1) : MPost gw gm B cb ws w w' := MPost.trans (.of_below hb) (.inl rfl) h

set_option maxHeartbeats 4000000 in
set_option maxRecDepth 100000 in
theorem Load_any (gw gm B : Nat) (cb : Option Nat) (ws cs : List Int) (AC : Option Addr) (cc : Nat) (t k : Nat) (w : World) (ht : t < 64) (hk : k < ws.length) (hwl : ws.length ≤ 1048576) (hM : MAt gw gm B cb ws w cs AC cc) :
    Calls Try.prog 123 #[.pointer (some ⟨gm, 0, none⟩), .int .i64 t, .int .i64 k] w (fun e w' => e = .returned (.tuple #[.int .u64 (ws.getD k 0), .int .i64 0]) ∧ MPost gw gm B cb ws w w') := by
  have hset : ws.set k (ws.getD k 0) = ws := by
    apply List.ext_getElem
    · simp
    · intro i h1 h2
      simp only [List.getElem_set]
      split
      · rename_i h; subst h; simp [List.getD, hk]
      · rfl
  have HD := Lib.hid (do_any gw gm B cb ws cs AC cc t k 1 0 (ws.getD k 0) true 131 #[] w ht hk hwl hM load1_enters (fun w' _ => load1_any _ w'))
  rw [hset] at HD
  clear hM hset
  generalize ws.getD k 0 = x at *
  go_enter Try.func123, Try.ntmps123
  go_wp2_with (first | (refine HD.out.mono ?_; rintro e w1 ⟨rfl, hP⟩; have HP := Lib.hid hP; clear hP))
  go_ret2
  exact ⟨rfl, HP.out.alloc _⟩

set_option maxHeartbeats 4000000 in
set_option maxRecDepth 100000 in
theorem Add_any (gw gm B : Nat) (cb : Option Nat) (ws cs : List Int) (AC : Option Addr) (cc : Nat) (t k : Nat) (y : Int) (w : World) (ht : t < 64) (hk : k < ws.length) (hwl : ws.length ≤ 1048576) (hM : MAt gw gm B cb ws w cs AC cc) (hx : 0 ≤ ws.getD k 0) (hy : 0 ≤ y) (hs : ws.getD k 0 + y < 18446744073709551616) :
    Calls Try.prog 128 #[.pointer (some ⟨gm, 0, none⟩), .int .i64 t, .int .i64 k, .int .u64 y] w (fun e w' => e = .returned (.tuple #[.int .u64 (ws.getD k 0), .int .i64 0]) ∧ MPost gw gm B cb (ws.set k (ws.getD k 0 + y)) w w') := by
  have HD := Lib.hid (do_any gw gm B cb ws cs AC cc t k 4 0 (ws.getD k 0 + y) true 133 #[.pointer (some ⟨w.heap.size, 0, none⟩)] (w.alloc (.cells #[.int .u64 y] 42)) ht hk hwl (hM.alloc _) add1_enters (fun w' hb => add1_any _ y w.heap.size w' hx hy hs (by rw [hb.cell (p := ⟨w.heap.size, 0, none⟩) (by simp)]; simp)))
  have HB := Lib.hid (show Below w.heap.size w (w.alloc (.cells #[.int .u64 y] 42)) from (Below.refl _ _).alloc (Nat.le_refl _) _)
  clear hM
  generalize ws.getD k 0 = x at *
  go_enter Try.func128, Try.ntmps128
  go_wp2_with (first | (refine HD.out.mono ?_; rintro e w1 ⟨rfl, hP⟩; have HP := Lib.hid hP; clear hP))
  go_ret2
  exact ⟨rfl, (HP.out.from_ HB.out).alloc _⟩

set_option maxHeartbeats 4000000 in
set_option maxRecDepth 100000 in
theorem Swap_any (gw gm B : Nat) (cb : Option Nat) (ws cs : List Int) (AC : Option Addr) (cc : Nat) (t k : Nat) (want y : Int) (w : World) (ht : t < 64) (hk : k < ws.length) (hwl : ws.length ≤ 1048576) (hM : MAt gw gm B cb ws w cs AC cc) :
    Calls Try.prog 120 #[.pointer (some ⟨gm, 0, none⟩), .int .i64 t, .int .i64 k, .int .u64 want, .int .u64 y] w (fun e w' => e = .returned (.tuple #[.bool (decide (ws.getD k 0 = want)), .int .i64 0]) ∧ MPost gw gm B cb (ws.set k (swapV (ws.getD k 0) want y)) w w') := by
  have HD := Lib.hid (do_any gw gm B cb ws cs AC cc t k 3 want (swapV (ws.getD k 0) want y) (decide (ws.getD k 0 = want)) 130 #[.pointer (some ⟨w.heap.size, 0, none⟩), .pointer (some ⟨w.heap.size + 1, 0, none⟩)] ((w.alloc (.cells #[.int .u64 want] 42)).alloc (.cells #[.int .u64 y] 42)) ht hk hwl ((hM.alloc _).alloc _) swap1_enters (fun w' hb => swap1_any _ want y w.heap.size (w.heap.size + 1) w' (by rw [hb.cell (p := ⟨w.heap.size, 0, none⟩) (by simp; omega), World.cell?_alloc_lt _ _ _ (by simp)]; simp) (by
    rw [hb.cell (p := ⟨w.heap.size + 1, 0, none⟩) (by simp)]
    simp)))
  have HB := Lib.hid (show Below w.heap.size w ((w.alloc (.cells #[.int .u64 want] 42)).alloc (.cells #[.int .u64 y] 42)) from ((Below.refl _ _).alloc (Nat.le_refl _) _).alloc (by simp) _)
  clear hM
  generalize decide (ws.getD k 0 = want) = d at *
  generalize swapV (ws.getD k 0) want y = z at *
  generalize ws.getD k 0 = x at *
  go_enter Try.func120, Try.ntmps120
  go_wp2_with (first | (refine HD.out.mono ?_; rintro e w1 ⟨rfl, hP⟩; have HP := Lib.hid hP; clear hP))
  go_ret2
  exact ⟨rfl, (HP.out.from_ HB.out).alloc _⟩

end Go.Proofs.Ytmllbailfbjoeaa

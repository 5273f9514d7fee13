/- The document's calls of a queue: well, tries, took. -/
import Derived.Test.YtmllbailfbjoeaaAsp1
namespace Go.Proofs.Ytmllbailfbjoeaa
open Go.RowKit Go.Sort

set_option maxHeartbeats 400000 in
theorem rwell_any (x : Kall) (w : World) : Calls Try.prog 77 #[kallV x] w fun e w' => e = .returned (.bool (doneB x)) ∧ Below w.heap.size w w' := by
  unfold kallV
  cases ho : x.opn
  all_goals
    go_enter Try.func77, Try.ntmps77
    go_wp2
    go_ret
    exact ⟨ret_bool (by simp [doneB, ho]), (Below.refl _ _).alloc (Nat.le_refl _) _⟩

theorem take_succ_K (l : List Kall) (j : Nat) (h : j < l.length) : l.take (j + 1) = l.take j ++ [l.getD j Kall.none] := take_succ_getD l Kall.none j h

abbrev rkbox (x : Kall) : Obj := .cells #[.int .i64 x.beg, .int .i64 x.fin, .bool x.opn, .bool x.put, .int .i64 x.value, .int .i64 x.code] 88

theorem puts_step {l : List Kall} {k : Nat} {v : Int} (h : k < l.length) : (putsS (l.take (k + 1)) v).length = (putsS (l.take k) v).length + (if ((l.getD k Kall.none).put && (l.getD k Kall.none).value == v) = true then 1 else 0) := by
  unfold putsS
  rw [take_succ_K l k h, List.filter_append, List.length_append]
  congr 1
  generalize l.getD k Kall.none = x
  simp only [List.filter_cons, List.filter_nil, noPut]
  by_cases h1 : x.put = true <;> by_cases h2 : x.value = v <;> simp [h1, h2]

theorem puts_take_le (l : List Kall) (v : Int) (k : Nat) : (putsS (l.take k) v).length ≤ k := by
  have := List.length_filter_le (fun x => !noPut v x) (l.take k)
  simp only [List.length_take] at this
  unfold putsS
  omega

set_option maxHeartbeats 1000000 in
set_option maxRecDepth 100000 in
theorem tries_any (A : Option Addr) (c : Nat) (l : List Kall) (v : Int) (w : World) (hl : l.length ≤ 1048576) (hR : Rd w A (rows l)) :
    Calls Try.prog 82 #[.slice A l.length c, .int .i64 v] w fun e w' => e = .returned (.int .i64 ((putsS l v).length : Nat)) ∧ Below w.heap.size w w' := by
  have HR := Lib.hid hR
  clear hR
  generalize hn : l.length = n at *
  have HN := Lib.hid hn
  clear hn
  go_enter Try.func82, Try.ntmps82
  go_wp2
  go_loopg [5, 10] n (fun g a i wr => ∃ (k : Nat), k ≤ n ∧ g = n - k ∧ i = .int .i64 k ∧ a = .int .i64 (((putsS (l.take k) v).length : Nat) : Int) ∧ Below w.heap.size w wr)
  case atStart => exact ⟨0, Nat.zero_le _, rfl, rfl, by simp [putsS], Below.refl _ _⟩
  case round =>
    obtain ⟨k, hk, hg, rfl, rfl, hb⟩ := hrel
    have HG := Lib.hid hg
    have HB := Lib.hid hb
    have p1 := puts_take_le l v k
    clear hg hb
    by_cases hlt : k < n
    · have hkl : k < l.length := by rw [HN.out]; exact hlt
      obtain ⟨b, o, rfl, hbl, hc⟩ := HR.out.at_ (by rw [rows_length]; exact Nat.mul_pos (by omega) (by decide))
      have hcr : ∀ j u, (rows l)[j]? = some u → wr.cell? ⟨b, o + j, none⟩ = some u := fun j u hj => by
        rw [HB.out.cell (p := ⟨b, o + j, none⟩) hbl]; exact hc j u hj
      have HS1 := Lib.hid (puts_step (v := v) hkl)
      generalize hx : l.getD k Kall.none = x at *
      obtain ⟨c0, c1, c2, c3, c4, c5⟩ := kall_cells hcr hkl hx
      clear hc hcr hx hkl
      generalize (putsS (l.take k) v).length = pn at *
      have q1 : (0 : Int) ≤ (k : Int) := by omega
      have q2 : (k : Int) < (n : Int) := by omega
      cases hp : x.put
      · rw [hp] at c3 HS1
        go_wp2
        go_roundg (n - (k + 1))
        case measure => rw [HG.out]; omega
        case rel => exact ⟨k + 1, by omega, rfl, by go_num, by rw [HS1.out]; rfl, HB.out.alloc HB.out.size _⟩
      · rw [hp] at c3 HS1
        cases hv : (x.value == v)
        all_goals
          rw [hv] at HS1
          go_wp2
          go_roundg (n - (k + 1))
          case measure => rw [HG.out]; omega
          case rel => exact ⟨k + 1, by omega, rfl, by go_num, by rw [HS1.out]; first | rfl | go_num, HB.out.alloc HB.out.size _⟩
    · obtain rfl : k = n := by omega
      rw [List.take_of_length_le (by rw [HN.out]; omega)]
      go_wp2
      go_ret
      exact ⟨rfl, HB.out⟩

/-- The first of them. -/
def headK (l : List Kall) : Kall := l.getD 0 Kall.none

end Go.Proofs.Ytmllbailfbjoeaa

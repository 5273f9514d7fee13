/- aspects: Counts. -/
import Derived.Test.YtmllbailfbjoeaaAsp4
namespace Go.Proofs.Ytmllbailfbjoeaa
open Go.RowKit Go.Sort

def putN (l : List Kall) : Nat := (l.filter fun x => doneB x && x.put).length
def tookN (l : List Kall) : Nat := (l.filter fun x => doneB x && !x.put).length

theorem putN_le (l : List Kall) (k : Nat) : putN (l.take k) ≤ k := ints_len_filter l _ k
theorem tookN_le (l : List Kall) (k : Nat) : tookN (l.take k) ≤ k := ints_len_filter l _ k
theorem putN_step {l : List Kall} {k : Nat} (h : k < l.length) : putN (l.take (k + 1)) = putN (l.take k) + (if (doneB (l.getD k Kall.none) && (l.getD k Kall.none).put) = true then 1 else 0) := by
  unfold putN
  by_cases hc : (doneB (l.getD k Kall.none) && (l.getD k Kall.none).put) = true
  · rw [if_pos hc, filter_take_yes (p := fun x => doneB x && x.put) (d := Kall.none) h hc]; simp
  · rw [if_neg hc, filter_take_no (p := fun x => doneB x && x.put) (d := Kall.none) h (by simpa using hc)]; rfl
theorem tookN_step {l : List Kall} {k : Nat} (h : k < l.length) : tookN (l.take (k + 1)) = tookN (l.take k) + (if (doneB (l.getD k Kall.none) && !(l.getD k Kall.none).put) = true then 1 else 0) := by
  unfold tookN
  by_cases hc : (doneB (l.getD k Kall.none) && !(l.getD k Kall.none).put) = true
  · rw [if_pos hc, filter_take_yes (p := fun x => doneB x && !x.put) (d := Kall.none) h hc]; simp
  · rw [if_neg hc, filter_take_no (p := fun x => doneB x && !x.put) (d := Kall.none) h (by simpa using hc)]; rfl

set_option maxHeartbeats 4000000 in
set_option maxRecDepth 100000 in
theorem Counts_any (A : Option Addr) (c : Nat) (ns : List Nte) (w : World) (hl : ns.length ≤ 1048576) (hok : ThreadsOk ns) (hR : Rd w A (rows ns)) :
    Calls Try.prog 31 #[.slice A ns.length c] w fun e w' => e = .returned (.tuple #[.int .i64 (putN (callsS ns)), .int .i64 (tookN (callsS ns))]) ∧ Below w.heap.size w w' := by
  have HC := Lib.hid (calls_any A c ns w hl hok hR)
  have hcl := calls_len ns
  clear hok hR
  generalize ns.length = nn at *
  generalize callsS ns = l at *
  generalize hn : l.length = n at *
  have HN := Lib.hid hn
  clear hn
  go_enter Try.func31, Try.ntmps31
  go_wp2_with fail
  refine HC.out.mono ?_
  rintro e w1 ⟨L, cl, rfl, hrd, _, _, hb1⟩
  rw [HN.out]
  have HRD := Lib.hid hrd
  have HB1 := Lib.hid hb1
  clear hrd hb1
  go_wp2
  go_loopg [2, 3, 9] n (fun g a b i wr => ∃ (k : Nat), k ≤ n ∧ g = n - k ∧ i = .int .i64 k ∧ a = .int .i64 ((putN (l.take k) : Nat) : Int) ∧ b = .int .i64 ((tookN (l.take k) : Nat) : Int) ∧ Below w1.heap.size w1 wr)
  case atStart => exact ⟨0, Nat.zero_le _, rfl, rfl, rfl, rfl, Below.refl _ _⟩
  case round =>
    obtain ⟨k, hk, hg, rfl, rfl, rfl, hb⟩ := hrel
    have HG := Lib.hid hg
    have HB := Lib.hid hb
    have p1 := putN_le l k
    have p2 := tookN_le l k
    clear hg hb
    by_cases hlt : k < n
    · have hkl : k < l.length := by rw [HN.out]; exact hlt
      obtain ⟨b, o, rfl, hbl, hc⟩ := HRD.out.at_ (by rw [rows_length]; exact Nat.mul_pos (by omega) (by decide))
      have hcr : ∀ j v, (rows l)[j]? = some v → wr.cell? ⟨b, o + j, none⟩ = some v := fun j v hj => by
        rw [HB.out.cell (p := ⟨b, o + j, none⟩) hbl]; exact hc j v hj
      have HS1 := Lib.hid (putN_step hkl)
      have HS2 := Lib.hid (tookN_step hkl)
      generalize hx : l.getD k Kall.none = x at *
      obtain ⟨c0, c1, c2, c3, c4, c5⟩ := kall_cells hcr hkl hx
      clear hc hcr hx hkl
      generalize putN (l.take k) = pn at *
      generalize tookN (l.take k) = tn at *
      have q1 : (0 : Int) ≤ (k : Int) := by omega
      have q2 : (k : Int) < (n : Int) := by omega
      have HD := Lib.hid (done_any x)
      have HB2 := Lib.hid (HB.out.alloc HB.out.size (kbox x))
      cases hd : doneB x
      · rw [hd] at HD HS1 HS2
        go_wp2_with fail
        refine (HD.out _).mono ?_
        rintro e w2 ⟨rfl, hb2⟩
        go_wp2
        go_roundg (n - (k + 1))
        case measure => rw [HG.out]; omega
        case rel => exact ⟨k + 1, by omega, rfl, by go_num, by rw [HS1.out]; rfl, by rw [HS2.out]; rfl, HB2.out.trans (hb2.mono HB2.out.size)⟩
      · rw [hd] at HD HS1 HS2
        go_wp2_with fail
        refine (HD.out _).mono ?_
        rintro e w2 ⟨rfl, hb2⟩
        have hbx : w2.cell? ⟨wr.heap.size, 3, none⟩ = some (.bool x.put) := by
          rw [hb2.cell (p := ⟨wr.heap.size, 3, none⟩) (by simp), World.cell?_alloc_at (hn := rfl)]; rfl
        have HB3 := Lib.hid (HB2.out.trans (hb2.mono HB2.out.size))
        clear hb2
        generalize hp : x.put = xp at *
        cases xp
        all_goals
          go_wp2
          go_roundg (n - (k + 1))
          case measure => rw [HG.out]; omega
          case rel => exact ⟨k + 1, by omega, rfl, by go_num, by rw [HS1.out]; first | rfl | go_num, by rw [HS2.out]; first | rfl | go_num, HB3.out⟩
    · obtain rfl : k = n := by omega
      rw [List.take_of_length_le (by rw [HN.out]; omega)]
      go_wp2
      go_ret2
      exact ⟨rfl, HB1.out.trans (HB.out.mono HB1.out.size)⟩

end Go.Proofs.Ytmllbailfbjoeaa

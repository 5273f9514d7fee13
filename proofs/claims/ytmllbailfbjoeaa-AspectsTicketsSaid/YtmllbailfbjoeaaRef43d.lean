/- The document's end of a call. -/
import Derived.Test.YtmllbailfbjoeaaCalls
namespace Go.Proofs.Ytmllbailfbjoeaa
open Go.RowKit Go.Sort

/-- The place of the note that ends a thread's call; -1: none. -/
def endL (th : Int) : List Nte → Nat → Int
  | [], _ => -1
  | n :: r, j => if n.thread = th then (if n.kind = 1 then -1 else if n.kind = 3 then (j : Int) else endL th r (j + 1)) else endL th r (j + 1)
def endS (ns : List Nte) (i : Nat) : Int := endL (ns.getD i Nte.none).thread (ns.drop (i + 1)) (i + 1)

theorem endL_step {ns : List Nte} {th : Int} {k : Nat} (h : k < ns.length) : endL th (ns.drop k) k = if (ns.getD k Nte.none).thread = th then (if (ns.getD k Nte.none).kind = 1 then -1 else if (ns.getD k Nte.none).kind = 3 then (k : Int) else endL th (ns.drop (k + 1)) (k + 1)) else endL th (ns.drop (k + 1)) (k + 1) := by
  rw [List.drop_eq_getElem_cons h, endL]
  simp [List.getD, h]

set_option maxHeartbeats 4000000 in
set_option maxRecDepth 100000 in
theorem end_any (A : Option Addr) (c : Nat) (ns : List Nte) (i : Nat) (w : World) (hl : ns.length ≤ 1048576) (hi : i < ns.length) (hR : Rd w A (rows ns)) :
    Calls Try.prog 111 #[.slice A ns.length c, .int .i64 (i : Int)] w fun e w' => e = .returned (.int .i64 (endS ns i)) ∧ Below w.heap.size w w' := by
  have HR := Lib.hid hR
  have HI := Lib.hid hi
  have HES : RowKit.Hid (endS ns i = endL (ns.getD i Nte.none).thread (ns.drop (i + 1)) (i + 1)) := Lib.hid rfl
  generalize hx0 : ns.getD i Nte.none = x0 at *
  have HX0 := Lib.hid hx0
  clear hR hx0
  generalize hn : ns.length = n at *
  have HN := Lib.hid hn
  clear hn
  go_enter Try.func111, Try.ntmps111
  go_wp2
  go_loopg [5] (n - (i + 1)) (fun g j wr => ∃ (k d : Nat), i < k ∧ k ≤ n ∧ g = n - k ∧ j = .int .i64 k ∧ wr = w.drewN d ∧ endS ns i = endL x0.thread (ns.drop k) k)
  case atStart => exact ⟨i + 1, 0, by omega, by omega, rfl, by go_num, rfl, HES.out⟩
  case round =>
    obtain ⟨k, d, hik, hk, hg, rfl, rfl, he⟩ := hrel
    have HG := Lib.hid hg
    have HE := Lib.hid he
    clear hg he
    by_cases hlt : k < n
    · have hkl : k < ns.length := by rw [HN.out]; exact hlt
      obtain ⟨b, o, rfl, hbl, hc⟩ := HR.out.at_ (by rw [rows_length]; exact Nat.mul_pos (by omega) (by decide))
      have HST := Lib.hid (endL_step (th := x0.thread) hkl)
      generalize hx : ns.getD k Nte.none = x at *
      obtain ⟨c0, c1, _⟩ := note_cells hc hkl hx
      obtain ⟨_, d1, _⟩ := note_cells hc (by rw [HN.out]; exact HI.out) HX0.out
      clear hc hx hkl
      have q1 : (0 : Int) ≤ (k : Int) := by omega
      have q2 : (k : Int) < (n : Int) := by omega
      have q3 : (0 : Int) ≤ (i : Int) := by omega
      have q4 : (i : Int) < (n : Int) := by omega
      by_cases hth : x.thread = x0.thread
      · have t1 : (x.thread != x0.thread) = false := by simp [hth]
        have HTH := Lib.hid hth
        clear hth
        by_cases h1 : x.kind = 1
        · have t2 : (x.kind == 1) = true := by simp [h1]
          have H1 := Lib.hid h1
          clear h1
          go_wp2
          go_quiet (fail)
          go_wp2
          go_ret
          exact ⟨ret_int (by rw [HE.out, HST.out, if_pos HTH.out, if_pos H1.out]), Below.drewN' (Below.refl _ _) _⟩
        · have t2 : (x.kind == 1) = false := by simpa using h1
          by_cases h3 : x.kind = 3
          · have t3 : (x.kind == 3) = true := by simp [h3]
            have H1 := Lib.hid (And.intro h1 h3)
            clear h1 h3
            go_wp2
            go_quiet (fail)
            go_wp2
            go_ret
            exact ⟨ret_int (by rw [HE.out, HST.out, if_pos HTH.out, if_neg H1.out.1, if_pos H1.out.2]), Below.drewN' (Below.refl _ _) _⟩
          · have t3 : (x.kind == 3) = false := by simpa using h3
            have H1 := Lib.hid (And.intro h1 h3)
            clear h1 h3
            go_wp2
            go_quiet (fail)
            go_wp2
            go_roundg (n - (k + 1))
            case measure => rw [HG.out]; omega
            case rel => exact ⟨k + 1, d + nq, by omega, by omega, rfl, by go_num, rfl, by rw [HE.out, HST.out, if_pos HTH.out, if_neg H1.out.1, if_neg H1.out.2]⟩
      · have t1 : (x.thread != x0.thread) = true := by simpa using hth
        have HTH := Lib.hid hth
        clear hth
        go_wp2
        go_quiet (fail)
        go_wp2
        go_roundg (n - (k + 1))
        case measure => rw [HG.out]; omega
        case rel => exact ⟨k + 1, d + nq, by omega, by omega, rfl, by go_num, rfl, by rw [HE.out, HST.out, if_neg HTH.out]⟩
    · obtain rfl : k = n := by omega
      go_wp2
      go_ret
      exact ⟨ret_int (by rw [HE.out, List.drop_of_length_le (by rw [HN.out]; omega)]; rfl), Below.drewN' (Below.refl _ _) _⟩

end Go.Proofs.Ytmllbailfbjoeaa

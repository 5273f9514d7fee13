/- The document's digits of a word, hexadecimal and decimal: two functions that call themselves, walked. -/
import Derived.Test.YtknlhkkpheahlaaDoorHex1
import Derived.Test.YtknlhkkpheahlaaDoorFmtU
import Derived.Deep.RegionHeld3
import Derived.OwnWalk
namespace Go.Proofs.YtknlhkkpheahlaaDoor
open Go.RowKit Go.Sort Go.Lib

theorem vhex_piece (d : Nat) (h : d < 16) : (⟨#[48, 49, 50, 51, 52, 53, 54, 55, 56, 57, 97, 98, 99, 100, 101, 102]⟩ : ByteArray).extract d (d + 1) = ⟨#[hexd d]⟩ := by
  have : ∀ d : Fin 16, (⟨#[48, 49, 50, 51, 52, 53, 54, 55, 56, 57, 97, 98, 99, 100, 101, 102]⟩ : ByteArray).extract (d : Nat) ((d : Nat) + 1) = ⟨#[hexd d]⟩ := by decide +kernel
  exact this ⟨d, h⟩
def decd (d : Nat) : UInt8 := UInt8.ofNat (48 + d)
theorem vdec_piece (d : Nat) (h : d < 10) : (⟨#[48, 49, 50, 51, 52, 53, 54, 55, 56, 57]⟩ : ByteArray).extract d (d + 1) = ⟨#[decd d]⟩ := by
  have : ∀ d : Fin 10, (⟨#[48, 49, 50, 51, 52, 53, 54, 55, 56, 57]⟩ : ByteArray).extract (d : Nat) ((d : Nat) + 1) = ⟨#[decd d]⟩ := by decide +kernel
  exact this ⟨d, h⟩
theorem dec_last {u : Nat} (h : u < 10) : Lib.decDigits u = [decd u] := by rw [Lib.decDigits, dif_pos h]; rfl
theorem dec_step {u : Nat} (h : 10 ≤ u) : Lib.decDigits u = Lib.decDigits (u / 10) ++ [decd (u % 10)] := by rw [Lib.decDigits, dif_neg (by omega)]; rfl
theorem hexS_size (u : Nat) (h : u < 18446744073709551616) : (hexS u).size ≤ 16 := by
  have h1 := hex_length 15 u (by simpa using h)
  exact h1
theorem udecS_size (u : Nat) (h : u < 18446744073709551616) : (udecS u).size ≤ 20 := by
  have h1 := Lib.nDigits_le20 u h
  rw [← Lib.decDigits_length] at h1
  exact h1

set_option maxHeartbeats 4000000 in
set_option maxRecDepth 100000 in
theorem vhex_small (u : Nat) (hu : u < 16) (w : World) :
    Calls Tryd.prog 54 #[.int .u64 u] w fun e w' => e = .returned (.string (hexS u)) ∧ Below w.heap.size w w' := by
  have HP := Lib.hid (vhex_piece u hu)
  have q1 : (0 : Int) ≤ (u : Int) := by omega
  have q2 : (u : Int) < 16 := by omega
  have q3 : (u : Int) + 1 ≤ 16 := by omega
  have q4 : (u : Int) ≤ (u : Int) + 1 := by omega
  have w1 : IntKind.u64.wrap ((u : Int) + 1) = (u : Int) + 1 := IntWalk.u64_in _ (by omega)
  have HS := Lib.hid (show hexS u = ⟨#[hexd u]⟩ by unfold hexS; rw [hex_last hu])
  go_enter Tryd.func54, Tryd.ntmps54
  go_wp2
  go_ret
  exact ⟨by rw [HS.out, ← HP.out]; rfl, Below.refl _ _⟩

set_option maxHeartbeats 4000000 in
set_option maxRecDepth 100000 in
theorem vhex_any : ∀ (n u : Nat) (w : World), u < 16 ^ (n + 1) → u < 18446744073709551616 →
    Calls Tryd.prog 54 #[.int .u64 u] w fun e w' => e = .returned (.string (hexS u)) ∧ Below w.heap.size w w'
  | 0, u, w, h, _ => vhex_small u (by simpa using h) w
  | n + 1, u, w, h, hu => by
    by_cases hs : u < 16
    · exact vhex_small u hs w
    have HIH := Lib.hid (fun W => vhex_any n (u / 16) W (by rw [Nat.div_lt_iff_lt_mul (by decide)]; rw [Nat.pow_succ] at h; exact h) (by omega))
    rw [show ((u / 16 : Nat) : Int) = (u : Int) / 16 by omega] at HIH
    have HP := Lib.hid (vhex_piece (u % 16) (by omega))
    have HS := Lib.hid (show hexS u = hexS (u / 16) ++ ⟨#[hexd (u % 16)]⟩ by unfold hexS; rw [hex_step (by omega)]; simp [ByteArray.ext_iff])
    have hsz := hexS_size (u / 16) (by omega)
    have d1 : ¬ 9223372036854775807 < (hexS (u / 16)).size + 1 := by omega
    have d2 : ¬ 9223372036854775807 < 1 + (hexS (u / 16)).size := by omega
    have t0 : ¬ (u : Int) < 16 := by omega
    have q1 : (0 : Int) ≤ (u : Int) % 16 := by omega
    have q2 : (u : Int) % 16 < 16 := by omega
    have q3 : (u : Int) % 16 + 1 ≤ 16 := by omega
    have q4 : (u : Int) % 16 ≤ (u : Int) % 16 + 1 := by omega
    have w1 : IntKind.u64.wrap ((u : Int) % 16 + 1) = (u : Int) % 16 + 1 := IntWalk.u64_in _ (by omega)
    have w0 : IntKind.u64.wrap ((u : Int) / 16) = (u : Int) / 16 := IntWalk.u64_in _ (by omega)
    have tm : (u : Int).tmod 16 = (u : Int) % 16 := Int.tmod_eq_emod_of_nonneg (by omega)
    have hm : min (u % 16 + 1) 16 - u % 16 = 1 := by omega
    have t1 : ((u : Int) % 16).toNat = u % 16 := by omega
    have t2 : ((u : Int) % 16 + 1).toNat = u % 16 + 1 := by omega
    have hq2 : ((⟨#[48, 49, 50, 51, 52, 53, 54, 55, 56, 57, 97, 98, 99, 100, 101, 102]⟩ : ByteArray).extract ((u : Int) % 16).toNat ((u : Int) % 16 + 1).toNat).size = 1 := by rw [t1, t2, HP.out]; rfl
    have d3 : ¬ 9223372036854775807 < (hexS (u / 16)).size + (min (u % 16 + 1) 16 - u % 16) := by omega
    have hz : (⟨#[48, 49, 50, 51, 52, 53, 54, 55, 56, 57, 97, 98, 99, 100, 101, 102]⟩ : ByteArray).size = 16 := rfl
    have hq : ((⟨#[48, 49, 50, 51, 52, 53, 54, 55, 56, 57, 97, 98, 99, 100, 101, 102]⟩ : ByteArray).extract (u % 16) (u % 16 + 1)).size = 1 := by rw [HP.out]; rfl
    generalize hexS (u / 16) = b at *
    generalize hexS u = R at *
    clear h hs hsz
    go_enter Tryd.func54, Tryd.ntmps54
    go_wp2_with fail
    go_region_held3 (fun _ => True) (trivial) (first
      | (go_at_call 54; (with_reducible refine (HIH.out w.drew).mono ?_); rintro e w2 ⟨rfl, hb2⟩; have hB2 : Below w.heap.size w w2 := ⟨hb2.os, hb2.tape, hb2.output, hb2.size, hb2.block⟩))
    all_goals
      go_wp2
      go_ret
      exact ⟨by rw [HS.out, ← HP.out]; rfl, hB2⟩

set_option maxHeartbeats 4000000 in
set_option maxRecDepth 100000 in
theorem vdec_small (u : Nat) (hu : u < 10) (w : World) :
    Calls Tryd.prog 55 #[.int .u64 u] w fun e w' => e = .returned (.string (udecS u)) ∧ Below w.heap.size w w' := by
  have HP := Lib.hid (vdec_piece u hu)
  have q1 : (0 : Int) ≤ (u : Int) := by omega
  have q2 : (u : Int) < 10 := by omega
  have q3 : (u : Int) + 1 ≤ 10 := by omega
  have q4 : (u : Int) ≤ (u : Int) + 1 := by omega
  have w1 : IntKind.u64.wrap ((u : Int) + 1) = (u : Int) + 1 := IntWalk.u64_in _ (by omega)
  have HS := Lib.hid (show udecS u = ⟨#[decd u]⟩ by unfold udecS; rw [dec_last hu])
  go_enter Tryd.func55, Tryd.ntmps55
  go_wp2
  go_ret
  exact ⟨by rw [HS.out, ← HP.out]; rfl, Below.refl _ _⟩

set_option maxHeartbeats 4000000 in
set_option maxRecDepth 100000 in
theorem vdec_any : ∀ (n u : Nat) (w : World), u < 10 ^ (n + 1) → u < 18446744073709551616 →
    Calls Tryd.prog 55 #[.int .u64 u] w fun e w' => e = .returned (.string (udecS u)) ∧ Below w.heap.size w w'
  | 0, u, w, h, _ => vdec_small u (by simpa using h) w
  | n + 1, u, w, h, hu => by
    by_cases hs : u < 10
    · exact vdec_small u hs w
    have HIH := Lib.hid (fun W => vdec_any n (u / 10) W (by rw [Nat.div_lt_iff_lt_mul (by decide)]; rw [Nat.pow_succ] at h; exact h) (by omega))
    rw [show ((u / 10 : Nat) : Int) = (u : Int) / 10 by omega] at HIH
    have HP := Lib.hid (vdec_piece (u % 10) (by omega))
    have HS := Lib.hid (show udecS u = udecS (u / 10) ++ ⟨#[decd (u % 10)]⟩ by unfold udecS; rw [dec_step (by omega)]; simp [ByteArray.ext_iff])
    have hsz := udecS_size (u / 10) (by omega)
    have d1 : ¬ 9223372036854775807 < (udecS (u / 10)).size + 1 := by omega
    have d2 : ¬ 9223372036854775807 < 1 + (udecS (u / 10)).size := by omega
    have t0 : ¬ (u : Int) < 10 := by omega
    have q1 : (0 : Int) ≤ (u : Int) % 10 := by omega
    have q2 : (u : Int) % 10 < 10 := by omega
    have q3 : (u : Int) % 10 + 1 ≤ 10 := by omega
    have q4 : (u : Int) % 10 ≤ (u : Int) % 10 + 1 := by omega
    have w1 : IntKind.u64.wrap ((u : Int) % 10 + 1) = (u : Int) % 10 + 1 := IntWalk.u64_in _ (by omega)
    have w0 : IntKind.u64.wrap ((u : Int) / 10) = (u : Int) / 10 := IntWalk.u64_in _ (by omega)
    have tm : (u : Int).tmod 10 = (u : Int) % 10 := Int.tmod_eq_emod_of_nonneg (by omega)
    have hm : min (u % 10 + 1) 10 - u % 10 = 1 := by omega
    have t1 : ((u : Int) % 10).toNat = u % 10 := by omega
    have t2 : ((u : Int) % 10 + 1).toNat = u % 10 + 1 := by omega
    have hq2 : ((⟨#[48, 49, 50, 51, 52, 53, 54, 55, 56, 57]⟩ : ByteArray).extract ((u : Int) % 10).toNat ((u : Int) % 10 + 1).toNat).size = 1 := by rw [t1, t2, HP.out]; rfl
    have d3 : ¬ 9223372036854775807 < (udecS (u / 10)).size + (min (u % 10 + 1) 10 - u % 10) := by omega
    have hz : (⟨#[48, 49, 50, 51, 52, 53, 54, 55, 56, 57]⟩ : ByteArray).size = 10 := rfl
    have hq : ((⟨#[48, 49, 50, 51, 52, 53, 54, 55, 56, 57]⟩ : ByteArray).extract (u % 10) (u % 10 + 1)).size = 1 := by rw [HP.out]; rfl
    generalize udecS (u / 10) = b at *
    generalize udecS u = R at *
    clear h hs hsz
    go_enter Tryd.func55, Tryd.ntmps55
    go_wp2_with fail
    go_region_held3 (fun _ => True) (trivial) (first
      | (go_at_call 55; (with_reducible refine (HIH.out w.drew).mono ?_); rintro e w2 ⟨rfl, hb2⟩; have hB2 : Below w.heap.size w w2 := ⟨hb2.os, hb2.tape, hb2.output, hb2.size, hb2.block⟩))
    all_goals
      go_wp2
      go_ret
      exact ⟨by rw [HS.out, ← HP.out]; rfl, hB2⟩

end Go.Proofs.YtknlhkkpheahlaaDoor

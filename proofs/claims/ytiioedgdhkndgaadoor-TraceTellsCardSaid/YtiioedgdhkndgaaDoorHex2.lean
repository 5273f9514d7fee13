/- The document's Hex, walked: a word's hexadecimal digits. -/
import Derived.Test.YtiioedgdhkndgaaDoorHex1
namespace Go.Proofs.YtiioedgdhkndgaaDoor
open Go.RowKit Go.Sort Go.Lib

def hexOf (u : Nat) : List UInt8 := if u = 0 then [] else hexDigits u
theorem hexOf_step {v : Nat} (h : 0 < v) : hexDigits v = hexOf (v / 16) ++ [hexd (v % 16)] := by
  unfold hexOf
  by_cases h16 : v < 16
  · rw [if_pos (by omega), hex_last h16, show v % 16 = v by omega]; rfl
  · rw [if_neg (by omega), hex_step (by omega)]
theorem hexOf_all (v : Nat) : hexDigits v = hexOf (v / 16) ++ [hexd (v % 16)] := by
  rcases Nat.eq_zero_or_pos v with rfl | h
  · rw [hex_last (by decide)]; rfl
  · exact hexOf_step h

theorem hex_piece (d : Nat) (h : d < 16) : (⟨#[48, 49, 50, 51, 52, 53, 54, 55, 56, 57, 97, 98, 99, 100, 101, 102]⟩ : ByteArray).extract d (d + 1) = ⟨#[hexd d]⟩ := by
  have : ∀ d : Fin 16, (⟨#[48, 49, 50, 51, 52, 53, 54, 55, 56, 57, 97, 98, 99, 100, 101, 102]⟩ : ByteArray).extract (d : Nat) ((d : Nat) + 1) = ⟨#[hexd d]⟩ := by decide +kernel
  exact this ⟨d, h⟩

set_option maxHeartbeats 1000000 in
theorem thex_any (u : Nat) (hu : u < 18446744073709551616) (w : World) (ht : Tz16 w) :
    Calls Tryd.prog 97 #[.int .u64 u] w fun e w' => e = .returned (.string (hexS u)) ∧ Below w.heap.size w w' := by
  have HF := Lib.hid (FormatUint16 u hu w ht)
  clear ht
  go_enter Tryd.func97, Tryd.ntmps97
  go_wp2_with (go_at_call 83; refine HF.out.mono ?_; rintro e w' ⟨rfl, hb⟩)
  go_ret
  exact ⟨rfl, hb⟩

set_option maxHeartbeats 4000000 in
set_option maxRecDepth 100000 in
theorem rHex_any (u : Nat) (hu : u < 18446744073709551616) (w : World) :
    Calls Tryd.prog 98 #[.int .u64 u] w fun e w' => e = .returned (.string (hexS u)) ∧ w = w' := by
  have HU : RowKit.Hid (hexS u = ⟨(hexDigits u).toArray⟩) := Lib.hid rfl
  have HL := Lib.hid (hex_length 15 u (by simpa using hu))
  generalize hexS u = R at *
  go_enter Tryd.func98, Tryd.ntmps98
  go_wp2
  go_loopg [3, 4] (u + 1) (fun g s x wr => ∃ (v : Nat) (b : ByteArray), v ≤ u ∧ x = .int .u64 (v : Int) ∧ s = .string b ∧ wr = w ∧ ((g = u + 1 ∧ v = u ∧ b = ⟨#[]⟩) ∨ (g = v ∧ 0 < b.size ∧ hexDigits u = hexOf v ++ b.data.toList)))
  case atStart => exact ⟨u, ⟨#[]⟩, Nat.le_refl _, rfl, rfl, rfl, .inl ⟨rfl, rfl, rfl⟩⟩
  case round =>
    obtain ⟨v, b, hvu, rfl, rfl, rfl, h⟩ := hrel
    have q1 : (0 : Int) ≤ (v : Int) % 16 := by omega
    have q2 : (v : Int) % 16 < 16 := by omega
    have q3 : (v : Int) % 16 + 1 ≤ 16 := by omega
    have q4 : (v : Int) % 16 ≤ (v : Int) % 16 + 1 := by omega
    have w1 : IntKind.u64.wrap ((v : Int) % 16 + 1) = (v : Int) % 16 + 1 := IntWalk.u64_in _ (by omega)
    have HP := Lib.hid (hex_piece (v % 16) (by omega))
    rcases h with ⟨hg, rfl, rfl⟩ | ⟨hg, hbs, hd⟩
    · have HG := Lib.hid hg
      clear hg
      by_cases h0 : v = 0
      · subst h0
        rw [show ((0 : Nat) : Int) = 0 from rfl] at *
        go_wp2
        go_roundg 0
        case measure => rw [HG.out]; decide
        case rel => exact ⟨0, _, Nat.le_refl _, rfl, rfl, rfl, .inr ⟨rfl, by decide, by decide +kernel⟩⟩
      · have t0 : (0 : Int) < (v : Int) := by omega
        have hv : 0 < v := by omega
        clear h0
        go_wp2
        go_roundg (v / 16)
        case measure => rw [HG.out]; omega
        case rel =>
          refine ⟨v / 16, _, by omega, by simp, rfl, rfl, .inr ⟨rfl, ?_, ?_⟩⟩
          · rw [HP.out]; show 0 < 1 + 0; decide
          · rw [HP.out, hexOf_all]; rfl
    · have HG := Lib.hid hg
      have HD := Lib.hid hd
      have HVU := Lib.hid hvu
      have hlb : b.size ≤ 16 := by
        have h1 := HL.out; rw [hd, List.length_append] at h1
        have e : b.size = b.data.toList.length := rfl
        omega
      clear hg hd
      by_cases h0 : v = 0
      · subst h0
        have bne : (b.toList == ([] : List UInt8)) = false := by
          rw [beq_eq_false_iff_ne, ByteArray.toList_eq]; intro h1
          have e : b.size = b.data.toList.length := rfl
          rw [h1] at e; have e2 : b.size = 0 := e; omega
        go_wp2
        go_ret
        refine ⟨?_, rfl⟩
        rw [HU.out, HD.out]; rfl
      · have t0 : (0 : Int) < (v : Int) := by omega
        have hv : 0 < v := by omega
        have d1 : ¬ 9223372036854775807 < 1 + b.size := by omega
        have HST := Lib.hid (hexOf_step hv)
        have HVP := Lib.hid hv
        clear h0 hv
        go_wp2
        all_goals
          go_roundg (v / 16)
          case measure => rw [HG.out]; omega
          case rel =>
            refine ⟨v / 16, _, by have := HVU.out; omega, by simp, rfl, rfl, .inr ⟨rfl, ?_, ?_⟩⟩
            · rw [HP.out, ByteArray.size_append]; exact Nat.lt_of_lt_of_le hbs (Nat.le_add_left _ _)
            · rw [HP.out, HD.out, show hexOf v = hexDigits v by unfold hexOf; rw [if_neg (Nat.ne_of_gt HVP.out)], HST.out]; simp

end Go.Proofs.YtiioedgdhkndgaaDoor

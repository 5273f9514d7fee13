/- view.name and the document's name, walked: a word's name. -/
import Derived.Test.YtknlhkkpheahlaaDoorVw1
namespace Go.Proofs.YtknlhkkpheahlaaDoor
open Go.RowKit Go.Sort

def nameWS (u : Nat) : ByteArray := if u = 0 then ⟨#[110, 111, 110, 101]⟩ else if rdOk u = true then refS (rdOf u) else ⟨#[98, 97, 100, 32]⟩ ++ hexS u

theorem rd_in (u : Nat) (hu : u < 18446744073709551616) : In64 (rdOf u).index ∧ In64 (rdOf u).tag := by
  unfold rdOf In64
  split
  · simp only; omega
  · simp only; omega
theorem nameWS_size (u : Nat) (hu : u < 18446744073709551616) : (nameWS u).size ≤ 60 := by
  have h1 := hexS_size u hu
  have h2 := refS_size (rd_in u hu).1 (rd_in u hu).2
  have e1 : (⟨#[98, 97, 100, 32]⟩ : ByteArray).size = 4 := rfl
  unfold nameWS
  split
  · decide
  · split
    · omega
    · rw [ByteArray.size_append, e1]; omega

set_option maxHeartbeats 4000000 in
set_option maxRecDepth 100000 in
theorem name_any' (u : Nat) (w : World) (hu : u < 18446744073709551616) (ht : TabT w) (hz : Tz16 w) :
    Calls Tryd.prog 45 #[.int .u64 u] w fun e w' => e = .returned (.string (nameWS u)) ∧ Below w.heap.size w w' := by
  have HR := Lib.hid (Read_any u hu w)
  have HIN := Lib.hid (rd_in u hu)
  have HRF := Lib.hid (fun W h => vRef_any (rdOf u) W (rd_in u hu).1 (rd_in u hu).2 h)
  have HHX := Lib.hid (fun W h => vhx_any u W hu h)
  have hs := hexS_size u hu
  have HT := Lib.hid ht
  have HZ := Lib.hid hz
  have HNV : RowKit.Hid (nameWS u = if u = 0 then ⟨#[110, 111, 110, 101]⟩ else if rdOk u = true then refS (rdOf u) else ⟨#[98, 97, 100, 32]⟩ ++ hexS u) := Lib.hid rfl
  have HO : RowKit.Hid (rdOf u = if rdOk u = true then ⟨(u % 65536 : Int) - 1, u / 65536⟩ else ⟨0, 0⟩) := Lib.hid rfl
  have h0k : u = 0 → rdOk u = false := fun h => by subst h; decide
  have HZK := Lib.hid h0k
  clear ht hz h0k
  by_cases h0 : u = 0
  case' pos =>
    have b0 : ((u : Int) != 0) = false := by simp [h0]
    have hk := HZK.out h0
    rw [hk] at HR
    have HV := Lib.hid (show refS (rdOf u) = nameWS u by rw [HNV.out, if_pos h0, HO.out, hk]; rfl)
  case' neg =>
    have b0 : ((u : Int) != 0) = true := by simp [h0]
    cases hk : rdOk u
    case' false =>
      have HV := Lib.hid (show nameWS u = ⟨#[98, 97, 100, 32]⟩ ++ hexS u by rw [HNV.out, if_neg h0, hk]; rfl)
      rw [hk] at HR
    case' true =>
      have HV := Lib.hid (show refS (rdOf u) = nameWS u by rw [HNV.out, if_neg h0, if_pos hk])
      rw [hk] at HR
  case neg.false =>
    generalize rdOf u = r at *
    obtain ⟨ri, rt⟩ := r
    unfold rfV at HR HRF
    simp only at HR HRF
    generalize hexS u = hx at *
    have d1 : ¬ 9223372036854775807 < 4 + hx.size := by omega
    clear h0 hk HNV HO HZK
    go_enter Tryd.func45, Tryd.ntmps45
    go_wp2_with fail
    refine HR.out.mono ?_
    rintro e w1 ⟨rfl, hb1⟩
    have HB1 := Lib.hid (hb1.alloc hb1.size (.cells #[.int .i64 ri, .int .i64 rt] 48))
    have HZ1 := Lib.hid (HZ.out.below HB1.out)
    clear hb1
    go_wp2_with fail
    refine (HHX.out _ HZ1.out).mono ?_
    rintro e w2 ⟨rfl, hb2⟩
    go_wp2
    go_ret
    exact ⟨by rw [HV.out]; rfl, HB1.out.trans (hb2.mono HB1.out.size)⟩
  all_goals
    generalize rdOf u = r at *
    obtain ⟨ri, rt⟩ := r
    unfold rfV at HR HRF
    simp only at HR HRF
    clear h0 hk HNV HO HZK
    go_enter Tryd.func45, Tryd.ntmps45
    go_wp2_with fail
    refine HR.out.mono ?_
    rintro e w1 ⟨rfl, hb1⟩
    have HB1 := Lib.hid (hb1.alloc hb1.size (.cells #[.int .i64 ri, .int .i64 rt] 48))
    have HT1 := Lib.hid (HT.out.below HB1.out)
    clear hb1
    go_wp2_with fail
    refine (HRF.out _ HT1.out).mono ?_
    rintro e w2 ⟨rfl, hb2⟩
    go_wp2
    go_ret
    exact ⟨by rw [← HV.out]; rfl, HB1.out.trans (hb2.mono HB1.out.size)⟩

set_option maxHeartbeats 4000000 in
set_option maxRecDepth 100000 in
theorem rname_any (u : Nat) (w : World) (hu : u < 18446744073709551616) :
    Calls Tryd.prog 53 #[.int .u64 u] w fun e w' => e = .returned (.string (nameWS u)) ∧ Below w.heap.size w w' := by
  have HR := Lib.hid (rRead_any u hu w)
  have HRF := Lib.hid (fun W => rRef_any (rdOf u) W (rd_in u hu).1 (rd_in u hu).2)
  have HHX := Lib.hid (fun W => vhex_any 15 u W (by simpa using hu) hu)
  have hs := hexS_size u hu
  have HNV : RowKit.Hid (nameWS u = if u = 0 then ⟨#[110, 111, 110, 101]⟩ else if rdOk u = true then refS (rdOf u) else ⟨#[98, 97, 100, 32]⟩ ++ hexS u) := Lib.hid rfl
  by_cases h0 : u = 0
  · have b0 : ((u : Int) == 0) = true := by simp [h0]
    have HV := Lib.hid (show nameWS u = ⟨#[110, 111, 110, 101]⟩ by rw [HNV.out, if_pos h0])
    clear h0
    go_enter Tryd.func53, Tryd.ntmps53
    go_wp2
    go_ret
    exact ⟨by rw [HV.out]; rfl, Below.refl _ _⟩
  have b0 : ((u : Int) == 0) = false := by simp [h0]
  cases hk : rdOk u
  case' false =>
    have HV := Lib.hid (show nameWS u = ⟨#[98, 97, 100, 32]⟩ ++ hexS u by rw [HNV.out, if_neg h0, hk]; rfl)
    rw [hk] at HR
  case' true =>
    have HV := Lib.hid (show refS (rdOf u) = nameWS u by rw [HNV.out, if_neg h0, if_pos hk])
    rw [hk] at HR
  case false =>
    generalize rdOf u = r at *
    obtain ⟨ri, rt⟩ := r
    unfold rfV at HR HRF
    simp only at HR HRF
    generalize hexS u = hx at *
    have d1 : ¬ 9223372036854775807 < 4 + hx.size := by omega
    clear h0 hk HNV
    go_enter Tryd.func53, Tryd.ntmps53
    go_wp2_with fail
    refine HR.out.mono ?_
    rintro e w1 ⟨rfl, hb1⟩
    have HB1 := Lib.hid (hb1.alloc hb1.size (.cells #[.int .i64 ri, .int .i64 rt] 48))
    clear hb1
    go_wp2_with fail
    refine (HHX.out _).mono ?_
    rintro e w2 ⟨rfl, hb2⟩
    go_wp2
    go_ret
    exact ⟨by rw [HV.out]; rfl, HB1.out.trans (hb2.mono HB1.out.size)⟩
  case true =>
    generalize rdOf u = r at *
    obtain ⟨ri, rt⟩ := r
    unfold rfV at HR HRF
    simp only at HR HRF
    clear h0 hk HNV
    go_enter Tryd.func53, Tryd.ntmps53
    go_wp2_with fail
    refine HR.out.mono ?_
    rintro e w1 ⟨rfl, hb1⟩
    have HB1 := Lib.hid (hb1.alloc hb1.size (.cells #[.int .i64 ri, .int .i64 rt] 48))
    clear hb1
    go_wp2_with fail
    refine (HRF.out _).mono ?_
    rintro e w2 ⟨rfl, hb2⟩
    go_wp2
    go_ret
    exact ⟨by rw [← HV.out]; rfl, HB1.out.trans (hb2.mono HB1.out.size)⟩

end Go.Proofs.YtknlhkkpheahlaaDoor

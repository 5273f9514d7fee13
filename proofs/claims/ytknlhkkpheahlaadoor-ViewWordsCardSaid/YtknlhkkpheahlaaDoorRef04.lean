/- The document's numbers as texts (stopgateref04.Itoa), walked: they are strconv's. -/
import Derived.Test.YtknlhkkpheahlaaDoorE2
import Derived.Laws.BytesString
import Derived.Lib.ItoaLen
namespace Go.Proofs.YtknlhkkpheahlaaDoor
open Go.RowKit Go.Sort

theorem byte1 (W : World) (d : Int) : (convert 106 9 (.slice (some ⟨W.heap.size, 0, none⟩) 1 1)).run Tryd.prog (W.alloc (.cells #[.int .u8 d] 5)) = .ok (.string ⟨#[UInt8.ofNat d.toNat]⟩) (W.alloc (.cells #[.int .u8 d] 5)) := by
  rw [run_convert_bytes_string _ _ _ _ _ _ _ Tryd.underlying106 Tryd.underlying5 Tryd.underlying9]
  exact run_bytesToString _ _ 1 1 [d] (by simp [loadCells, go_sem, Addr.add])

theorem decDigits_le20 (u : Nat) (h : u < 18446744073709551616) : (Lib.decDigits u).length ≤ 20 := by
  rw [Lib.decDigits_length]; exact Lib.nDigits_le20 u h

/-- What is left of a number's digits. -/
def digsOf (u : Nat) : List UInt8 := if u = 0 then [] else Lib.decDigits u
theorem digsOf_pos {u : Nat} (h : 0 < u) : digsOf u = Lib.decDigits u := by unfold digsOf; rw [if_neg (by omega)]
theorem digs_step {u : Nat} (h : 0 < u) (b : ByteArray) : digsOf u ++ b.data.toList = digsOf (u / 10) ++ ((⟨#[UInt8.ofNat (48 + u % 10)]⟩ : ByteArray) ++ b).data.toList := by
  have e : ((⟨#[UInt8.ofNat (48 + u % 10)]⟩ : ByteArray) ++ b).data.toList = UInt8.ofNat (48 + u % 10) :: b.data.toList := by simp
  rw [e, digsOf_pos h, Lib.decDigits]
  by_cases h10 : u < 10
  · rw [dif_pos h10]
    have e1 : u / 10 = 0 := by omega
    have e2 : u % 10 = u := by omega
    rw [e1, e2]; rfl
  · rw [dif_neg h10, digsOf_pos (by omega)]; simp

theorem digs_lit (l : List UInt8) (b : ByteArray) {c d : UInt8} (h : c = d) : l ++ ((⟨#[c]⟩ : ByteArray) ++ b).data.toList = l ++ ((⟨#[d]⟩ : ByteArray) ++ b).data.toList := by rw [h]
theorem ofNat48 (k : Nat) : UInt8.ofNat (48 + k) = 48 + UInt8.ofNat k := by rw [UInt8.ofNat_add]; rfl

set_option maxHeartbeats 4000000 in
set_option maxRecDepth 100000 in
theorem rItoa_pos (N : Nat) (hN : 0 < N) (hm : N ≤ 9223372036854775808) (hm2 : N ≤ 9223372036854775807) (w : World) :
    Calls Tryd.prog 34 #[.int .i64 (N : Int)] w fun e w' => e = .returned (.string ⟨(Lib.decDigits N).toArray⟩) ∧ Below w.heap.size w w' := by
  have cv := byte1
  have b0 : ((N : Int) == 0) = false := by simp; omega
  have n0 : ¬ (N : Int) < 0 := by omega
  have HN := Lib.hid hN
  have HL := Lib.hid (decDigits_le20 N (by omega))
  have hnl : ((⟨#[45]⟩ : ByteArray)).size = 1 := rfl
  have HNL := Lib.hid hnl
  clear hN hnl
  go_enter Tryd.func34, Tryd.ntmps34
  go_wp2
  go_loopg [3, 4] (N + 1) (fun g s x wr => ∃ (u : Nat) (b : ByteArray), g = u + 1 ∧ u ≤ N ∧ x = .int .i64 (u : Int) ∧ s = .string b ∧ Lib.decDigits N = digsOf u ++ b.data.toList ∧ Below w.heap.size w wr)
  case atStart => exact ⟨N, ⟨#[]⟩, rfl, Nat.le_refl _, rfl, rfl, by rw [digsOf_pos HN.out]; exact (List.append_nil _).symm, Below.refl _ _⟩
  case round =>
    obtain ⟨u, b, hg, hu, rfl, rfl, hd, hb⟩ := hrel
    have HG := Lib.hid hg
    have HD := Lib.hid hd
    have HB := Lib.hid hb
    have hbs : b.size ≤ 20 := by
      have := HL.out; rw [hd, List.length_append] at this
      have e : b.size = b.data.toList.length := rfl
      omega
    clear hg hd hb
    by_cases h0 : u = 0
    · subst h0
      have HE := Lib.hid (show Lib.decDigits N = b.data.toList by rw [HD.out]; rfl)
      
      clear hm
      go_wp2
      go_ret
      exact ⟨by rw [HE.out]; rfl, HB.out⟩
    · have HSTEP := Lib.hid (digs_step (u := u) (by omega) b)
      have hu0 : 0 < u := by omega
      have q1 : (0 : Int) ≤ (u : Int) % 10 := by omega
      have q2 : (u : Int) % 10 < 10 := by omega
      have q3 : ¬ (u : Int) % 10 < 0 := by omega
      have b1 : ((u : Int) != 0) = true := by simp; omega
      have wr8 : IntKind.u8.wrap (48 + (u : Int) % 10) = 48 + (u : Int) % 10 := IntWalk.u8_in _ (by omega)
      have d1 : ¬ 9223372036854775807 < 1 + b.size := by omega
      clear h0
      go_wp2
      go_roundg (u / 10 + 1)
      case measure => rw [HG.out]; omega
      case rel => exact ⟨u / 10, _, rfl, by omega, by go_num, rfl, by rw [HD.out, HSTEP.out]; exact digs_lit _ _ (by first | rfl | exact ofNat48 _ | (rw [show u % 10 = 0 by omega]; rfl)), HB.out.alloc HB.out.size _⟩


set_option maxHeartbeats 4000000 in
set_option maxRecDepth 100000 in
theorem rItoa_neg (N : Nat) (hN : 0 < N) (hm : N ≤ 9223372036854775808)  (w : World) :
    Calls Tryd.prog 34 #[.int .i64 (-(N : Int))] w fun e w' => e = .returned (.string (⟨#[45]⟩ ++ ⟨(Lib.decDigits N).toArray⟩)) ∧ Below w.heap.size w w' := by
  have cv := byte1
  have b0 : ((-(N : Int)) == 0) = false := by simp; omega
  have n0 : (-(N : Int)) < 0 := by omega
  have HN := Lib.hid hN
  have HL := Lib.hid (decDigits_le20 N (by omega))
  have hnl : ((⟨#[45]⟩ : ByteArray)).size = 1 := rfl
  have HNL := Lib.hid hnl
  clear hN hnl
  go_enter Tryd.func34, Tryd.ntmps34
  go_wp2
  go_loopg [3, 4] (N + 1) (fun g s x wr => ∃ (u : Nat) (b : ByteArray), g = u + 1 ∧ u ≤ N ∧ x = .int .i64 (-(u : Int)) ∧ s = .string b ∧ Lib.decDigits N = digsOf u ++ b.data.toList ∧ Below w.heap.size w wr)
  case atStart => exact ⟨N, ⟨#[]⟩, rfl, Nat.le_refl _, rfl, rfl, by rw [digsOf_pos HN.out]; exact (List.append_nil _).symm, Below.refl _ _⟩
  case round =>
    obtain ⟨u, b, hg, hu, rfl, rfl, hd, hb⟩ := hrel
    have HG := Lib.hid hg
    have HD := Lib.hid hd
    have HB := Lib.hid hb
    have hbs : b.size ≤ 20 := by
      have := HL.out; rw [hd, List.length_append] at this
      have e : b.size = b.data.toList.length := rfl
      omega
    clear hg hd hb
    by_cases h0 : u = 0
    · subst h0
      have HE := Lib.hid (show Lib.decDigits N = b.data.toList by rw [HD.out]; rfl)
      have d1 : ¬ 9223372036854775807 < 1 + b.size := by omega
      clear hm
      go_wp2
      go_ret
      exact ⟨by rw [HE.out]; rfl, HB.out⟩
    · have HSTEP := Lib.hid (digs_step (u := u) (by omega) b)
      have hu0 : 0 < u := by omega
      have b1 : ((-(u : Int)) != 0) = true := by simp; omega
      have m1 : (-(u : Int)).tmod 10 = -((u : Int) % 10) := by rw [Int.neg_tmod, Int.tmod_eq_emod_of_nonneg (by omega)]
      have m2 : (-(u : Int)).tdiv 10 = -((u : Int) / 10) := by rw [Int.neg_tdiv, Int.tdiv_eq_ediv_of_nonneg (by omega)]
      have q1 : (0 : Int) ≤ (u : Int) % 10 := by omega
      have q2 : (u : Int) % 10 < 10 := by omega
      have wr8 : IntKind.u8.wrap (48 + (u : Int) % 10) = 48 + (u : Int) % 10 := IntWalk.u8_in _ (by omega)
      have d1 : ¬ 9223372036854775807 < 1 + b.size := by omega
      clear h0
      have hz : (u : Int) % 10 = 0 ∨ 0 < (u : Int) % 10 := by omega
      rcases hz with hz | hz
      · have e0 : ¬ (-((u : Int) % 10) < 0) := by omega
        go_wp2
        go_roundg (u / 10 + 1)
        case measure => rw [HG.out]; omega
        case rel => exact ⟨u / 10, _, rfl, by omega, by go_num, rfl, by rw [HD.out, HSTEP.out]; exact digs_lit _ _ (by first | rfl | exact ofNat48 _ | (rw [show u % 10 = 0 by omega]; rfl)), HB.out.alloc HB.out.size _⟩
      · have e0 : (-((u : Int) % 10) < 0) := by omega
        go_wp2
        go_roundg (u / 10 + 1)
        case measure => rw [HG.out]; omega
        case rel => exact ⟨u / 10, _, rfl, by omega, by go_num, rfl, by rw [HD.out, HSTEP.out]; exact digs_lit _ _ (by first | rfl | exact ofNat48 _ | (rw [show u % 10 = 0 by omega]; rfl)), HB.out.alloc HB.out.size _⟩

set_option maxHeartbeats 1000000 in
theorem rItoa_zero (w : World) : Calls Tryd.prog 34 #[.int .i64 0] w fun e w' => e = .returned (.string ⟨#[48]⟩) ∧ Below w.heap.size w w' := by
  go_enter Tryd.func34, Tryd.ntmps34
  go_wp2
  go_ret
  exact ⟨rfl, Below.refl _ _⟩

theorem rItoa_any (n : Int) (hn : In64 n) (w : World) :
    Calls Tryd.prog 34 #[.int .i64 n] w fun e w' => e = .returned (.string (itoaS n)) ∧ Below w.heap.size w w' := by
  obtain ⟨h1, h2⟩ := hn
  rcases Int.lt_trichotomy n 0 with h | rfl | h
  · obtain ⟨u, rfl⟩ : ∃ u : Nat, n = -(u : Int) := ⟨n.natAbs, by omega⟩
    have e : itoaS (-(u : Int)) = ⟨#[45]⟩ ++ ⟨(Lib.decDigits u).toArray⟩ := by
      unfold itoaS; rw [Lib.itoa_neg u (by omega)]
      apply ByteArray.ext; simp
    rw [e]
    exact rItoa_neg u (by omega) (by omega) w
  · have e : itoaS 0 = ⟨#[48]⟩ := by decide +kernel
    rw [e]
    exact rItoa_zero w
  · obtain ⟨u, rfl⟩ : ∃ u : Nat, n = (u : Int) := ⟨n.toNat, by omega⟩
    have e : itoaS (u : Int) = ⟨(Lib.decDigits u).toArray⟩ := by unfold itoaS; rw [Lib.itoa_nonneg u]
    rw [e]
    exact rItoa_pos u (by omega) (by omega) (by omega) w

end Go.Proofs.YtknlhkkpheahlaaDoor

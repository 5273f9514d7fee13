/- The library's variable MaxLen holds some number. -/
import Derived.Test.YtalkllfgedacoaaGreatDoorD2
import Derived.Laws.BytesString
import Derived.Lib.ItoaLen
import Derived.Test.YtalkllfgedacoaaGreatDoorD1
import Derived.Laws.ResultCell
import Derived.Laws.Rows
import Derived.IntWalk
import Derived.BigQuiet
import Derived.OwnWalk
import Derived.Test.YtalkllfgedacoaaGreatDoorD10
import Derived.Test.YtalkllfgedacoaaGreatDoorShelfPu
import Derived.Lib.UnsafeStr
namespace Go.Proofs.YtalkllfgedacoaaGreatDoor
open Go.RowKit Go.Sort

theorem byte1 (W : World) (d : Int) : (convert 114 9 (.slice (some ⟨W.heap.size, 0, none⟩) 1 1)).run Tryz.prog (W.alloc (.cells #[.int .u8 d] 5)) = .ok (.string ⟨#[UInt8.ofNat d.toNat]⟩) (W.alloc (.cells #[.int .u8 d] 5)) := by
  rw [run_convert_bytes_string _ _ _ _ _ _ _ Tryz.underlying114 Tryz.underlying5 Tryz.underlying9]
  exact run_bytesToString _ _ 1 1 [d] (by simp [loadCells, go_sem, Addr.add])

theorem decDigits_le20 (u : Nat) (h : u < 18446744073709551616) : (Lib.decDigits u).length ≤ 20 := by
  rw [Lib.decDigits_length]; exact Lib.nDigits_le20 u h

/-- What is left of a number's digits. -/
def digsOf (u : Nat) : List UInt8 := if u = 0 then [] else Lib.decDigits u
theorem digsOf_pos {u : Nat} (h : 0 < u) : digsOf u = Lib.decDigits u := by unfold digsOf; rw [if_neg (by omega)]
theorem digs_step {u : Nat} (h : 0 < u) (b : ByteArray) : digsOf u ++ b.data.toList = digsOf (u / 10) ++ ((⟨#[UInt8.ofNat (48 + u % 10)]⟩ : ByteArray) ++ b).data.toList := by
  have e : ((⟨#[UInt8.ofNat (48 + u % 10)]⟩ : ByteArray) ++ b).data.toList = UInt8.ofNat (48 + u % 10) :: b.data.toList := by simp
  rw [e, digsOf_pos h, Lib.decDigits]
  by_cases h10 : u < 10
  · rw [dif_pos h10]
    have e1 : u / 10 = 0 := by omega
    have e2 : u % 10 = u := by omega
    rw [e1, e2]; rfl
  · rw [dif_neg h10, digsOf_pos (by omega)]; simp

theorem digs_lit (l : List UInt8) (b : ByteArray) {c d : UInt8} (h : c = d) : l ++ ((⟨#[c]⟩ : ByteArray) ++ b).data.toList = l ++ ((⟨#[d]⟩ : ByteArray) ++ b).data.toList := by rw [h]
theorem ofNat48 (k : Nat) : UInt8.ofNat (48 + k) = 48 + UInt8.ofNat k := by rw [UInt8.ofNat_add]; rfl

set_option maxHeartbeats 4000000 in
set_option maxRecDepth 100000 in
theorem rItoa_pos (N : Nat) (hN : 0 < N) (hm : N ≤ 9223372036854775808) (hm2 : N ≤ 9223372036854775807) (w : World) :
    Calls Tryz.prog 68 #[.int .i64 (N : Int)] w fun e w' => e = .returned (.string ⟨(Lib.decDigits N).toArray⟩) ∧ Below w.heap.size w w' := by
  have cv := byte1
  have b0 : ((N : Int) == 0) = false := by simp; omega
  have n0 : ¬ (N : Int) < 0 := by omega
  have HN := Lib.hid hN
  have HL := Lib.hid (decDigits_le20 N (by omega))
  have hnl : ((⟨#[45]⟩ : ByteArray)).size = 1 := rfl
  have HNL := Lib.hid hnl
  clear hN hnl
  go_enter Tryz.func68, Tryz.ntmps68
  go_wp2
  go_loopg [3, 4] (N + 1) (fun g s x wr => ∃ (u : Nat) (b : ByteArray), g = u + 1 ∧ u ≤ N ∧ x = .int .i64 (u : Int) ∧ s = .string b ∧ Lib.decDigits N = digsOf u ++ b.data.toList ∧ Below w.heap.size w wr)
  case atStart => exact ⟨N, ⟨#[]⟩, rfl, Nat.le_refl _, rfl, rfl, by rw [digsOf_pos HN.out]; exact (List.append_nil _).symm, Below.refl _ _⟩
  case round =>
    obtain ⟨u, b, hg, hu, rfl, rfl, hd, hb⟩ := hrel
    have HG := Lib.hid hg
    have HD := Lib.hid hd
    have HB := Lib.hid hb
    have hbs : b.size ≤ 20 := by
      have := HL.out; rw [hd, List.length_append] at this
      have e : b.size = b.data.toList.length := rfl
      omega
    clear hg hd hb
    by_cases h0 : u = 0
    · subst h0
      have HE := Lib.hid (show Lib.decDigits N = b.data.toList by rw [HD.out]; rfl)
      
      clear hm
      go_wp2
      go_ret
      exact ⟨by rw [HE.out]; rfl, HB.out⟩
    · have HSTEP := Lib.hid (digs_step (u := u) (by omega) b)
      have hu0 : 0 < u := by omega
      have q1 : (0 : Int) ≤ (u : Int) % 10 := by omega
      have q2 : (u : Int) % 10 < 10 := by omega
      have q3 : ¬ (u : Int) % 10 < 0 := by omega
      have b1 : ((u : Int) != 0) = true := by simp; omega
      have wr8 : IntKind.u8.wrap (48 + (u : Int) % 10) = 48 + (u : Int) % 10 := IntWalk.u8_in _ (by omega)
      have d1 : ¬ 9223372036854775807 < 1 + b.size := by omega
      clear h0
      go_wp2
      go_roundg (u / 10 + 1)
      case measure => rw [HG.out]; omega
      case rel => exact ⟨u / 10, _, rfl, by omega, by go_num, rfl, by rw [HD.out, HSTEP.out]; exact digs_lit _ _ (by first | rfl | exact ofNat48 _ | (rw [show u % 10 = 0 by omega]; rfl)), HB.out.alloc HB.out.size _⟩


set_option maxHeartbeats 4000000 in
set_option maxRecDepth 100000 in
theorem rItoa_neg (N : Nat) (hN : 0 < N) (hm : N ≤ 9223372036854775808)  (w : World) :
    Calls Tryz.prog 68 #[.int .i64 (-(N : Int))] w fun e w' => e = .returned (.string (⟨#[45]⟩ ++ ⟨(Lib.decDigits N).toArray⟩)) ∧ Below w.heap.size w w' := by
  have cv := byte1
  have b0 : ((-(N : Int)) == 0) = false := by simp; omega
  have n0 : (-(N : Int)) < 0 := by omega
  have HN := Lib.hid hN
  have HL := Lib.hid (decDigits_le20 N (by omega))
  have hnl : ((⟨#[45]⟩ : ByteArray)).size = 1 := rfl
  have HNL := Lib.hid hnl
  clear hN hnl
  go_enter Tryz.func68, Tryz.ntmps68
  go_wp2
  go_loopg [3, 4] (N + 1) (fun g s x wr => ∃ (u : Nat) (b : ByteArray), g = u + 1 ∧ u ≤ N ∧ x = .int .i64 (-(u : Int)) ∧ s = .string b ∧ Lib.decDigits N = digsOf u ++ b.data.toList ∧ Below w.heap.size w wr)
  case atStart => exact ⟨N, ⟨#[]⟩, rfl, Nat.le_refl _, rfl, rfl, by rw [digsOf_pos HN.out]; exact (List.append_nil _).symm, Below.refl _ _⟩
  case round =>
    obtain ⟨u, b, hg, hu, rfl, rfl, hd, hb⟩ := hrel
    have HG := Lib.hid hg
    have HD := Lib.hid hd
    have HB := Lib.hid hb
    have hbs : b.size ≤ 20 := by
      have := HL.out; rw [hd, List.length_append] at this
      have e : b.size = b.data.toList.length := rfl
      omega
    clear hg hd hb
    by_cases h0 : u = 0
    · subst h0
      have HE := Lib.hid (show Lib.decDigits N = b.data.toList by rw [HD.out]; rfl)
      have d1 : ¬ 9223372036854775807 < 1 + b.size := by omega
      clear hm
      go_wp2
      go_ret
      exact ⟨by rw [HE.out]; rfl, HB.out⟩
    · have HSTEP := Lib.hid (digs_step (u := u) (by omega) b)
      have hu0 : 0 < u := by omega
      have b1 : ((-(u : Int)) != 0) = true := by simp; omega
      have m1 : (-(u : Int)).tmod 10 = -((u : Int) % 10) := by rw [Int.neg_tmod, Int.tmod_eq_emod_of_nonneg (by omega)]
      have m2 : (-(u : Int)).tdiv 10 = -((u : Int) / 10) := by rw [Int.neg_tdiv, Int.tdiv_eq_ediv_of_nonneg (by omega)]
      have q1 : (0 : Int) ≤ (u : Int) % 10 := by omega
      have q2 : (u : Int) % 10 < 10 := by omega
      have wr8 : IntKind.u8.wrap (48 + (u : Int) % 10) = 48 + (u : Int) % 10 := IntWalk.u8_in _ (by omega)
      have d1 : ¬ 9223372036854775807 < 1 + b.size := by omega
      clear h0
      have hz : (u : Int) % 10 = 0 ∨ 0 < (u : Int) % 10 := by omega
      rcases hz with hz | hz
      · have e0 : ¬ (-((u : Int) % 10) < 0) := by omega
        go_wp2
        go_roundg (u / 10 + 1)
        case measure => rw [HG.out]; omega
        case rel => exact ⟨u / 10, _, rfl, by omega, by go_num, rfl, by rw [HD.out, HSTEP.out]; exact digs_lit _ _ (by first | rfl | exact ofNat48 _ | (rw [show u % 10 = 0 by omega]; rfl)), HB.out.alloc HB.out.size _⟩
      · have e0 : (-((u : Int) % 10) < 0) := by omega
        go_wp2
        go_roundg (u / 10 + 1)
        case measure => rw [HG.out]; omega
        case rel => exact ⟨u / 10, _, rfl, by omega, by go_num, rfl, by rw [HD.out, HSTEP.out]; exact digs_lit _ _ (by first | rfl | exact ofNat48 _ | (rw [show u % 10 = 0 by omega]; rfl)), HB.out.alloc HB.out.size _⟩

set_option maxHeartbeats 1000000 in
theorem rItoa_zero (w : World) : Calls Tryz.prog 68 #[.int .i64 0] w fun e w' => e = .returned (.string ⟨#[48]⟩) ∧ Below w.heap.size w w' := by
  go_enter Tryz.func68, Tryz.ntmps68
  go_wp2
  go_ret
  exact ⟨rfl, Below.refl _ _⟩

theorem rItoa_any (n : Int) (hn : In64 n) (w : World) :
    Calls Tryz.prog 68 #[.int .i64 n] w fun e w' => e = .returned (.string (itoaS n)) ∧ Below w.heap.size w w' := by
  obtain ⟨h1, h2⟩ := hn
  rcases Int.lt_trichotomy n 0 with h | rfl | h
  · obtain ⟨u, rfl⟩ : ∃ u : Nat, n = -(u : Int) := ⟨n.natAbs, by omega⟩
    have e : itoaS (-(u : Int)) = ⟨#[45]⟩ ++ ⟨(Lib.decDigits u).toArray⟩ := by
      unfold itoaS; rw [Lib.itoa_neg u (by omega)]
      apply ByteArray.ext; simp
    rw [e]
    exact rItoa_neg u (by omega) (by omega) w
  · have e : itoaS 0 = ⟨#[48]⟩ := by decide +kernel
    rw [e]
    exact rItoa_zero w
  · obtain ⟨u, rfl⟩ : ∃ u : Nat, n = (u : Int) := ⟨n.toNat, by omega⟩
    have e : itoaS (u : Int) = ⟨(Lib.decDigits u).toArray⟩ := by unfold itoaS; rw [Lib.itoa_nonneg u]
    rw [e]
    exact rItoa_pos u (by omega) (by omega) (by omega) w

end Go.Proofs.YtalkllfgedacoaaGreatDoor

namespace Go.Proofs.YtalkllfgedacoaaGreatDoor
open Go.RowKit Go.Sort

theorem results_cell1 {fn : Func} {p : Tmp} {ty : TypeId} (h : fn.results = #[.cell p ty]) (tmps : Array Value) (P : Program) (w : World) :
    (results fn tmps).run P w = ((asAddr (tmps.getD p undef)).run P w).andThen fun a w₁ => (loadVar ty a).run P w₁ := by
  simp only [results, h]
  simp

/-- A struct that is handed back out of its cell. -/
theorem ret_cell {fn : Func} {p : Tmp} {ty : TypeId} (h : fn.results = #[.cell p ty]) {tmps : Array Value} {w : World} {g : Nat} {v : Value} (ht : tmps.getD p undef = .pointer (some ⟨g, 0, none⟩)) (hl : (loadVar ty ⟨g, 0, none⟩).run Tryz.prog w = .ok v w) :
    (results fn tmps).run Tryz.prog w = .ok v w := by
  rw [results_cell1 h, ht]
  have ha : (asAddr (.pointer (some ⟨g, 0, none⟩))).run Tryz.prog w = .ok ⟨g, 0, none⟩ w := by simp [asAddr, go_sem]
  rw [ha, Result.andThen_ok]
  exact hl
end Go.Proofs.YtalkllfgedacoaaGreatDoor

namespace Go.Proofs.YtalkllfgedacoaaGreatDoor
open Go.RowKit Go.Sort

structure Rf where
  (index tag : Int)
abbrev rfV (r : Rf) : Value := .agg #[.int .i64 r.index, .int .i64 r.tag]

def refGood (a b : Int) : Bool := decide (0 ≤ a) && decide (a ≤ 65534) && decide (1 ≤ b) && decide (b ≤ 4294967295)

set_option maxHeartbeats 4000000 in
set_option maxRecDepth 100000 in
theorem rfGood_any (a b : Int) (w : World) :
    Calls Tryz.prog 164 #[.agg #[.int .i64 a, .int .i64 b]] w fun e w' => e = .returned (.bool (refGood a b)) ∧ Below w.heap.size w w' := by
  have HG : RowKit.Hid (refGood a b = (decide (0 ≤ a) && decide (a ≤ 65534) && decide (1 ≤ b) && decide (b ≤ 4294967295))) := Lib.hid rfl
  generalize refGood a b = g at *
  rcases (show (a < 0) ∨ (0 ≤ a ∧ 65534 < a) ∨ (0 ≤ a ∧ a ≤ 65534 ∧ b < 1) ∨ (0 ≤ a ∧ a ≤ 65534 ∧ 1 ≤ b ∧ 4294967295 < b) ∨ (0 ≤ a ∧ a ≤ 65534 ∧ 1 ≤ b ∧ b ≤ 4294967295) by omega) with h1 | ⟨h1, h2⟩ | ⟨h1, h2, h3⟩ | ⟨h1, h2, h3, h4⟩ | ⟨h1, h2, h3, h4⟩
  case' inl => have HH := Lib.hid (show g = false by rw [HG.out]; simp; omega)
  case' inr.inl => have HH := Lib.hid (show g = false by rw [HG.out]; simp; omega)
  case' inr.inr.inl => have HH := Lib.hid (show g = false by rw [HG.out]; simp; omega)
  case' inr.inr.inr.inl => have HH := Lib.hid (show g = false by rw [HG.out]; simp; omega)
  case' inr.inr.inr.inr => have HH := Lib.hid (show g = true by rw [HG.out]; simp; omega)
  all_goals
    go_enter Tryz.func164, Tryz.ntmps164
    go_wp2
    go_ret
    refine ⟨ret_bool ?_, (Below.refl _ _).alloc (Nat.le_refl _) _⟩
    first | exact HH.out.symm | (rw [HH.out]; simp; done) | (rw [HH.out]; simp; omega)

theorem or16 {a b : Int} (h1 : 0 ≤ a) (h2 : a ≤ 65534) (h3 : 0 ≤ b) (h4 : b ≤ 4294967295) : bits BinOp.or IntKind.u64 (b * 65536) (a + 1) = b * 65536 + (a + 1) := by
  have e1 : b * 65536 = ((b.toNat * 65536 : Nat) : Int) := by omega
  have e2 : a + 1 = (((a + 1).toNat : Nat) : Int) := by omega
  rw [e1, e2, bits_or_u64_nat _ _ (by omega) (by omega)]
  have h5 : (a + 1).toNat < 2 ^ 16 := by omega
  rw [show b.toNat * 65536 = b.toNat <<< 16 by rw [Nat.shiftLeft_eq], ← Nat.shiftLeft_add_eq_or_of_lt h5]
  rw [Nat.shiftLeft_eq]; omega

def refWord (a b : Int) : Int := if refGood a b = true then b * 65536 + (a + 1) else 0

set_option maxHeartbeats 4000000 in
set_option maxRecDepth 100000 in
theorem rfWord_any (a b : Int) (w : World) :
    Calls Tryz.prog 146 #[.agg #[.int .i64 a, .int .i64 b]] w fun e w' => e = .returned (.int .u64 (refWord a b)) ∧ Below w.heap.size w w' := by
  have HG := Lib.hid (rfGood_any a b (w.alloc (.cells #[.int .i64 a, .int .i64 b] 26)))
  have HX := Lib.hid (Blk.new w 26 [.int .i64 a, .int .i64 b])
  have HV : RowKit.Hid (refWord a b = if refGood a b = true then b * 65536 + (a + 1) else 0) := Lib.hid rfl
  cases hg : refGood a b
  · rw [hg] at HG HV
    go_enter Tryz.func146, Tryz.ntmps146
    go_wp2_with (go_at_call 164; refine HG.out.mono ?_; rintro e w1 ⟨rfl, hb1⟩)
    go_ret
    exact ⟨ret_int (by rw [HV.out]; rfl), ((Below.refl _ _).alloc (Nat.le_refl _) _).trans (hb1.mono (by simp))⟩
  · rw [hg] at HG HV
    have hg' := hg
    simp only [refGood, Bool.and_eq_true, decide_eq_true_eq] at hg'
    obtain ⟨⟨⟨h1, h2⟩, h3⟩, h4⟩ := hg'
    clear hg
    go_enter Tryz.func146, Tryz.ntmps146
    go_wp2_with (go_at_call 164; refine HG.out.mono ?_; rintro e w1 ⟨rfl, hb1⟩; have y0 := (HX.out.below hb1 HX.out.lt).cell (i := 0) rfl; have y1 := (HX.out.below hb1 HX.out.lt).cell (i := 1) rfl)
    rw [or16 h1 h2 (Int.le_trans (by decide) h3) h4]
    go_ret
    exact ⟨ret_int (by rw [HV.out]; rfl), ((Below.refl _ _).alloc (Nat.le_refl _) _).trans (hb1.mono (by simp))⟩

/-- What a word names. -/
def rdOk (u : Nat) : Bool := decide (1 ≤ u % 65536) && decide (1 ≤ u / 65536) && decide (u / 65536 ≤ 4294967295)
def rdOf (u : Nat) : Rf := if rdOk u = true then ⟨(u % 65536 : Int) - 1, u / 65536⟩ else ⟨0, 0⟩

theorem rd_word (u : Nat) : (refWord ((u : Int) % 65536 - 1) ((u : Int) / 65536 % 4294967296) = u ∧ u ≠ 0) ↔ rdOk u = true := by
  unfold refWord refGood rdOk
  simp only [Bool.and_eq_true, decide_eq_true_eq]
  constructor
  · rintro ⟨h1, h2⟩
    split at h1 <;> omega
  · rintro ⟨⟨h1, h2⟩, h3⟩
    rw [if_pos (by omega)]
    omega

theorem ret_cell2 {fn : Func} {p u : Tmp} {ty : TypeId} (h : fn.results = #[.cell p ty, .tmp u]) {tmps : Array Value} {w : World} {g : Nat} {v x : Value} (ht : tmps.getD p undef = .pointer (some ⟨g, 0, none⟩)) (hu : tmps.getD u undef = x) (hl : (loadVar ty ⟨g, 0, none⟩).run Tryz.prog w = .ok v w) :
    (results fn tmps).run Tryz.prog w = .ok (.tuple #[v, x]) w := by
  have e1 : (results fn tmps).run Tryz.prog w = ((asAddr (tmps.getD p undef)).run Tryz.prog w).andThen fun a w₁ => ((loadVar ty a).run Tryz.prog w₁).andThen fun v w₂ => .ok (.tuple #[v, tmps.getD u undef]) w₂ := by
    simp only [results, h]
    simp
  rw [e1, ht, hu]
  have ha : (asAddr (.pointer (some ⟨g, 0, none⟩))).run Tryz.prog w = .ok ⟨g, 0, none⟩ w := by simp [asAddr, go_sem]
  rw [ha, Result.andThen_ok, hl, Result.andThen_ok]

theorem rf_load {w : World} {g : Nat} {r : Rf} (h : Blk w g 26 [.int .i64 r.index, .int .i64 r.tag]) : (loadVar 26 ⟨g, 0, none⟩).run Tryz.prog w = .ok (rfV r) w :=
  run_loadVar_row (P := Tryz.prog) w g 26 26 _ (0, 0) _ h Tryz.underlying26 rfl (by kernel_rfl)

theorem and16 (u : Nat) (h : u < 18446744073709551616) : bits BinOp.and IntKind.u64 (u : Int) 65535 = (u : Int) % 65536 := by
  have h1 := bits_and_u64_nat u 65535 h (by decide)
  have h2 : u &&& 65535 = u % 65536 := by
    have := Nat.and_two_pow_sub_one_eq_mod u 16
    simpa using this
  rw [h2] at h1
  exact h1.trans (by omega)
theorem and32 (u : Nat) (h : u < 18446744073709551616) : bits BinOp.and IntKind.u64 (u : Int) 4294967295 = (u : Int) % 4294967296 := by
  have h1 := bits_and_u64_nat u 4294967295 h (by decide)
  have h2 : u &&& 4294967295 = u % 4294967296 := by
    have := Nat.and_two_pow_sub_one_eq_mod u 32
    simpa using this
  rw [h2] at h1
  exact h1.trans (by omega)

set_option maxHeartbeats 4000000 in
set_option maxRecDepth 100000 in
theorem Read_any (u : Nat) (hu : u < 18446744073709551616) (w : World) :
    Calls Tryz.prog 119 #[.int .u64 u] w fun e w' => e = .returned (.tuple #[rfV (rdOf u), .bool (rdOk u)]) ∧ Below w.heap.size w w' := by
  have f1 := and16 u hu
  have f2 := and32 (u / 65536) (by omega)
  rw [show ((u / 65536 : Nat) : Int) = (u : Int) / 65536 by omega] at f2
  have HR := Lib.hid (rd_word u)
  have HO : RowKit.Hid (rdOf u = if rdOk u = true then ⟨(u % 65536 : Int) - 1, u / 65536⟩ else ⟨0, 0⟩) := Lib.hid rfl
  have HX : RowKit.Hid (rdOk u = true → (u : Int) / 65536 % 4294967296 = (u : Int) / 65536) := Lib.hid (by unfold rdOk; simp only [Bool.and_eq_true, decide_eq_true_eq]; omega)
  have p1 : 0 ≤ (u : Int) % 65536 := by omega
  have p2 : (u : Int) % 65536 < 65536 := by omega
  have p3 : 0 ≤ (u : Int) / 65536 % 4294967296 := by omega
  have p4 : (u : Int) / 65536 % 4294967296 < 4294967296 := by omega
  generalize hx : (u : Int) % 65536 = x at *
  generalize hy : (u : Int) / 65536 % 4294967296 = y at *
  have HW := Lib.hid (fun W => rfWord_any (x - 1) y W)
  generalize hrw : refWord (x - 1) y = rw_ at *
  have HB0 := Lib.hid (((Below.refl w.heap.size w).alloc (Nat.le_refl _) (.cells #[.int .i64 0, .int .i64 0] 26)).alloc (by simp) (.cells #[.int .i64 (x - 1), .int .i64 y] 26))
  have HBX := Lib.hid (show Blk ((w.alloc (.cells #[.int .i64 0, .int .i64 0] 26)).alloc (.cells #[.int .i64 (x - 1), .int .i64 y] 26)) w.heap.size 26 [.int .i64 0, .int .i64 0] from (Blk.new w _ _).alloc _)
  have HBY := Lib.hid (show Blk ((w.alloc (.cells #[.int .i64 0, .int .i64 0] 26)).alloc (.cells #[.int .i64 (x - 1), .int .i64 y] 26)) (w.heap.size + 1) 26 [.int .i64 (x - 1), .int .i64 y] from blk_new (by simp))
  cases hok : rdOk u
  case' true =>
    rw [hok] at HR HO HX
    have hr := HR.out.2 rfl
    obtain ⟨hr1, hr2⟩ := hr
    have b1 : (rw_ != (u : Int)) = false := by rw [hr1]; simp
    have b2 : ((u : Int) == 0) = false := by simp; omega
    have HV := Lib.hid (show rfV (rdOf u) = .agg #[.int .i64 (x - 1), .int .i64 y] by rw [HO.out, if_pos rfl, HX.out rfl])
  case' false =>
    rw [hok] at HR HO HX
    have hr := fun h => (HR.out.1 h)
    have HV := Lib.hid (show rfV (rdOf u) = .agg #[.int .i64 0, .int .i64 0] by rw [HO.out]; rfl)
    have HQ := Lib.hid (show (rw_ != (u : Int)) = true ∨ ((rw_ != (u : Int)) = false ∧ ((u : Int) == 0) = true) by
      by_cases hc : rw_ = (u : Int)
      · right; refine ⟨by simp [hc], ?_⟩
        by_cases hz : u = 0
        · simp [hz]
        · exact absurd (hr ⟨hc, hz⟩) (by decide)
      · left; simpa using hc)
  case true =>
    clear hr1 hr2 hok hx hy hrw
    go_enter Tryz.func119, Tryz.ntmps119
    go_wp2_with fail
    refine (HW.out _).mono ?_
    rintro e w1 ⟨rfl, hb1⟩
    have HB1 := Lib.hid (HB0.out.trans (hb1.mono HB0.out.size))
    have HX1 := Lib.hid (HBX.out.below hb1 HBX.out.lt)
    have HY1 := Lib.hid (HBY.out.below hb1 HBY.out.lt)
    have y0 := HY1.out.cell (i := 0) rfl
    have y1 := HY1.out.cell (i := 1) rfl
    have x0 := HX1.out.frozen 0
    have x1 := HX1.out.frozen 1
    have z0 := HX1.out.cell (i := 0) rfl
    have z1 := HX1.out.cell (i := 1) rfl
    clear hb1
    go_wp2
    have hl : Blk ((w1.setCell ⟨w.heap.size, 0, none⟩ (.int .i64 (x - 1))).setCell ⟨w.heap.size, 1, none⟩ (.int .i64 y)) w.heap.size 26 [.int .i64 (x - 1), .int .i64 y] := (HX1.out.set_ 0 (.int .i64 (x - 1))).set_ 1 (.int .i64 y)
    refine bodyPost_ret (v := .tuple #[.agg #[.int .i64 (x - 1), .int .i64 y], .bool true]) (ret_cell2 (g := w.heap.size) (v := .agg #[.int .i64 (x - 1), .int .i64 y]) rfl rfl rfl (rf_load (r := ⟨x - 1, y⟩) hl)) rfl ⟨?_, ?_⟩
    · rw [HV.out]
    · exact (HB1.out.setCell (p := ⟨w.heap.size, 0, none⟩) (Nat.le_refl _) _).setCell (p := ⟨w.heap.size, 1, none⟩) (Nat.le_refl _) _
  case false =>
    clear hr hok hx hy hrw
    rcases HQ.out with b1 | ⟨b1, b2⟩
    all_goals
      go_enter Tryz.func119, Tryz.ntmps119
      go_wp2_with fail
      refine (HW.out _).mono ?_
      rintro e w1 ⟨rfl, hb1⟩
      have HB1 := Lib.hid (HB0.out.trans (hb1.mono HB0.out.size))
      have HX1 := Lib.hid (HBX.out.below hb1 HBX.out.lt)
      have HY1 := Lib.hid (HBY.out.below hb1 HBY.out.lt)
      have y0 := HY1.out.cell (i := 0) rfl
      have y1 := HY1.out.cell (i := 1) rfl
      have x0 := HX1.out.frozen 0
      have x1 := HX1.out.frozen 1
      have z0 := HX1.out.cell (i := 0) rfl
      have z1 := HX1.out.cell (i := 1) rfl
      clear hb1
      go_wp2
      have hl : Blk ((w1.setCell ⟨w.heap.size, 0, none⟩ (.int .i64 0)).setCell ⟨w.heap.size, 1, none⟩ (.int .i64 0)) w.heap.size 26 [.int .i64 0, .int .i64 0] := (HX1.out.set_ 0 (.int .i64 0)).set_ 1 (.int .i64 0)
      refine bodyPost_ret (v := .tuple #[.agg #[.int .i64 0, .int .i64 0], .bool false]) (ret_cell2 (g := w.heap.size) (v := .agg #[.int .i64 0, .int .i64 0]) rfl rfl rfl (rf_load (r := ⟨0, 0⟩) hl)) rfl ⟨?_, ?_⟩
      · rw [HV.out]
      · exact (HB1.out.setCell (p := ⟨w.heap.size, 0, none⟩) (Nat.le_refl _) _).setCell (p := ⟨w.heap.size, 1, none⟩) (Nat.le_refl _) _

end Go.Proofs.YtalkllfgedacoaaGreatDoor

namespace Go.Proofs.YtalkllfgedacoaaGreatDoor
open Go.RowKit Go.Sort

def rrOf (u : Nat) : Resr := ⟨(u : Int) / 17592186044416, (u : Int) / 1099511627776 % 16, (u : Int) / 4294967296 % 256, (u : Int) % 4294967296⟩

theorem rsl_load {w : World} {g : Nat} {r : Resr} (h : Blk w g 36 r.cells) : (loadVar 36 ⟨g, 0, none⟩).run Tryz.prog w = .ok (rsV r) w :=
  run_loadVar_row (P := Tryz.prog) w g 36 36 _ (0, 0) _ h Tryz.underlying36 rfl (by kernel_rfl)

theorem and4 (u : Nat) (h : u < 18446744073709551616) : bits BinOp.and IntKind.u64 (u : Int) 15 = (u : Int) % 16 := by
  have h1 := bits_and_u64_nat u 15 h (by decide)
  have h2 : u &&& 15 = u % 16 := by
    have := Nat.and_two_pow_sub_one_eq_mod u 4
    simpa using this
  rw [h2] at h1
  exact h1.trans (by omega)
theorem and8 (u : Nat) (h : u < 18446744073709551616) : bits BinOp.and IntKind.u64 (u : Int) 255 = (u : Int) % 256 := by
  have h1 := bits_and_u64_nat u 255 h (by decide)
  have h2 : u &&& 255 = u % 256 := by
    have := Nat.and_two_pow_sub_one_eq_mod u 8
    simpa using this
  rw [h2] at h1
  exact h1.trans (by omega)

set_option maxHeartbeats 4000000 in
set_option maxRecDepth 100000 in
theorem ReadResult_any (u : Nat) (hu : u < 18446744073709551616) (w : World) :
    Calls Tryz.prog 79 #[.int .u64 u] w fun e w' => e = .returned (rsV (rrOf u)) ∧ Below w.heap.size w w' := by
  have f1 := and4 (u / 1099511627776) (by omega)
  have f2 := and8 (u / 4294967296) (by omega)
  have f3 := and32 u hu
  rw [show ((u / 1099511627776 : Nat) : Int) = (u : Int) / 1099511627776 by omega] at f1
  rw [show ((u / 4294967296 : Nat) : Int) = (u : Int) / 4294967296 by omega] at f2
  have p1 : 0 ≤ (u : Int) / 17592186044416 ∧ (u : Int) / 17592186044416 < 1048576 := by omega
  have p2 : 0 ≤ (u : Int) / 1099511627776 % 16 ∧ (u : Int) / 1099511627776 % 16 < 16 := by omega
  have p3 : 0 ≤ (u : Int) / 4294967296 % 256 ∧ (u : Int) / 4294967296 % 256 < 256 := by omega
  have p4 : 0 ≤ (u : Int) % 4294967296 ∧ (u : Int) % 4294967296 < 4294967296 := by omega
  obtain ⟨p1a, p1b⟩ := p1
  obtain ⟨p2a, p2b⟩ := p2
  obtain ⟨p3a, p3b⟩ := p3
  obtain ⟨p4a, p4b⟩ := p4
  go_enter Tryz.func79, Tryz.ntmps79
  go_wp2
  refine bodyPost_ret (v := rsV (rrOf u)) (ret_cell (g := w.heap.size) rfl rfl (rsl_load (Blk.new w 36 (rrOf u).cells))) rfl ⟨rfl, ?_⟩
  exact (Below.refl _ _).alloc (Nat.le_refl _) _

end Go.Proofs.YtalkllfgedacoaaGreatDoor

namespace Go.Proofs.YtalkllfgedacoaaGreatDoor
open Go.RowKit Go.Sort

def U64n (n : Nat) : Prop := n < 18446744073709551616

set_option maxHeartbeats 1000000 in
theorem dec_any (n : Int) (w : World) (hn : In64 n) (ht : TabT w) : Calls Tryz.prog 35 #[.int .i64 n] w fun e w' => e = .returned (.string (itoaS n)) ∧ Below w.heap.size w w' := by
  have HC := Lib.hid (Itoa_any n hn w ht)
  go_enter Tryz.func35, Tryz.ntmps35
  go_wp2_with (go_at_call 65; refine HC.out.mono ?_; rintro e w1 ⟨rfl, hb1⟩)
  go_ret
  exact ⟨rfl, hb1⟩

set_option maxHeartbeats 1000000 in
theorem rdec_any (n : Int) (w : World) (hn : In64 n) : Calls Tryz.prog 37 #[.int .i64 n] w fun e w' => e = .returned (.string (itoaS n)) ∧ Below w.heap.size w w' := by
  have HC := Lib.hid (rItoa_any n hn w)
  go_enter Tryz.func37, Tryz.ntmps37
  go_wp2_with (go_at_call 68; refine HC.out.mono ?_; rintro e w1 ⟨rfl, hb1⟩)
  go_ret
  exact ⟨rfl, hb1⟩

set_option maxHeartbeats 1000000 in
theorem vhx_any (n : Nat) (w : World) (hn : n < 18446744073709551616) (ht : Tz16 w) : Calls Tryz.prog 77 #[.int .u64 n] w fun e w' => e = .returned (.string (hexS n)) ∧ Below w.heap.size w w' := by
  have HC := Lib.hid (FormatUint16 n hn w ht)
  go_enter Tryz.func77, Tryz.ntmps77
  go_wp2_with (go_at_call 76; refine HC.out.mono ?_; rintro e w1 ⟨rfl, hb1⟩)
  go_ret
  exact ⟨rfl, hb1⟩

def insideS (u : Nat) : ByteArray := if u = 0 then ⟨#[111, 117, 116]⟩ else udecS (u / 2)

set_option maxHeartbeats 1000000 in
theorem inside_any (u : Nat) (w : World) (hu : u < 18446744073709551616) (ht : TabT w) : Calls Tryz.prog 78 #[.int .u64 u] w fun e w' => e = .returned (.string (insideS u)) ∧ Below w.heap.size w w' := by
  have HC := Lib.hid (FormatUint10 (u / 2) (by omega) w ht)
  rw [show ((u / 2 : Nat) : Int) = (u : Int) / 2 by omega] at HC
  by_cases h0 : u = 0
  · have b0 : ((u : Int) == 0) = true := by simp [h0]
    have HV := Lib.hid (show insideS u = ⟨#[111, 117, 116]⟩ by unfold insideS; rw [if_pos h0])
    clear h0
    go_enter Tryz.func78, Tryz.ntmps78
    go_wp2
    go_ret
    exact ⟨by rw [HV.out]; rfl, Below.refl _ _⟩
  · have b0 : ((u : Int) == 0) = false := by simp [h0]
    have HV := Lib.hid (show insideS u = udecS (u / 2) by unfold insideS; rw [if_neg h0])
    clear h0
    go_enter Tryz.func78, Tryz.ntmps78
    go_wp2_with (go_at_call 76; refine HC.out.mono ?_; rintro e w1 ⟨rfl, hb1⟩)
    go_ret
    exact ⟨by rw [HV.out]; rfl, hb1⟩

def refS (r : Rf) : ByteArray := if r.tag = 0 then ⟨#[110, 111, 110, 101]⟩ else itoaS r.index ++ ⟨#[58]⟩ ++ itoaS r.tag
theorem refS_size {r : Rf} (h1 : In64 r.index) (h2 : In64 r.tag) : (refS r).size ≤ 50 := by
  have a := itoaS_size h1
  have b := itoaS_size h2
  have c : (⟨#[58]⟩ : ByteArray).size = 1 := rfl
  unfold refS
  split
  · decide
  · rw [ByteArray.size_append, ByteArray.size_append, c]; omega
def resS (r : Resr) : ByteArray := ⟨#[99, 97, 108, 108, 32]⟩ ++ itoaS r.seq ++ ⟨#[32]⟩ ++ codeS r.code ++ ⟨#[32]⟩ ++ itoaS r.value ++ ⟨#[32, 99, 97, 115, 101, 32]⟩ ++ itoaS r.case_
theorem resS_size {r : Resr} (h1 : In64 r.seq) (h2 : In64 r.value) (h3 : In64 r.case_) : (resS r).size ≤ 100 := by
  have a := itoaS_size h1
  have b := itoaS_size h2
  have c := itoaS_size h3
  have d := codeS_size r.code
  have e1 : (⟨#[99, 97, 108, 108, 32]⟩ : ByteArray).size = 5 := rfl
  have e2 : (⟨#[32]⟩ : ByteArray).size = 1 := rfl
  have e3 : (⟨#[32, 99, 97, 115, 101, 32]⟩ : ByteArray).size = 6 := rfl
  unfold resS
  simp only [ByteArray.size_append, e1, e2, e3]
  omega

set_option maxHeartbeats 4000000 in
set_option maxRecDepth 100000 in
theorem vRef_any (r : Rf) (w : World) (h1 : In64 r.index) (h2 : In64 r.tag) (ht : TabT w) : Calls Tryz.prog 120 #[rfV r] w fun e w' => e = .returned (.string (refS r)) ∧ Below w.heap.size w w' := by
  have HBX := Lib.hid (Blk.new w 26 [.int .i64 r.index, .int .i64 r.tag])
  have HB0 := Lib.hid ((Below.refl w.heap.size w).alloc (Nat.le_refl _) (.cells #[.int .i64 r.index, .int .i64 r.tag] 26))
  by_cases h0 : r.tag = 0
  · have b0 : (r.tag == 0) = true := by simp [h0]
    have HV := Lib.hid (show refS r = ⟨#[110, 111, 110, 101]⟩ by unfold refS; rw [if_pos h0])
    clear h0
    go_enter Tryz.func120, Tryz.ntmps120
    go_wp2
    go_ret
    exact ⟨by rw [HV.out]; rfl, HB0.out⟩
  · have b0 : (r.tag == 0) = false := by simp [h0]
    have HV := Lib.hid (show refS r = itoaS r.index ++ ⟨#[58]⟩ ++ itoaS r.tag by unfold refS; rw [if_neg h0])
    have HI1 := Lib.hid (fun W h => dec_any r.index W h1 h)
    have HI2 := Lib.hid (fun W h => dec_any r.tag W h2 h)
    have s1 := itoaS_size h1
    have s2 := itoaS_size h2
    have HTW := Lib.hid (ht.below HB0.out)
    clear ht
    clear h0 h1 h2
    generalize refS r = R at *
    generalize itoaS r.index = z1 at *
    generalize itoaS r.tag = z2 at *
    have d1 : ¬ 9223372036854775807 < z1.size + 1 := by omega
    have d2 : ¬ 9223372036854775807 < z1.size + 1 + z2.size := by omega
    go_enter Tryz.func120, Tryz.ntmps120
    go_wp2_with fail
    generalize w.alloc (.cells #[.int .i64 r.index, .int .i64 r.tag] 26) = W0 at *
    have hgl := HBX.out.lt
    have x0 := HBX.out.cell (i := 0) rfl
    have x1 := HBX.out.cell (i := 1) rfl
    have HT0 : RowKit.Hid (TabT W0.drew) := Lib.hid (HTW.out.below (Below.drewN' (Below.refl _ _) 1))
    go_region_held3 (fun w' => w'.cell? ⟨w.heap.size, 0, none⟩ = some (.int .i64 r.index) ∧ w'.cell? ⟨w.heap.size, 1, none⟩ = some (.int .i64 r.tag)) (first | go_keep | (simp only [hk]; go_keep)) (first
      | (go_at_call 35; (with_reducible refine (HI1.out W0.drew HT0.out).mono ?_); rintro e v1 ⟨rfl, hb1⟩; have hB1 : Below W0.heap.size W0 v1 := ⟨hb1.os, hb1.tape, hb1.output, hb1.size, hb1.block⟩; have hk := fun o => hB1.cell (p := ⟨w.heap.size, o, none⟩) hgl; have HT1 := Lib.hid (HTW.out.below hB1))
      | (go_at_call 35; (with_reducible refine (HI2.out v1 HT1.out).mono ?_); rintro e v2 ⟨rfl, hb2⟩; have hB2 : Below W0.heap.size W0 v2 := hB1.trans (hb2.mono hB1.size); have hk := fun o => hB2.cell (p := ⟨w.heap.size, o, none⟩) hgl; have HT2 := Lib.hid (HTW.out.below hB2)))
    go_wp2
    go_ret
    exact ⟨by rw [HV.out]; rfl, HB0.out.trans (hB2.mono HB0.out.size)⟩

set_option maxHeartbeats 8000000 in
set_option maxRecDepth 100000 in
theorem vRes_any (r : Resr) (w : World) (h1 : In64 r.seq) (h2 : In64 r.value) (h3 : In64 r.case_) (ht : TabT w) : Calls Tryz.prog 38 #[rsV r] w fun e w' => e = .returned (.string (resS r)) ∧ Below w.heap.size w w' := by
    have HBX := Lib.hid (Blk.new w 36 r.cells)
    have HB0 := Lib.hid ((Below.refl w.heap.size w).alloc (Nat.le_refl _) (.cells #[.int .i64 r.seq, .int .i64 r.case_, .int .i64 r.code, .int .i64 r.value] 36))
    have HV : RowKit.Hid (resS r = ⟨#[99, 97, 108, 108, 32]⟩ ++ itoaS r.seq ++ ⟨#[32]⟩ ++ codeS r.code ++ ⟨#[32]⟩ ++ itoaS r.value ++ ⟨#[32, 99, 97, 115, 101, 32]⟩ ++ itoaS r.case_) := Lib.hid rfl
    have HI1 := Lib.hid (fun W h => dec_any r.seq W h1 h)
    have HI2 := Lib.hid (fun W (_ : TabT W) => codeS_any r.code W)
    have HI3 := Lib.hid (fun W h => dec_any r.value W h2 h)
    have HI4 := Lib.hid (fun W h => dec_any r.case_ W h3 h)
    have s1 := itoaS_size h1
    have s2 := itoaS_size h2
    have s3 := itoaS_size h3
    have s4 := codeS_size r.code
    have HTW := Lib.hid (ht.below HB0.out)
    clear ht
    clear h1 h2 h3
    generalize resS r = R at *
    generalize itoaS r.seq = z1 at *
    generalize itoaS r.value = z2 at *
    generalize itoaS r.case_ = z3 at *
    generalize codeS r.code = z4 at *
    have d1 : ¬ 9223372036854775807 < 5 + z1.size := by omega
    have d2 : ¬ 9223372036854775807 < 5 + z1.size + 1 := by omega
    have d3 : ¬ 9223372036854775807 < 5 + z1.size + 1 + z4.size := by omega
    have d4 : ¬ 9223372036854775807 < 5 + z1.size + 1 + z4.size + 1 := by omega
    have d5 : ¬ 9223372036854775807 < 5 + z1.size + 1 + z4.size + 1 + z2.size := by omega
    have d6 : ¬ 9223372036854775807 < 5 + z1.size + 1 + z4.size + 1 + z2.size + 6 := by omega
    have d7 : ¬ 9223372036854775807 < 5 + z1.size + 1 + z4.size + 1 + z2.size + 6 + z3.size := by omega
    unfold rsV
    go_enter Tryz.func38, Tryz.ntmps38
    go_wp2_with fail
    have HBX : RowKit.Hid (Blk (w.alloc (.cells #[.int .i64 r.seq, .int .i64 r.case_, .int .i64 r.code, .int .i64 r.value] 36)) w.heap.size 36 r.cells) := HBX
    generalize w.alloc (.cells #[.int .i64 r.seq, .int .i64 r.case_, .int .i64 r.code, .int .i64 r.value] 36) = W0 at *
    have hgl := HBX.out.lt
    obtain ⟨x0, x1, x2, x3⟩ := rsBox HBX.out
    have HT0 : RowKit.Hid (TabT W0.drew) := Lib.hid (HTW.out.below (Below.drewN' (Below.refl _ _) 1))
    go_region_held3 (fun w' => w'.cell? ⟨w.heap.size, 0, none⟩ = some (.int .i64 r.seq) ∧ w'.cell? ⟨w.heap.size, 1, none⟩ = some (.int .i64 r.case_) ∧ w'.cell? ⟨w.heap.size, 2, none⟩ = some (.int .i64 r.code) ∧ w'.cell? ⟨w.heap.size, 3, none⟩ = some (.int .i64 r.value)) (first | go_keep | (simp only [hk]; go_keep)) (first
      | (go_at_call 35; (with_reducible refine (HI1.out W0.drew HT0.out).mono ?_); rintro e v1 ⟨rfl, hb1⟩; have hB1 : Below W0.heap.size W0 v1 := ⟨hb1.os, hb1.tape, hb1.output, hb1.size, hb1.block⟩; have hk := fun o => hB1.cell (p := ⟨w.heap.size, o, none⟩) hgl; have HT1 := Lib.hid (HTW.out.below hB1))
      | (go_at_call 72; (with_reducible refine (HI2.out v1 HT1.out).mono ?_); rintro e v2 ⟨rfl, hb2⟩; have hB2 : Below W0.heap.size W0 v2 := hB1.trans (hb2.mono hB1.size); have hk := fun o => hB2.cell (p := ⟨w.heap.size, o, none⟩) hgl; have HT2 := Lib.hid (HTW.out.below hB2))
      | (go_at_call 35; (with_reducible refine (HI3.out v2 HT2.out).mono ?_); rintro e v3 ⟨rfl, hb3⟩; have hB3 : Below W0.heap.size W0 v3 := hB2.trans (hb3.mono hB2.size); have hk := fun o => hB3.cell (p := ⟨w.heap.size, o, none⟩) hgl; have HT3 := Lib.hid (HTW.out.below hB3))
      | (go_at_call 35; (with_reducible refine (HI4.out v3 HT3.out).mono ?_); rintro e v4 ⟨rfl, hb4⟩; have hB4 : Below W0.heap.size W0 v4 := hB3.trans (hb4.mono hB3.size); have hk := fun o => hB4.cell (p := ⟨w.heap.size, o, none⟩) hgl; have HT4 := Lib.hid (HTW.out.below hB4)))
    go_wp2
    go_ret
    exact ⟨by rw [HV.out]; rfl, HB0.out.trans (hB4.mono HB0.out.size)⟩

set_option maxHeartbeats 8000000 in
set_option maxRecDepth 100000 in
theorem rRes_any (r : Resr) (w : World) (h1 : In64 r.seq) (h2 : In64 r.value) (h3 : In64 r.case_) : Calls Tryz.prog 39 #[rsV r] w fun e w' => e = .returned (.string (resS r)) ∧ Below w.heap.size w w' := by
    have HBX := Lib.hid (Blk.new w 36 r.cells)
    have HB0 := Lib.hid ((Below.refl w.heap.size w).alloc (Nat.le_refl _) (.cells #[.int .i64 r.seq, .int .i64 r.case_, .int .i64 r.code, .int .i64 r.value] 36))
    have HV : RowKit.Hid (resS r = ⟨#[99, 97, 108, 108, 32]⟩ ++ itoaS r.seq ++ ⟨#[32]⟩ ++ codeS r.code ++ ⟨#[32]⟩ ++ itoaS r.value ++ ⟨#[32, 99, 97, 115, 101, 32]⟩ ++ itoaS r.case_) := Lib.hid rfl
    have HI1 := Lib.hid (fun W => rdec_any r.seq W h1)
    have HI2 := Lib.hid (fun W => rcodeS_any r.code W)
    have HI3 := Lib.hid (fun W => rdec_any r.value W h2)
    have HI4 := Lib.hid (fun W => rdec_any r.case_ W h3)
    have s1 := itoaS_size h1
    have s2 := itoaS_size h2
    have s3 := itoaS_size h3
    have s4 := codeS_size r.code
    clear h1 h2 h3
    generalize resS r = R at *
    generalize itoaS r.seq = z1 at *
    generalize itoaS r.value = z2 at *
    generalize itoaS r.case_ = z3 at *
    generalize codeS r.code = z4 at *
    have d1 : ¬ 9223372036854775807 < 5 + z1.size := by omega
    have d2 : ¬ 9223372036854775807 < 5 + z1.size + 1 := by omega
    have d3 : ¬ 9223372036854775807 < 5 + z1.size + 1 + z4.size := by omega
    have d4 : ¬ 9223372036854775807 < 5 + z1.size + 1 + z4.size + 1 := by omega
    have d5 : ¬ 9223372036854775807 < 5 + z1.size + 1 + z4.size + 1 + z2.size := by omega
    have d6 : ¬ 9223372036854775807 < 5 + z1.size + 1 + z4.size + 1 + z2.size + 6 := by omega
    have d7 : ¬ 9223372036854775807 < 5 + z1.size + 1 + z4.size + 1 + z2.size + 6 + z3.size := by omega
    unfold rsV
    go_enter Tryz.func39, Tryz.ntmps39
    go_wp2_with fail
    have HBX : RowKit.Hid (Blk (w.alloc (.cells #[.int .i64 r.seq, .int .i64 r.case_, .int .i64 r.code, .int .i64 r.value] 36)) w.heap.size 36 r.cells) := HBX
    generalize w.alloc (.cells #[.int .i64 r.seq, .int .i64 r.case_, .int .i64 r.code, .int .i64 r.value] 36) = W0 at *
    have hgl := HBX.out.lt
    obtain ⟨x0, x1, x2, x3⟩ := rsBox HBX.out
    go_region_held3 (fun w' => w'.cell? ⟨w.heap.size, 0, none⟩ = some (.int .i64 r.seq) ∧ w'.cell? ⟨w.heap.size, 1, none⟩ = some (.int .i64 r.case_) ∧ w'.cell? ⟨w.heap.size, 2, none⟩ = some (.int .i64 r.code) ∧ w'.cell? ⟨w.heap.size, 3, none⟩ = some (.int .i64 r.value)) (first | go_keep | (simp only [hk]; go_keep)) (first
      | (go_at_call 37; (with_reducible refine (HI1.out W0.drew).mono ?_); rintro e v1 ⟨rfl, hb1⟩; have hB1 : Below W0.heap.size W0 v1 := ⟨hb1.os, hb1.tape, hb1.output, hb1.size, hb1.block⟩; have hk := fun o => hB1.cell (p := ⟨w.heap.size, o, none⟩) hgl)
      | (go_at_call 73; (with_reducible refine (HI2.out v1).mono ?_); rintro e v2 ⟨rfl, hb2⟩; have hB2 : Below W0.heap.size W0 v2 := hB1.trans (hb2.mono hB1.size); have hk := fun o => hB2.cell (p := ⟨w.heap.size, o, none⟩) hgl)
      | (go_at_call 37; (with_reducible refine (HI3.out v2).mono ?_); rintro e v3 ⟨rfl, hb3⟩; have hB3 : Below W0.heap.size W0 v3 := hB2.trans (hb3.mono hB2.size); have hk := fun o => hB3.cell (p := ⟨w.heap.size, o, none⟩) hgl)
      | (go_at_call 37; (with_reducible refine (HI4.out v3).mono ?_); rintro e v4 ⟨rfl, hb4⟩; have hB4 : Below W0.heap.size W0 v4 := hB3.trans (hb4.mono hB3.size); have hk := fun o => hB4.cell (p := ⟨w.heap.size, o, none⟩) hgl))
    go_wp2
    go_ret
    exact ⟨by rw [HV.out]; rfl, HB0.out.trans (hB4.mono HB0.out.size)⟩

end Go.Proofs.YtalkllfgedacoaaGreatDoor

namespace Go.Proofs.YtalkllfgedacoaaGreatDoor
open Go.RowKit Go.Sort

/-- The library's two errors stand. -/
def ErrAt (w : World) (g : Nat) : Prop := g < w.heap.size ∧ ∃ ev, w.cell? ⟨g, 0, none⟩ = some ev ∧ (ev = .nilIface ∨ ∃ te pe, ev = .iface te pe)
theorem ErrAt.below {w w' : World} {g : Nat} (h : ErrAt w g) (hb : Below w.heap.size w w') : ErrAt w' g := by
  obtain ⟨h1, ev, h2, h3⟩ := h
  exact ⟨Nat.lt_of_lt_of_le h1 hb.size, ev, (hb.cell (p := ⟨g, 0, none⟩) h1).trans h2, h3⟩
def ErrT (w : World) : Prop := ErrAt w 5 ∧ ErrAt w 6
theorem ErrT.below {w w' : World} (h : ErrT w) (hb : Below w.heap.size w w') : ErrT w' := ⟨h.1.below hb, h.2.below hb⟩

theorem bytes_below (w : World) (t : TypeId) (s : ByteArray) : Below w.heap.size w (Lib.bytesWorld w t s) := by
  unfold Lib.bytesWorld
  exact Lib.below_freeze (Below.alloc (B := w.heap.size) (Below.drewN' (Below.refl w.heap.size w) 1) (Nat.le_refl _) _) (Nat.le_refl _) 1

end Go.Proofs.YtalkllfgedacoaaGreatDoor

namespace Go.Proofs.YtalkllfgedacoaaGreatDoor
open Go.RowKit Go.Sort

/-- The library's variable that strings.Cut and strings.Split read. -/
def MLT (w : World) : Prop := 1 < w.heap.size ∧ ∃ m, w.cell? ⟨1, 0, none⟩ = some (.int .i64 m)
theorem MLT.below {w w' : World} (h : MLT w) (hb : Below w.heap.size w w') : MLT w' := by
  obtain ⟨h1, m, h2⟩ := h
  exact ⟨Nat.lt_of_lt_of_le h1 hb.size, m, (hb.cell (p := ⟨1, 0, none⟩) h1).trans h2⟩

end Go.Proofs.YtalkllfgedacoaaGreatDoor

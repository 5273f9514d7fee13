/- The document's Number, walked. -/
import Derived.Test.YtalkllfgedacoaaGreatDoorO2
import Derived.Test.YtalkllfgedacoaaGreatDoorO5
import Derived.Test.YtalkllfgedacoaaGreatDoorO3
import Derived.Test.YtalkllfgedacoaaGreatDoorO1
import Derived.OwnWalk
import Derived.Test.YtalkllfgedacoaaGreatDoorShelfPu
import Derived.Lib.UnsafeStr
import Derived.Deep.DeepCutAuto
import Derived.Deep.RegionHeld3
import Derived.Deep.WholeRow
import Derived.Great.Walk
import Derived.Test.YtalkllfgedacoaaGreatDoorO4
import Derived.Test.YtalkllfgedacoaaGreatDoorShelf
namespace Go.Proofs.YtalkllfgedacoaaGreatDoor
open Go.RowKit Go.Sort

def rrOf (u : Nat) : Resr := ⟨(u : Int) / 17592186044416, (u : Int) / 1099511627776 % 16, (u : Int) / 4294967296 % 256, (u : Int) % 4294967296⟩

theorem rsl_load {w : World} {g : Nat} {r : Resr} (h : Blk w g 36 r.cells) : (loadVar 36 ⟨g, 0, none⟩).run Tryz.prog w = .ok (rsV r) w :=
  run_loadVar_row (P := Tryz.prog) w g 36 36 _ (0, 0) _ h Tryz.underlying36 rfl (by kernel_rfl)

theorem and4 (u : Nat) (h : u < 18446744073709551616) : bits BinOp.and IntKind.u64 (u : Int) 15 = (u : Int) % 16 := by
  have h1 := bits_and_u64_nat u 15 h (by decide)
  have h2 : u &&& 15 = u % 16 := by
    have := Nat.and_two_pow_sub_one_eq_mod u 4
    simpa using this
  rw [h2] at h1
  exact h1.trans (by omega)
theorem and8 (u : Nat) (h : u < 18446744073709551616) : bits BinOp.and IntKind.u64 (u : Int) 255 = (u : Int) % 256 := by
  have h1 := bits_and_u64_nat u 255 h (by decide)
  have h2 : u &&& 255 = u % 256 := by
    have := Nat.and_two_pow_sub_one_eq_mod u 8
    simpa using this
  rw [h2] at h1
  exact h1.trans (by omega)

set_option maxHeartbeats 4000000 in
set_option maxRecDepth 100000 in
theorem ReadResult_any (u : Nat) (hu : u < 18446744073709551616) (w : World) :
    Calls Tryz.prog 79 #[.int .u64 u] w fun e w' => e = .returned (rsV (rrOf u)) ∧ Below w.heap.size w w' := by
  have f1 := and4 (u / 1099511627776) (by omega)
  have f2 := and8 (u / 4294967296) (by omega)
  have f3 := and32 u hu
  rw [show ((u / 1099511627776 : Nat) : Int) = (u : Int) / 1099511627776 by omega] at f1
  rw [show ((u / 4294967296 : Nat) : Int) = (u : Int) / 4294967296 by omega] at f2
  have p1 : 0 ≤ (u : Int) / 17592186044416 ∧ (u : Int) / 17592186044416 < 1048576 := by omega
  have p2 : 0 ≤ (u : Int) / 1099511627776 % 16 ∧ (u : Int) / 1099511627776 % 16 < 16 := by omega
  have p3 : 0 ≤ (u : Int) / 4294967296 % 256 ∧ (u : Int) / 4294967296 % 256 < 256 := by omega
  have p4 : 0 ≤ (u : Int) % 4294967296 ∧ (u : Int) % 4294967296 < 4294967296 := by omega
  obtain ⟨p1a, p1b⟩ := p1
  obtain ⟨p2a, p2b⟩ := p2
  obtain ⟨p3a, p3b⟩ := p3
  obtain ⟨p4a, p4b⟩ := p4
  go_enter Tryz.func79, Tryz.ntmps79
  go_wp2
  refine bodyPost_ret (v := rsV (rrOf u)) (ret_cell (g := w.heap.size) rfl rfl (rsl_load (Blk.new w 36 (rrOf u).cells))) rfl ⟨rfl, ?_⟩
  exact (Below.refl _ _).alloc (Nat.le_refl _) _

end Go.Proofs.YtalkllfgedacoaaGreatDoor

namespace Go.Proofs.YtalkllfgedacoaaGreatDoor
open Go.RowKit Go.Sort

def U64n (n : Nat) : Prop := n < 18446744073709551616

set_option maxHeartbeats 1000000 in
theorem dec_any (n : Int) (w : World) (hn : In64 n) (ht : TabT w) : Calls Tryz.prog 35 #[.int .i64 n] w fun e w' => e = .returned (.string (itoaS n)) ∧ Below w.heap.size w w' := by
  have HC := Lib.hid (Itoa_any n hn w ht)
  go_enter Tryz.func35, Tryz.ntmps35
  go_wp2_with (go_at_call 65; refine HC.out.mono ?_; rintro e w1 ⟨rfl, hb1⟩)
  go_ret
  exact ⟨rfl, hb1⟩

set_option maxHeartbeats 1000000 in
theorem rdec_any (n : Int) (w : World) (hn : In64 n) : Calls Tryz.prog 37 #[.int .i64 n] w fun e w' => e = .returned (.string (itoaS n)) ∧ Below w.heap.size w w' := by
  have HC := Lib.hid (rItoa_any n hn w)
  go_enter Tryz.func37, Tryz.ntmps37
  go_wp2_with (go_at_call 68; refine HC.out.mono ?_; rintro e w1 ⟨rfl, hb1⟩)
  go_ret
  exact ⟨rfl, hb1⟩

set_option maxHeartbeats 1000000 in
theorem vhx_any (n : Nat) (w : World) (hn : n < 18446744073709551616) (ht : Tz16 w) : Calls Tryz.prog 77 #[.int .u64 n] w fun e w' => e = .returned (.string (hexS n)) ∧ Below w.heap.size w w' := by
  have HC := Lib.hid (FormatUint16 n hn w ht)
  go_enter Tryz.func77, Tryz.ntmps77
  go_wp2_with (go_at_call 76; refine HC.out.mono ?_; rintro e w1 ⟨rfl, hb1⟩)
  go_ret
  exact ⟨rfl, hb1⟩

def insideS (u : Nat) : ByteArray := if u = 0 then ⟨#[111, 117, 116]⟩ else udecS (u / 2)

set_option maxHeartbeats 1000000 in
theorem inside_any (u : Nat) (w : World) (hu : u < 18446744073709551616) (ht : TabT w) : Calls Tryz.prog 78 #[.int .u64 u] w fun e w' => e = .returned (.string (insideS u)) ∧ Below w.heap.size w w' := by
  have HC := Lib.hid (FormatUint10 (u / 2) (by omega) w ht)
  rw [show ((u / 2 : Nat) : Int) = (u : Int) / 2 by omega] at HC
  by_cases h0 : u = 0
  · have b0 : ((u : Int) == 0) = true := by simp [h0]
    have HV := Lib.hid (show insideS u = ⟨#[111, 117, 116]⟩ by unfold insideS; rw [if_pos h0])
    clear h0
    go_enter Tryz.func78, Tryz.ntmps78
    go_wp2
    go_ret
    exact ⟨by rw [HV.out]; rfl, Below.refl _ _⟩
  · have b0 : ((u : Int) == 0) = false := by simp [h0]
    have HV := Lib.hid (show insideS u = udecS (u / 2) by unfold insideS; rw [if_neg h0])
    clear h0
    go_enter Tryz.func78, Tryz.ntmps78
    go_wp2_with (go_at_call 76; refine HC.out.mono ?_; rintro e w1 ⟨rfl, hb1⟩)
    go_ret
    exact ⟨by rw [HV.out]; rfl, hb1⟩

def refS (r : Rf) : ByteArray := if r.tag = 0 then ⟨#[110, 111, 110, 101]⟩ else itoaS r.index ++ ⟨#[58]⟩ ++ itoaS r.tag
theorem refS_size {r : Rf} (h1 : In64 r.index) (h2 : In64 r.tag) : (refS r).size ≤ 50 := by
  have a := itoaS_size h1
  have b := itoaS_size h2
  have c : (⟨#[58]⟩ : ByteArray).size = 1 := rfl
  unfold refS
  split
  · decide
  · rw [ByteArray.size_append, ByteArray.size_append, c]; omega
def resS (r : Resr) : ByteArray := ⟨#[99, 97, 108, 108, 32]⟩ ++ itoaS r.seq ++ ⟨#[32]⟩ ++ codeS r.code ++ ⟨#[32]⟩ ++ itoaS r.value ++ ⟨#[32, 99, 97, 115, 101, 32]⟩ ++ itoaS r.case_
theorem resS_size {r : Resr} (h1 : In64 r.seq) (h2 : In64 r.value) (h3 : In64 r.case_) : (resS r).size ≤ 100 := by
  have a := itoaS_size h1
  have b := itoaS_size h2
  have c := itoaS_size h3
  have d := codeS_size r.code
  have e1 : (⟨#[99, 97, 108, 108, 32]⟩ : ByteArray).size = 5 := rfl
  have e2 : (⟨#[32]⟩ : ByteArray).size = 1 := rfl
  have e3 : (⟨#[32, 99, 97, 115, 101, 32]⟩ : ByteArray).size = 6 := rfl
  unfold resS
  simp only [ByteArray.size_append, e1, e2, e3]
  omega

set_option maxHeartbeats 4000000 in
set_option maxRecDepth 100000 in
theorem vRef_any (r : Rf) (w : World) (h1 : In64 r.index) (h2 : In64 r.tag) (ht : TabT w) : Calls Tryz.prog 120 #[rfV r] w fun e w' => e = .returned (.string (refS r)) ∧ Below w.heap.size w w' := by
  have HBX := Lib.hid (Blk.new w 26 [.int .i64 r.index, .int .i64 r.tag])
  have HB0 := Lib.hid ((Below.refl w.heap.size w).alloc (Nat.le_refl _) (.cells #[.int .i64 r.index, .int .i64 r.tag] 26))
  by_cases h0 : r.tag = 0
  · have b0 : (r.tag == 0) = true := by simp [h0]
    have HV := Lib.hid (show refS r = ⟨#[110, 111, 110, 101]⟩ by unfold refS; rw [if_pos h0])
    clear h0
    go_enter Tryz.func120, Tryz.ntmps120
    go_wp2
    go_ret
    exact ⟨by rw [HV.out]; rfl, HB0.out⟩
  · have b0 : (r.tag == 0) = false := by simp [h0]
    have HV := Lib.hid (show refS r = itoaS r.index ++ ⟨#[58]⟩ ++ itoaS r.tag by unfold refS; rw [if_neg h0])
    have HI1 := Lib.hid (fun W h => dec_any r.index W h1 h)
    have HI2 := Lib.hid (fun W h => dec_any r.tag W h2 h)
    have s1 := itoaS_size h1
    have s2 := itoaS_size h2
    have HTW := Lib.hid (ht.below HB0.out)
    clear ht
    clear h0 h1 h2
    generalize refS r = R at *
    generalize itoaS r.index = z1 at *
    generalize itoaS r.tag = z2 at *
    have d1 : ¬ 9223372036854775807 < z1.size + 1 := by omega
    have d2 : ¬ 9223372036854775807 < z1.size + 1 + z2.size := by omega
    go_enter Tryz.func120, Tryz.ntmps120
    go_wp2_with fail
    generalize w.alloc (.cells #[.int .i64 r.index, .int .i64 r.tag] 26) = W0 at *
    have hgl := HBX.out.lt
    have x0 := HBX.out.cell (i := 0) rfl
    have x1 := HBX.out.cell (i := 1) rfl
    have HT0 : RowKit.Hid (TabT W0.drew) := Lib.hid (HTW.out.below (Below.drewN' (Below.refl _ _) 1))
    go_region_held3 (fun w' => w'.cell? ⟨w.heap.size, 0, none⟩ = some (.int .i64 r.index) ∧ w'.cell? ⟨w.heap.size, 1, none⟩ = some (.int .i64 r.tag)) (first | go_keep | (simp only [hk]; go_keep)) (first
      | (go_at_call 35; (with_reducible refine (HI1.out W0.drew HT0.out).mono ?_); rintro e v1 ⟨rfl, hb1⟩; have hB1 : Below W0.heap.size W0 v1 := ⟨hb1.os, hb1.tape, hb1.output, hb1.size, hb1.block⟩; have hk := fun o => hB1.cell (p := ⟨w.heap.size, o, none⟩) hgl; have HT1 := Lib.hid (HTW.out.below hB1))
      | (go_at_call 35; (with_reducible refine (HI2.out v1 HT1.out).mono ?_); rintro e v2 ⟨rfl, hb2⟩; have hB2 : Below W0.heap.size W0 v2 := hB1.trans (hb2.mono hB1.size); have hk := fun o => hB2.cell (p := ⟨w.heap.size, o, none⟩) hgl; have HT2 := Lib.hid (HTW.out.below hB2)))
    go_wp2
    go_ret
    exact ⟨by rw [HV.out]; rfl, HB0.out.trans (hB2.mono HB0.out.size)⟩

set_option maxHeartbeats 8000000 in
set_option maxRecDepth 100000 in
theorem vRes_any (r : Resr) (w : World) (h1 : In64 r.seq) (h2 : In64 r.value) (h3 : In64 r.case_) (ht : TabT w) : Calls Tryz.prog 38 #[rsV r] w fun e w' => e = .returned (.string (resS r)) ∧ Below w.heap.size w w' := by
    have HBX := Lib.hid (Blk.new w 36 r.cells)
    have HB0 := Lib.hid ((Below.refl w.heap.size w).alloc (Nat.le_refl _) (.cells #[.int .i64 r.seq, .int .i64 r.case_, .int .i64 r.code, .int .i64 r.value] 36))
    have HV : RowKit.Hid (resS r = ⟨#[99, 97, 108, 108, 32]⟩ ++ itoaS r.seq ++ ⟨#[32]⟩ ++ codeS r.code ++ ⟨#[32]⟩ ++ itoaS r.value ++ ⟨#[32, 99, 97, 115, 101, 32]⟩ ++ itoaS r.case_) := Lib.hid rfl
    have HI1 := Lib.hid (fun W h => dec_any r.seq W h1 h)
    have HI2 := Lib.hid (fun W (_ : TabT W) => codeS_any r.code W)
    have HI3 := Lib.hid (fun W h => dec_any r.value W h2 h)
    have HI4 := Lib.hid (fun W h => dec_any r.case_ W h3 h)
    have s1 := itoaS_size h1
    have s2 := itoaS_size h2
    have s3 := itoaS_size h3
    have s4 := codeS_size r.code
    have HTW := Lib.hid (ht.below HB0.out)
    clear ht
    clear h1 h2 h3
    generalize resS r = R at *
    generalize itoaS r.seq = z1 at *
    generalize itoaS r.value = z2 at *
    generalize itoaS r.case_ = z3 at *
    generalize codeS r.code = z4 at *
    have d1 : ¬ 9223372036854775807 < 5 + z1.size := by omega
    have d2 : ¬ 9223372036854775807 < 5 + z1.size + 1 := by omega
    have d3 : ¬ 9223372036854775807 < 5 + z1.size + 1 + z4.size := by omega
    have d4 : ¬ 9223372036854775807 < 5 + z1.size + 1 + z4.size + 1 := by omega
    have d5 : ¬ 9223372036854775807 < 5 + z1.size + 1 + z4.size + 1 + z2.size := by omega
    have d6 : ¬ 9223372036854775807 < 5 + z1.size + 1 + z4.size + 1 + z2.size + 6 := by omega
    have d7 : ¬ 9223372036854775807 < 5 + z1.size + 1 + z4.size + 1 + z2.size + 6 + z3.size := by omega
    unfold rsV
    go_enter Tryz.func38, Tryz.ntmps38
    go_wp2_with fail
    have HBX : RowKit.Hid (Blk (w.alloc (.cells #[.int .i64 r.seq, .int .i64 r.case_, .int .i64 r.code, .int .i64 r.value] 36)) w.heap.size 36 r.cells) := HBX
    generalize w.alloc (.cells #[.int .i64 r.seq, .int .i64 r.case_, .int .i64 r.code, .int .i64 r.value] 36) = W0 at *
    have hgl := HBX.out.lt
    obtain ⟨x0, x1, x2, x3⟩ := rsBox HBX.out
    have HT0 : RowKit.Hid (TabT W0.drew) := Lib.hid (HTW.out.below (Below.drewN' (Below.refl _ _) 1))
    go_region_held3 (fun w' => w'.cell? ⟨w.heap.size, 0, none⟩ = some (.int .i64 r.seq) ∧ w'.cell? ⟨w.heap.size, 1, none⟩ = some (.int .i64 r.case_) ∧ w'.cell? ⟨w.heap.size, 2, none⟩ = some (.int .i64 r.code) ∧ w'.cell? ⟨w.heap.size, 3, none⟩ = some (.int .i64 r.value)) (first | go_keep | (simp only [hk]; go_keep)) (first
      | (go_at_call 35; (with_reducible refine (HI1.out W0.drew HT0.out).mono ?_); rintro e v1 ⟨rfl, hb1⟩; have hB1 : Below W0.heap.size W0 v1 := ⟨hb1.os, hb1.tape, hb1.output, hb1.size, hb1.block⟩; have hk := fun o => hB1.cell (p := ⟨w.heap.size, o, none⟩) hgl; have HT1 := Lib.hid (HTW.out.below hB1))
      | (go_at_call 72; (with_reducible refine (HI2.out v1 HT1.out).mono ?_); rintro e v2 ⟨rfl, hb2⟩; have hB2 : Below W0.heap.size W0 v2 := hB1.trans (hb2.mono hB1.size); have hk := fun o => hB2.cell (p := ⟨w.heap.size, o, none⟩) hgl; have HT2 := Lib.hid (HTW.out.below hB2))
      | (go_at_call 35; (with_reducible refine (HI3.out v2 HT2.out).mono ?_); rintro e v3 ⟨rfl, hb3⟩; have hB3 : Below W0.heap.size W0 v3 := hB2.trans (hb3.mono hB2.size); have hk := fun o => hB3.cell (p := ⟨w.heap.size, o, none⟩) hgl; have HT3 := Lib.hid (HTW.out.below hB3))
      | (go_at_call 35; (with_reducible refine (HI4.out v3 HT3.out).mono ?_); rintro e v4 ⟨rfl, hb4⟩; have hB4 : Below W0.heap.size W0 v4 := hB3.trans (hb4.mono hB3.size); have hk := fun o => hB4.cell (p := ⟨w.heap.size, o, none⟩) hgl; have HT4 := Lib.hid (HTW.out.below hB4)))
    go_wp2
    go_ret
    exact ⟨by rw [HV.out]; rfl, HB0.out.trans (hB4.mono HB0.out.size)⟩

set_option maxHeartbeats 8000000 in
set_option maxRecDepth 100000 in
theorem rRes_any (r : Resr) (w : World) (h1 : In64 r.seq) (h2 : In64 r.value) (h3 : In64 r.case_) : Calls Tryz.prog 39 #[rsV r] w fun e w' => e = .returned (.string (resS r)) ∧ Below w.heap.size w w' := by
    have HBX := Lib.hid (Blk.new w 36 r.cells)
    have HB0 := Lib.hid ((Below.refl w.heap.size w).alloc (Nat.le_refl _) (.cells #[.int .i64 r.seq, .int .i64 r.case_, .int .i64 r.code, .int .i64 r.value] 36))
    have HV : RowKit.Hid (resS r = ⟨#[99, 97, 108, 108, 32]⟩ ++ itoaS r.seq ++ ⟨#[32]⟩ ++ codeS r.code ++ ⟨#[32]⟩ ++ itoaS r.value ++ ⟨#[32, 99, 97, 115, 101, 32]⟩ ++ itoaS r.case_) := Lib.hid rfl
    have HI1 := Lib.hid (fun W => rdec_any r.seq W h1)
    have HI2 := Lib.hid (fun W => rcodeS_any r.code W)
    have HI3 := Lib.hid (fun W => rdec_any r.value W h2)
    have HI4 := Lib.hid (fun W => rdec_any r.case_ W h3)
    have s1 := itoaS_size h1
    have s2 := itoaS_size h2
    have s3 := itoaS_size h3
    have s4 := codeS_size r.code
    clear h1 h2 h3
    generalize resS r = R at *
    generalize itoaS r.seq = z1 at *
    generalize itoaS r.value = z2 at *
    generalize itoaS r.case_ = z3 at *
    generalize codeS r.code = z4 at *
    have d1 : ¬ 9223372036854775807 < 5 + z1.size := by omega
    have d2 : ¬ 9223372036854775807 < 5 + z1.size + 1 := by omega
    have d3 : ¬ 9223372036854775807 < 5 + z1.size + 1 + z4.size := by omega
    have d4 : ¬ 9223372036854775807 < 5 + z1.size + 1 + z4.size + 1 := by omega
    have d5 : ¬ 9223372036854775807 < 5 + z1.size + 1 + z4.size + 1 + z2.size := by omega
    have d6 : ¬ 9223372036854775807 < 5 + z1.size + 1 + z4.size + 1 + z2.size + 6 := by omega
    have d7 : ¬ 9223372036854775807 < 5 + z1.size + 1 + z4.size + 1 + z2.size + 6 + z3.size := by omega
    unfold rsV
    go_enter Tryz.func39, Tryz.ntmps39
    go_wp2_with fail
    have HBX : RowKit.Hid (Blk (w.alloc (.cells #[.int .i64 r.seq, .int .i64 r.case_, .int .i64 r.code, .int .i64 r.value] 36)) w.heap.size 36 r.cells) := HBX
    generalize w.alloc (.cells #[.int .i64 r.seq, .int .i64 r.case_, .int .i64 r.code, .int .i64 r.value] 36) = W0 at *
    have hgl := HBX.out.lt
    obtain ⟨x0, x1, x2, x3⟩ := rsBox HBX.out
    go_region_held3 (fun w' => w'.cell? ⟨w.heap.size, 0, none⟩ = some (.int .i64 r.seq) ∧ w'.cell? ⟨w.heap.size, 1, none⟩ = some (.int .i64 r.case_) ∧ w'.cell? ⟨w.heap.size, 2, none⟩ = some (.int .i64 r.code) ∧ w'.cell? ⟨w.heap.size, 3, none⟩ = some (.int .i64 r.value)) (first | go_keep | (simp only [hk]; go_keep)) (first
      | (go_at_call 37; (with_reducible refine (HI1.out W0.drew).mono ?_); rintro e v1 ⟨rfl, hb1⟩; have hB1 : Below W0.heap.size W0 v1 := ⟨hb1.os, hb1.tape, hb1.output, hb1.size, hb1.block⟩; have hk := fun o => hB1.cell (p := ⟨w.heap.size, o, none⟩) hgl)
      | (go_at_call 73; (with_reducible refine (HI2.out v1).mono ?_); rintro e v2 ⟨rfl, hb2⟩; have hB2 : Below W0.heap.size W0 v2 := hB1.trans (hb2.mono hB1.size); have hk := fun o => hB2.cell (p := ⟨w.heap.size, o, none⟩) hgl)
      | (go_at_call 37; (with_reducible refine (HI3.out v2).mono ?_); rintro e v3 ⟨rfl, hb3⟩; have hB3 : Below W0.heap.size W0 v3 := hB2.trans (hb3.mono hB2.size); have hk := fun o => hB3.cell (p := ⟨w.heap.size, o, none⟩) hgl)
      | (go_at_call 37; (with_reducible refine (HI4.out v3).mono ?_); rintro e v4 ⟨rfl, hb4⟩; have hB4 : Below W0.heap.size W0 v4 := hB3.trans (hb4.mono hB3.size); have hk := fun o => hB4.cell (p := ⟨w.heap.size, o, none⟩) hgl))
    go_wp2
    go_ret
    exact ⟨by rw [HV.out]; rfl, HB0.out.trans (hB4.mono HB0.out.size)⟩

end Go.Proofs.YtalkllfgedacoaaGreatDoor

namespace Go.Proofs.YtalkllfgedacoaaGreatDoor
open Go.RowKit Go.Sort

/-- The library's two errors stand. -/
def ErrAt (w : World) (g : Nat) : Prop := g < w.heap.size ∧ ∃ ev, w.cell? ⟨g, 0, none⟩ = some ev ∧ (ev = .nilIface ∨ ∃ te pe, ev = .iface te pe)
theorem ErrAt.below {w w' : World} {g : Nat} (h : ErrAt w g) (hb : Below w.heap.size w w') : ErrAt w' g := by
  obtain ⟨h1, ev, h2, h3⟩ := h
  exact ⟨Nat.lt_of_lt_of_le h1 hb.size, ev, (hb.cell (p := ⟨g, 0, none⟩) h1).trans h2, h3⟩
def ErrT (w : World) : Prop := ErrAt w 5 ∧ ErrAt w 6
theorem ErrT.below {w w' : World} (h : ErrT w) (hb : Below w.heap.size w w') : ErrT w' := ⟨h.1.below hb, h.2.below hb⟩

theorem bytes_below (w : World) (t : TypeId) (s : ByteArray) : Below w.heap.size w (Lib.bytesWorld w t s) := by
  unfold Lib.bytesWorld
  exact Lib.below_freeze (Below.alloc (B := w.heap.size) (Below.drewN' (Below.refl w.heap.size w) 1) (Nat.le_refl _) _) (Nat.le_refl _) 1

end Go.Proofs.YtalkllfgedacoaaGreatDoor

namespace Go.Proofs.YtalkllfgedacoaaGreatDoor
open Go.RowKit Go.Sort

/-- The library's variable that strings.Cut and strings.Split read. -/
def MLT (w : World) : Prop := 1 < w.heap.size ∧ ∃ m, w.cell? ⟨1, 0, none⟩ = some (.int .i64 m)
theorem MLT.below {w w' : World} (h : MLT w) (hb : Below w.heap.size w w') : MLT w' := by
  obtain ⟨h1, m, h2⟩ := h
  exact ⟨Nat.lt_of_lt_of_le h1 hb.size, m, (hb.cell (p := ⟨1, 0, none⟩) h1).trans h2⟩

end Go.Proofs.YtalkllfgedacoaaGreatDoor

namespace Go.Proofs.YtalkllfgedacoaaGreatDoor
open Go.RowKit Go.Sort

/-- What the walks of lines read of the world. -/
structure VIn (q : Reqr) (cs : List Cse) (w : World) : Prop where
  req : ReqAt w q cs
  err : ErrT w
  tab : TabT w
  ml : MLT w
theorem VIn.below {q : Reqr} {cs : List Cse} {w w' : World} (h : VIn q cs w) (hb : Below w.heap.size w w') : VIn q cs w' := ⟨h.req.below hb, h.err.below hb, h.tab.below hb, h.ml.below hb⟩

/-- A thread: what its line names, and the other cells. -/
structure Tsk where
  (pc sq : Int)
  (q : Reqr)
  (sl : Bool)
  (rd : Int)
  (r0 r1 r2 r3 r4 r5 r6 r7 r8 r9 r10 r11 r12 r13 r14 r15 r16 r17 r18 r19 r20 r21 r22 r23 r24 : Value)
abbrev taskV (k : Tsk) : Value := .agg #[.int .i64 k.pc, .int .i64 k.sq, .int .i64 k.q.kind, .int .i64 k.q.arg, .int .i64 k.q.value, .bool k.q.dflt, .slice k.q.A k.q.n k.q.c, .bool k.sl, .int .i64 k.rd, k.r0, k.r1, k.r2, k.r3, k.r4, k.r5, k.r6, k.r7, k.r8, k.r9, k.r10, k.r11, k.r12, k.r13, k.r14, k.r15, k.r16, k.r17, k.r18, k.r19, k.r20, k.r21, k.r22, k.r23, k.r24]
def tcells (k : Tsk) : List Value := [.int .i64 k.pc, .int .i64 k.sq, .int .i64 k.q.kind, .int .i64 k.q.arg, .int .i64 k.q.value, .bool k.q.dflt, .slice k.q.A k.q.n k.q.c, .bool k.sl, .int .i64 k.rd, k.r0, k.r1, k.r2, k.r3, k.r4, k.r5, k.r6, k.r7, k.r8, k.r9, k.r10, k.r11, k.r12, k.r13, k.r14, k.r15, k.r16, k.r17, k.r18, k.r19, k.r20, k.r21, k.r22, k.r23, k.r24]
def taskS (k : Tsk) (cs : List Cse) : ByteArray :=
  if k.pc = 0 then stepS k.pc ++ ⟨#[32]⟩ ++ itoaS k.sq
  else if k.sl = true then stepS k.pc ++ ⟨#[32]⟩ ++ itoaS k.sq ++ ⟨#[32]⟩ ++ callS k.q cs ++ ⟨#[32, 115, 108, 111, 119]⟩ ++ ⟨#[32, 114, 111, 117, 110, 100, 32]⟩ ++ itoaS k.rd
  else stepS k.pc ++ ⟨#[32]⟩ ++ itoaS k.sq ++ ⟨#[32]⟩ ++ callS k.q cs ++ ⟨#[32, 114, 111, 117, 110, 100, 32]⟩ ++ itoaS k.rd

/-- A note. -/
structure NotR where
  (kn th sq tm : Int)
  (q : Reqr)
  (r : Resr)
abbrev noteV (k : NotR) : Value := .agg #[.int .i64 k.kn, .int .i64 k.th, .int .i64 k.sq, .int .i64 k.tm, .int .i64 k.q.kind, .int .i64 k.q.arg, .int .i64 k.q.value, .bool k.q.dflt, .slice k.q.A k.q.n k.q.c, .int .i64 k.r.seq, .int .i64 k.r.case_, .int .i64 k.r.code, .int .i64 k.r.value]
def ncells (k : NotR) : List Value := [.int .i64 k.kn, .int .i64 k.th, .int .i64 k.sq, .int .i64 k.tm, .int .i64 k.q.kind, .int .i64 k.q.arg, .int .i64 k.q.value, .bool k.q.dflt, .slice k.q.A k.q.n k.q.c, .int .i64 k.r.seq, .int .i64 k.r.case_, .int .i64 k.r.code, .int .i64 k.r.value]
def noteS (k : NotR) (cs : List Cse) : ByteArray :=
  if k.kn = 1 then itoaS k.tm ++ ⟨#[32, 116, 104, 114, 101, 97, 100, 32]⟩ ++ itoaS k.th ++ ⟨#[32, 99, 97, 108, 108, 115, 32]⟩ ++ itoaS k.sq ++ ⟨#[32]⟩ ++ callS k.q cs
  else if k.kn = 2 then itoaS k.tm ++ ⟨#[32, 116, 104, 114, 101, 97, 100, 32]⟩ ++ itoaS k.th ++ ⟨#[32, 119, 97, 105, 116, 115, 32]⟩ ++ itoaS k.sq
  else if k.kn = 3 then itoaS k.tm ++ ⟨#[32, 116, 104, 114, 101, 97, 100, 32]⟩ ++ itoaS k.th ++ ⟨#[32, 114, 101, 116, 117, 114, 110, 115, 32]⟩ ++ resS k.r
  else itoaS k.tm ++ ⟨#[32, 116, 104, 114, 101, 97, 100, 32]⟩ ++ itoaS k.th ++ ⟨#[32, 110, 111, 116, 104, 105, 110, 103]⟩

/-- A call that the root got. -/
structure Opr where
  (th sq ph : Int)
  (q : Reqr)
def Opr.cells (o : Opr) : List Value := [.int .i64 o.th, .int .i64 o.sq, .int .i64 o.ph, .int .i64 o.q.kind, .int .i64 o.q.arg, .int .i64 o.q.value, .bool o.q.dflt, .slice o.q.A o.q.n o.q.c]
def Opr.none : Opr := ⟨0, 0, 0, ⟨0, 0, 0, false, .none, 0, 0⟩⟩
instance : Cellful Opr where
  cells := Opr.cells
  s := 8
  dflt := Opr.none
  len := fun _ => rfl
  one := fun a u hu => by
    simp only [Opr.cells, List.mem_cons, List.not_mem_nil, or_false] at hu
    rcases hu with rfl | rfl | rfl | rfl | rfl | rfl | rfl | rfl <;> rfl
theorem opr_cells {w : World} {b o : Nat} {l : List Opr} (hc : ∀ k v, (rows l)[k]? = some v → w.cell? ⟨b, o + k, none⟩ = some v) {k : Nat} (hk : k < l.length) {x : Opr} (hx : l.getD k Opr.none = x) :
    w.cell? ⟨b, o + k * 8, none⟩ = some (.int .i64 x.th) ∧ w.cell? ⟨b, o + k * 8 + 1, none⟩ = some (.int .i64 x.sq) ∧ w.cell? ⟨b, o + k * 8 + 2, none⟩ = some (.int .i64 x.ph) ∧ w.cell? ⟨b, o + k * 8 + 3, none⟩ = some (.int .i64 x.q.kind) ∧ w.cell? ⟨b, o + k * 8 + 4, none⟩ = some (.int .i64 x.q.arg) ∧ w.cell? ⟨b, o + k * 8 + 5, none⟩ = some (.int .i64 x.q.value) ∧ w.cell? ⟨b, o + k * 8 + 6, none⟩ = some (.bool x.q.dflt) ∧ w.cell? ⟨b, o + k * 8 + 7, none⟩ = some (.slice x.q.A x.q.n x.q.c) := by
  have h := rec_cell hc hk hx
  exact ⟨h 0 _ rfl, h 1 _ rfl, h 2 _ rfl, h 3 _ rfl, h 4 _ rfl, h 5 _ rfl, h 6 _ rfl, h 7 _ rfl⟩

/-- A change of the root. -/
structure TurR where
  (tm th : Int)
  (A : Option Addr)
  (n c : Nat)
abbrev turnV (k : TurR) : Value := .agg #[.int .i64 k.tm, .int .i64 k.th, .slice k.A k.n k.c]
def opS (o : Opr) : ByteArray := ⟨#[32]⟩ ++ itoaS o.th ++ ⟨#[46]⟩ ++ itoaS o.sq
def opsS (s : ByteArray) : List Opr → ByteArray
  | [] => s
  | o :: r => opsS (s ++ opS o) r
theorem opsS_snoc : ∀ (l : List Opr) (s : ByteArray) (o : Opr), opsS s (l ++ [o]) = opsS s l ++ opS o
  | [], _, _ => rfl
  | _ :: r, _, o => opsS_snoc r _ o
def turnS (k : TurR) (l : List Opr) : ByteArray := opsS (itoaS k.tm ++ ⟨#[32, 116, 104, 114, 101, 97, 100, 32]⟩ ++ itoaS k.th ++ ⟨#[32, 100, 111, 101, 115]⟩) l
theorem opsS_size : ∀ (l : List Opr) (s : ByteArray), (∀ o ∈ l, In64 o.th ∧ In64 o.sq) → (opsS s l).size ≤ s.size + 44 * l.length
  | [], _, _ => by simp [opsS]
  | o :: r, s, h => by
    have h1 := opsS_size r (s ++ opS o) (fun x hx => h x (List.mem_cons_of_mem _ hx))
    have h2 := h o (List.mem_cons_self ..)
    have a := itoaS_size h2.1
    have b := itoaS_size h2.2
    have e1 : (⟨#[32]⟩ : ByteArray).size = 1 := rfl
    have e2 : (⟨#[46]⟩ : ByteArray).size = 1 := rfl
    have h3 : (opS o).size ≤ 44 := by
      unfold opS
      rw [ByteArray.size_append, ByteArray.size_append, ByteArray.size_append, e1, e2]
      omega
    rw [ByteArray.size_append] at h1
    simp only [opsS, List.length_cons]
    omega

end Go.Proofs.YtalkllfgedacoaaGreatDoor

namespace Go.Proofs.YtalkllfgedacoaaGreatDoor
open Go.RowKit Go.Sort


set_option maxHeartbeats 4000000 in
set_option maxRecDepth 100000 in
theorem stepS_any (e : Int) (w : World) : Calls Tryz.prog 34 #[.int .i64 e] w fun er w' => er = .returned (.string (stepS e)) ∧ Below w.heap.size w w' := by
  have HC := Lib.hid (fun k hk => tab_cell w 129 stepsL k hk)
  have HB := Lib.hid ((Below.refl w.heap.size w).alloc (Nat.le_refl _) (.cells (stepsL.map Value.string).toArray 129))
  have hsz : w.heap.size < (w.alloc (.cells (stepsL.map Value.string).toArray 129)).heap.size := by rw [World.size_alloc]; exact Nat.lt_succ_self _
  have HSZ := Lib.hid hsz
  clear hsz
  go_enter Tryz.func34, Tryz.ntmps34
  go_upto_region 1 with (fail)
  refine wp_region_lit ?_
  refine Great.wpList_readTo rfl (some 4) rfl (.agg (stepsL.map Value.string).toArray) (by kernel_rfl) ?_
  refine Great.wpList_allocTo rfl (some 3) rfl (.pointer (some ⟨w.heap.size, 0, none⟩)) (.cells (List.replicate 39 (Value.string ⟨#[]⟩)).toArray 129) (by kernel_rfl) ?_
  refine wpList_store_row rfl 129 (.tmp 3) (.tmp 4) rfl w.heap.size (stepsL.map Value.string).toArray rfl rfl 129 (List.replicate 39 (Value.string ⟨#[]⟩)).toArray (heap_alloc_last w _) (by kernel_rfl) (by kernel_rfl) (by kernel_rfl) ?_
  rw [World.setRow_alloc_new]
  generalize (w.alloc (.cells (stepsL.map Value.string).toArray 129)) = W at *
  generalize (Value.agg (stepsL.map Value.string).toArray) = g4 at *
  have hl := HSZ.out
  by_cases h0 : e < 0
  · have HV := Lib.hid (stepS_out e (.inl h0))
    go_wp2
    go_ret
    exact ⟨by rw [HV.out]; rfl, HB.out⟩
  · by_cases h1 : 39 ≤ e
    · have HV := Lib.hid (stepS_out e (.inr h1))
      go_wp2
      go_ret
      exact ⟨by rw [HV.out]; rfl, HB.out⟩
    · obtain ⟨k, rfl⟩ := Int.eq_ofNat_of_zero_le (show 0 ≤ e by omega)
      have hk : k < 39 := by omega
      have HV := Lib.hid (stepS_in k hk)
      have hx := HC.out k (by rw [steps_len]; exact hk)
      generalize stepsL.getD k ⟨#[]⟩ = x at *
      have q0 : (0 : Int) ≤ (k : Int) := by omega
      have q1 : (k : Int) < 39 := by omega
      go_wp2
      go_ret
      exact ⟨by rw [HV.out]; rfl, HB.out⟩

end Go.Proofs.YtalkllfgedacoaaGreatDoor

namespace Go.Proofs.YtalkllfgedacoaaGreatDoor
open Go.RowKit Go.Sort

def SplitPost (c : UInt8) (s : ByteArray) (w : World) (e : Ending) (w' : World) : Prop :=
  ∃ L cp, e = .returned (.slice (some ⟨L, 0, none⟩) (wordsC c s).length cp) ∧ (wordsC c s).length ≤ cp ∧ w.heap.size ≤ L ∧ Rd w' (some ⟨L, 0, none⟩) (rows (wordsC c s)) ∧ Below w.heap.size w w'

theorem strs_rows (l : List ByteArray) : rows l = l.map Value.string := by
  induction l with
  | nil => rfl
  | cons x r ih => rw [rows_cons, ih]; rfl

theorem SplitC_any (c : UInt8) (s : ByteArray) (w : World) (hs : s.size < 4294967281) (hm : MLT w) :
    Calls Tryz.prog 47 #[.string s, .string ⟨#[c]⟩] w (SplitPost c s w) := by
  obtain ⟨_, m, hm⟩ := hm
  refine (Tryz.strings_Split s ⟨#[c]⟩ m w hs hm (Nat.le_refl 1)).mono ?_
  rintro e w' ⟨rfl, rfl⟩
  have hb : Blk (w.alloc (.cells ((Lib.splitB ⟨#[c]⟩ 0 (Lib.countB s ⟨#[c]⟩) s).map Value.string).toArray 9)) w.heap.size 9 (rows (wordsC c s)) := by
    rw [strs_rows]; exact Blk.new w _ _
  refine ⟨w.heap.size, (wordsC c s).length, ?_, Nat.le_refl _, Nat.le_refl _, hb.rd, (Below.refl _ _).alloc (Nat.le_refl _) _⟩
  rw [wordsC_len]

theorem rSplitC_any (c : UInt8) (s : ByteArray) (w : World) (hs : s.size ≤ 1099511627776) :
    Calls Tryz.prog 49 #[.string s, .int .u8 (c.toNat : Int)] w (SplitPost c s w) := by
  refine (Split_any s c w hs).mono ?_
  rintro e w' ⟨A, cp, rfl, hown, hb⟩
  rw [splitB_eq] at hown
  have hpos : 0 < (wordsC c s).length := by rw [wordsC_len]; omega
  obtain ⟨g, rfl, hg, _⟩ := own_some hown hpos
  refine ⟨g, cp, by rw [splitB_eq], own_le hown, hg, own_rd hown, hb⟩

theorem rd_tail {w : World} {L : Nat} {l : List ByteArray} (h : Rd w (some ⟨L, 0, none⟩) (rows l)) (hne : l ≠ []) : Rd w (some ⟨L, 1, none⟩) (rows l.tail) := by
  obtain ⟨b, o, e, hb, hc⟩ := strs_cell h hne
  injection e with e
  injection e with e1 e2
  subst e1 e2
  refine .inr ⟨L, 1, rfl, hb, fun k v hk => ?_⟩
  rw [strs_rows, List.getElem?_map, List.getElem?_tail] at hk
  cases hx : l[k + 1]? with
  | none => rw [hx] at hk; cases hk
  | some x =>
    rw [hx] at hk
    injection hk with hk
    rw [← hk, Nat.add_comm 1 k]
    have := hc (k + 1) x hx
    rwa [Nat.zero_add] at this
theorem rd_head {w : World} {L : Nat} {l : List ByteArray} (h : Rd w (some ⟨L, 0, none⟩) (rows l)) (hne : 0 < l.length) : L < w.heap.size ∧ w.cell? ⟨L, 0, none⟩ = some (.string (l.getD 0 ⟨#[]⟩)) := by
  obtain ⟨b, o, e, hb, hc⟩ := strs_cell h (fun e => by rw [e] at hne; exact Nat.lt_irrefl _ hne)
  injection e with e
  injection e with e1 e2
  subst e1 e2
  refine ⟨hb, ?_⟩
  have := hc 0 (l.getD 0 ⟨#[]⟩) (by rw [List.getD, List.getElem?_eq_getElem hne]; rfl)
  rwa [Nat.zero_add] at this
theorem rd_nil {w : World} {L o : Nat} (h : L < w.heap.size) : Rd w (some ⟨L, o, none⟩) (rows ([] : List ByteArray)) := .inr ⟨L, o, rfl, h, fun k v hk => by cases hk⟩

theorem nums_cell {w : World} {base m c : Nat} {A : Option Addr} {x : List Nat} (h : w.ownsRow base 3 1 (.slice A m c) m (ints (x.map Int.ofNat))) (hm : 0 < m) :
    ∃ g, A = some ⟨g, 0, none⟩ ∧ base ≤ g ∧ g < w.heap.size ∧ ∀ k, k < x.length → w.cell? ⟨g, k, none⟩ = some (.int .i64 (x.getD k 0 : Nat)) := by
  obtain ⟨g, rfl, hg, hl⟩ := own_some h hm
  refine ⟨g, rfl, hg, hl, fun k hk => ?_⟩
  rcases own_rd h with h' | ⟨b, o, e, hb, hc⟩
  · rw [ints] at h'
    have : x = [] := by simpa using h'
    rw [this] at hk
    exact absurd hk (Nat.not_lt_zero _)
  · injection e with e
    injection e with e1 e2
    subst e1 e2
    have := hc k (.int .i64 (x.getD k 0 : Nat)) (by simp [ints, hk])
    rwa [Nat.zero_add] at this
theorem eqL {x y : ByteArray} {l : List UInt8} (h : ¬ x = y) (e : y.toList = l) : (x.toList == l) = false := by
  rw [← e, beq_eq_false_iff_ne]; intro h'; exact h (ByteArray.ext (Array.toList_inj.1 (by rw [← ByteArray.toList_eq, ← ByteArray.toList_eq]; exact h')))
theorem eqT {x y : ByteArray} (h : x = y) : (x.toList == y.toList) = true := by rw [h]; exact beq_self_eq_true _
theorem eqF {x y : ByteArray} (h : ¬ x = y) : (x.toList == y.toList) = false := by
  rw [beq_eq_false_iff_ne]; intro h'; exact h (ByteArray.ext (Array.toList_inj.1 (by rw [← ByteArray.toList_eq, ← ByteArray.toList_eq]; exact h')))

end Go.Proofs.YtalkllfgedacoaaGreatDoor

namespace Go.Proofs.YtalkllfgedacoaaGreatDoor
open Go.RowKit Go.Sort

set_option maxHeartbeats 8000000 in
set_option maxRecDepth 100000 in
theorem rNumber_any (most : Nat) (s : ByteArray) (w : World) (hm : most ≤ 4294967295) (h9 : 9 ≤ most) (hs : s.size ≤ 4294967296) :
    Calls Tryz.prog 86 #[.string s, .int .i64 most] w fun e w' => e = .returned (.tuple #[.int .i64 ((numQ most s).getD 0 : Nat), .bool (numQ most s).isSome]) ∧ Below w.heap.size w w' := by
  have HNR := Lib.hid (numR_eq h9 hm s)
  have hsz : s.size = s.data.toList.length := by rw [Array.length_toList]; rfl
  have HSZ := Lib.hid hsz
  clear hsz
  by_cases hbad : s.size = 0 ∨ 19 < s.size ∨ (1 < s.size ∧ s.data.toList.getD 0 0 = 48)
  · have HV : RowKit.Hid (numQ most s = none) := Lib.hid (by rw [← HNR.out]; unfold numR; rw [if_pos hbad])
    clear HNR
    generalize numQ most s = R at *
    by_cases h0 : s.size = 0
    · go_enter Tryz.func86, Tryz.ntmps86
      go_wp2
      go_ret2
      rw [HV.out]
      exact ⟨rfl, Below.refl _ _⟩
    · by_cases h19 : 19 < s.size
      · go_enter Tryz.func86, Tryz.ntmps86
        go_wp2
        go_ret2
        rw [HV.out]
        exact ⟨rfl, Below.refl _ _⟩
      · have h1 : 1 < s.size := by omega
        have hc : s.data.toList.getD 0 0 = 48 := by
          rcases hbad with h | h | h
          · exact absurd h h0
          · exact absurd h h19
          · exact h.2
        have hlt : 0 < s.size := by omega
        have hg : s[0] = 48 := by
          have hl : 0 < s.data.toList.length := by rw [← HSZ.out]; exact hlt
          rw [List.getD, List.getElem?_eq_getElem hl] at hc
          exact hc
        clear hbad hc
        go_enter Tryz.func86, Tryz.ntmps86
        go_wp2
        go_ret2
        rw [HV.out]
        exact ⟨rfl, Below.refl _ _⟩
  · have h0 : ¬ s.size = 0 := fun e => hbad (.inl e)
    have h19 : ¬ 19 < s.size := fun e => hbad (.inr (.inl e))
    have hz : ¬ (1 < s.size ∧ s.data.toList.getD 0 0 = 48) := fun e => hbad (.inr (.inr e))
    have HV : RowKit.Hid (numQ most s = match runR most s.data.toList 0 with
      | none => none
      | some n => if n ≤ most then some n else none) := Lib.hid (by rw [← HNR.out]; unfold numR; rw [if_neg hbad]; cases runR most s.data.toList 0 <;> rfl)
    clear HNR hbad
    have hlt0 : 0 < s.size := by omega
    have hg0 : s.data.toList.getD 0 0 = s[0] := by
      have hl : 0 < s.data.toList.length := by rw [← HSZ.out]; exact hlt0
      rw [List.getD, List.getElem?_eq_getElem hl]; rfl
    rw [hg0] at hz
    clear hg0
    have e0 : ((s.size : Int) == 0) = false := by rw [beq_eq_false_iff_ne]; omega
    have q19 : ¬ (19 : Int) < (s.size : Int) := by omega
    generalize hR : numQ most s = R at *
    clear hR
    by_cases h1 : 1 < s.size
    · have q11 : (1 : Int) < (s.size : Int) := by omega
      have e48 : ((s[0].toNat : Int) == 48) = false := by
        rw [beq_eq_false_iff_ne]
        intro e
        apply hz
        refine ⟨h1, ?_⟩
        apply UInt8.toNat_inj.1
        show s[0].toNat = 48
        omega
      clear hz
      go_enter Tryz.func86, Tryz.ntmps86
      go_wp2
      go_loopg [6, 7] s.size (fun gg nv iv wr => ∃ k n : Nat, k ≤ s.size ∧ gg = s.size - k ∧ iv = .int .i64 k ∧ nv = .int .i64 n ∧ n ≤ most ∧ runR most (s.data.toList.take k) 0 = some n ∧ wr = w)
      case atStart => exact ⟨0, 0, Nat.zero_le _, rfl, rfl, rfl, Nat.zero_le _, rfl, rfl⟩
      case round =>
        obtain ⟨k, n, hk, hg, rfl, rfl, hnm, hrun, rfl⟩ := hrel
        have HG := Lib.hid hg
        have HRUN := Lib.hid hrun
        clear hg hrun
        by_cases hlt : k < s.size
        · have q1 : (k : Int) < (s.size : Int) := by omega
          have hkl : k < s.data.toList.length := by rw [← HSZ.out]; exact hlt
          have HSTEP := Lib.hid (runR_step hkl HRUN.out)
          have HBT := Lib.hid (fun m (h : runR most (s.data.toList.take (k + 1)) 0 = some m) => runR_le h9 _ 0 m (Nat.zero_le _) h)
          rw [show s.data.toList.getD k 0 = s[k]'hlt by rw [List.getD, List.getElem?_eq_getElem hkl]; rfl] at HSTEP
          clear hkl
          generalize hb : s[k]'hlt = b at *
          have HBK := Lib.hid hb
          have hb8 := b.toNat_lt
          by_cases c1 : b.toNat < 48
          · have q2 : (b.toNat : Int) - 48 < 0 := by omega
            have HD := Lib.hid (show runR most s.data.toList 0 = none from runR_dead (k := k + 1) (by rw [HSTEP.out, if_neg (by omega)]))
            go_wp2
            go_ret2
            rw [HV.out, HD.out]
            exact ⟨rfl, Below.refl _ _⟩
          · by_cases c2 : 57 < b.toNat
            · have q2 : ¬ (b.toNat : Int) - 48 < 0 := by omega
              have q3 : 9 < (b.toNat : Int) - 48 := by omega
              have HD := Lib.hid (show runR most s.data.toList 0 = none from runR_dead (k := k + 1) (by rw [HSTEP.out, if_neg (by omega)]))
              go_wp2
              go_ret2
              rw [HV.out, HD.out]
              exact ⟨rfl, Below.refl _ _⟩
            · have q2 : ¬ (b.toNat : Int) - 48 < 0 := by omega
              have q3 : ¬ 9 < (b.toNat : Int) - 48 := by omega
              by_cases c3 : n ≤ (most - (b.toNat - 48)) / 10
              · have q4 : ¬ ((most : Int) - ((b.toNat : Int) - 48)) / 10 < (n : Int) := by omega
                have q5 : 10 * (n : Int) + ((b.toNat : Int) - 48) ≤ 4294967295 := by omega
                have q6 : 0 ≤ 10 * (n : Int) + ((b.toNat : Int) - 48) := by omega
                have q7 : 0 ≤ (most : Int) - ((b.toNat : Int) - 48) := by omega
                have HD := Lib.hid (show runR most (s.data.toList.take (k + 1)) 0 = some (10 * n + (b.toNat - 48)) by rw [HSTEP.out, if_pos (by omega)])
                go_wp2
                go_roundg (s.size - (k + 1))
                case measure => rw [HG.out]; omega
                case rel => exact ⟨k + 1, 10 * n + (b.toNat - 48), by omega, rfl, by go_num, congrArg (Value.int .i64) (by omega), HBT.out _ HD.out, HD.out, rfl⟩
              · have q4 : ((most : Int) - ((b.toNat : Int) - 48)) / 10 < (n : Int) := by omega
                have q7 : 0 ≤ (most : Int) - ((b.toNat : Int) - 48) := by omega
                have HD := Lib.hid (show runR most s.data.toList 0 = none from runR_dead (k := k + 1) (by rw [HSTEP.out, if_neg (by omega)]))
                go_wp2
                go_ret2
                rw [HV.out, HD.out]
                exact ⟨rfl, Below.refl _ _⟩
        · obtain rfl : k = s.size := by omega
          have q1 : ¬ (s.size : Int) < (s.size : Int) := by omega
          have HD : RowKit.Hid (runR most s.data.toList 0 = some n) := Lib.hid (by
            have := HRUN.out
            rwa [HSZ.out, List.take_length] at this)
          have q2 : (n : Int) ≤ (most : Int) := by omega
          go_wp2
          go_ret2
          rw [HV.out, HD.out]
          simp only
          rw [if_pos hnm]
          exact ⟨rfl, Below.refl _ _⟩
    · have q11 : ¬ (1 : Int) < (s.size : Int) := by omega
      clear hz
      go_enter Tryz.func86, Tryz.ntmps86
      go_wp2
      go_loopg [6, 7] s.size (fun gg nv iv wr => ∃ k n : Nat, k ≤ s.size ∧ gg = s.size - k ∧ iv = .int .i64 k ∧ nv = .int .i64 n ∧ n ≤ most ∧ runR most (s.data.toList.take k) 0 = some n ∧ wr = w)
      case atStart => exact ⟨0, 0, Nat.zero_le _, rfl, rfl, rfl, Nat.zero_le _, rfl, rfl⟩
      case round =>
        obtain ⟨k, n, hk, hg, rfl, rfl, hnm, hrun, rfl⟩ := hrel
        have HG := Lib.hid hg
        have HRUN := Lib.hid hrun
        clear hg hrun
        by_cases hlt : k < s.size
        · have q1 : (k : Int) < (s.size : Int) := by omega
          have hkl : k < s.data.toList.length := by rw [← HSZ.out]; exact hlt
          have HSTEP := Lib.hid (runR_step hkl HRUN.out)
          have HBT := Lib.hid (fun m (h : runR most (s.data.toList.take (k + 1)) 0 = some m) => runR_le h9 _ 0 m (Nat.zero_le _) h)
          rw [show s.data.toList.getD k 0 = s[k]'hlt by rw [List.getD, List.getElem?_eq_getElem hkl]; rfl] at HSTEP
          clear hkl
          generalize hb : s[k]'hlt = b at *
          have HBK := Lib.hid hb
          have hb8 := b.toNat_lt
          by_cases c1 : b.toNat < 48
          · have q2 : (b.toNat : Int) - 48 < 0 := by omega
            have HD := Lib.hid (show runR most s.data.toList 0 = none from runR_dead (k := k + 1) (by rw [HSTEP.out, if_neg (by omega)]))
            go_wp2
            go_ret2
            rw [HV.out, HD.out]
            exact ⟨rfl, Below.refl _ _⟩
          · by_cases c2 : 57 < b.toNat
            · have q2 : ¬ (b.toNat : Int) - 48 < 0 := by omega
              have q3 : 9 < (b.toNat : Int) - 48 := by omega
              have HD := Lib.hid (show runR most s.data.toList 0 = none from runR_dead (k := k + 1) (by rw [HSTEP.out, if_neg (by omega)]))
              go_wp2
              go_ret2
              rw [HV.out, HD.out]
              exact ⟨rfl, Below.refl _ _⟩
            · have q2 : ¬ (b.toNat : Int) - 48 < 0 := by omega
              have q3 : ¬ 9 < (b.toNat : Int) - 48 := by omega
              by_cases c3 : n ≤ (most - (b.toNat - 48)) / 10
              · have q4 : ¬ ((most : Int) - ((b.toNat : Int) - 48)) / 10 < (n : Int) := by omega
                have q5 : 10 * (n : Int) + ((b.toNat : Int) - 48) ≤ 4294967295 := by omega
                have q6 : 0 ≤ 10 * (n : Int) + ((b.toNat : Int) - 48) := by omega
                have q7 : 0 ≤ (most : Int) - ((b.toNat : Int) - 48) := by omega
                have HD := Lib.hid (show runR most (s.data.toList.take (k + 1)) 0 = some (10 * n + (b.toNat - 48)) by rw [HSTEP.out, if_pos (by omega)])
                go_wp2
                go_roundg (s.size - (k + 1))
                case measure => rw [HG.out]; omega
                case rel => exact ⟨k + 1, 10 * n + (b.toNat - 48), by omega, rfl, by go_num, congrArg (Value.int .i64) (by omega), HBT.out _ HD.out, HD.out, rfl⟩
              · have q4 : ((most : Int) - ((b.toNat : Int) - 48)) / 10 < (n : Int) := by omega
                have q7 : 0 ≤ (most : Int) - ((b.toNat : Int) - 48) := by omega
                have HD := Lib.hid (show runR most s.data.toList 0 = none from runR_dead (k := k + 1) (by rw [HSTEP.out, if_neg (by omega)]))
                go_wp2
                go_ret2
                rw [HV.out, HD.out]
                exact ⟨rfl, Below.refl _ _⟩
        · obtain rfl : k = s.size := by omega
          have q1 : ¬ (s.size : Int) < (s.size : Int) := by omega
          have HD : RowKit.Hid (runR most s.data.toList 0 = some n) := Lib.hid (by
            have := HRUN.out
            rwa [HSZ.out, List.take_length] at this)
          have q2 : (n : Int) ≤ (most : Int) := by omega
          go_wp2
          go_ret2
          rw [HV.out, HD.out]
          simp only
          rw [if_pos hnm]
          exact ⟨rfl, Below.refl _ _⟩

end Go.Proofs.YtalkllfgedacoaaGreatDoor

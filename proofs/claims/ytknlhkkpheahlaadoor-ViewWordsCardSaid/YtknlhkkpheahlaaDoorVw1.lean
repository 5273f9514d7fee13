/- view: a number, a node's name, a word's name, a result as text; the program's and the document's, walked. -/
import Derived.Test.YtknlhkkpheahlaaDoorNameC
import Derived.Test.YtknlhkkpheahlaaDoorDig
import Derived.Test.YtknlhkkpheahlaaDoorRef04
import Derived.Test.YtknlhkkpheahlaaDoorPack
namespace Go.Proofs.YtknlhkkpheahlaaDoor
open Go.RowKit Go.Sort

def U64n (n : Nat) : Prop := n < 18446744073709551616

set_option maxHeartbeats 1000000 in
theorem dec_any (n : Int) (w : World) (hn : In64 n) (ht : TabT w) : Calls Tryd.prog 44 #[.int .i64 n] w fun e w' => e = .returned (.string (itoaS n)) ∧ Below w.heap.size w w' := by
  have HC := Lib.hid (Itoa_any n hn w ht)
  go_enter Tryd.func44, Tryd.ntmps44
  go_wp2_with (go_at_call 65; refine HC.out.mono ?_; rintro e w1 ⟨rfl, hb1⟩)
  go_ret
  exact ⟨rfl, hb1⟩

set_option maxHeartbeats 1000000 in
theorem rdec_any (n : Int) (w : World) (hn : In64 n) : Calls Tryd.prog 52 #[.int .i64 n] w fun e w' => e = .returned (.string (itoaS n)) ∧ Below w.heap.size w w' := by
  have HC := Lib.hid (rItoa_any n hn w)
  go_enter Tryd.func52, Tryd.ntmps52
  go_wp2_with (go_at_call 34; refine HC.out.mono ?_; rintro e w1 ⟨rfl, hb1⟩)
  go_ret
  exact ⟨rfl, hb1⟩

set_option maxHeartbeats 1000000 in
theorem vhx_any (n : Nat) (w : World) (hn : n < 18446744073709551616) (ht : Tz16 w) : Calls Tryd.prog 47 #[.int .u64 n] w fun e w' => e = .returned (.string (hexS n)) ∧ Below w.heap.size w w' := by
  have HC := Lib.hid (FormatUint16 n hn w ht)
  go_enter Tryd.func47, Tryd.ntmps47
  go_wp2_with (go_at_call 46; refine HC.out.mono ?_; rintro e w1 ⟨rfl, hb1⟩)
  go_ret
  exact ⟨rfl, hb1⟩

def insideS (u : Nat) : ByteArray := if u = 0 then ⟨#[111, 117, 116]⟩ else udecS (u / 2)

set_option maxHeartbeats 1000000 in
theorem inside_any (u : Nat) (w : World) (hu : u < 18446744073709551616) (ht : TabT w) : Calls Tryd.prog 48 #[.int .u64 u] w fun e w' => e = .returned (.string (insideS u)) ∧ Below w.heap.size w w' := by
  have HC := Lib.hid (FormatUint10 (u / 2) (by omega) w ht)
  rw [show ((u / 2 : Nat) : Int) = (u : Int) / 2 by omega] at HC
  by_cases h0 : u = 0
  · have b0 : ((u : Int) == 0) = true := by simp [h0]
    have HV := Lib.hid (show insideS u = ⟨#[111, 117, 116]⟩ by unfold insideS; rw [if_pos h0])
    clear h0
    go_enter Tryd.func48, Tryd.ntmps48
    go_wp2
    go_ret
    exact ⟨by rw [HV.out]; rfl, Below.refl _ _⟩
  · have b0 : ((u : Int) == 0) = false := by simp [h0]
    have HV := Lib.hid (show insideS u = udecS (u / 2) by unfold insideS; rw [if_neg h0])
    clear h0
    go_enter Tryd.func48, Tryd.ntmps48
    go_wp2_with (go_at_call 46; refine HC.out.mono ?_; rintro e w1 ⟨rfl, hb1⟩)
    go_ret
    exact ⟨by rw [HV.out]; rfl, hb1⟩

def refS (r : Rf) : ByteArray := if r.tag = 0 then ⟨#[110, 111, 110, 101]⟩ else itoaS r.index ++ ⟨#[58]⟩ ++ itoaS r.tag
theorem refS_size {r : Rf} (h1 : In64 r.index) (h2 : In64 r.tag) : (refS r).size ≤ 50 := by
  have a := itoaS_size h1
  have b := itoaS_size h2
  have c : (⟨#[58]⟩ : ByteArray).size = 1 := rfl
  unfold refS
  split
  · decide
  · rw [ByteArray.size_append, ByteArray.size_append, c]; omega
def resS (r : Resr) : ByteArray := ⟨#[99, 97, 108, 108, 32]⟩ ++ itoaS r.seq ++ ⟨#[32]⟩ ++ codeS r.code ++ ⟨#[32]⟩ ++ itoaS r.value ++ ⟨#[32, 99, 97, 115, 101, 32]⟩ ++ itoaS r.case_
theorem resS_size {r : Resr} (h1 : In64 r.seq) (h2 : In64 r.value) (h3 : In64 r.case_) : (resS r).size ≤ 100 := by
  have a := itoaS_size h1
  have b := itoaS_size h2
  have c := itoaS_size h3
  have d := codeS_size r.code
  have e1 : (⟨#[99, 97, 108, 108, 32]⟩ : ByteArray).size = 5 := rfl
  have e2 : (⟨#[32]⟩ : ByteArray).size = 1 := rfl
  have e3 : (⟨#[32, 99, 97, 115, 101, 32]⟩ : ByteArray).size = 6 := rfl
  unfold resS
  simp only [ByteArray.size_append, e1, e2, e3]
  omega

set_option maxHeartbeats 4000000 in
set_option maxRecDepth 100000 in
theorem vRef_any (r : Rf) (w : World) (h1 : In64 r.index) (h2 : In64 r.tag) (ht : TabT w) : Calls Tryd.prog 14 #[rfV r] w fun e w' => e = .returned (.string (refS r)) ∧ Below w.heap.size w w' := by
  have HBX := Lib.hid (Blk.new w 48 [.int .i64 r.index, .int .i64 r.tag])
  have HB0 := Lib.hid ((Below.refl w.heap.size w).alloc (Nat.le_refl _) (.cells #[.int .i64 r.index, .int .i64 r.tag] 48))
  by_cases h0 : r.tag = 0
  · have b0 : (r.tag == 0) = true := by simp [h0]
    have HV := Lib.hid (show refS r = ⟨#[110, 111, 110, 101]⟩ by unfold refS; rw [if_pos h0])
    clear h0
    go_enter Tryd.func14, Tryd.ntmps14
    go_wp2
    go_ret
    exact ⟨by rw [HV.out]; rfl, HB0.out⟩
  · have b0 : (r.tag == 0) = false := by simp [h0]
    have HV := Lib.hid (show refS r = itoaS r.index ++ ⟨#[58]⟩ ++ itoaS r.tag by unfold refS; rw [if_neg h0])
    have HI1 := Lib.hid (fun W h => dec_any r.index W h1 h)
    have HI2 := Lib.hid (fun W h => dec_any r.tag W h2 h)
    have s1 := itoaS_size h1
    have s2 := itoaS_size h2
    have HTW := Lib.hid (ht.below HB0.out)
    clear ht
    clear h0 h1 h2
    generalize refS r = R at *
    generalize itoaS r.index = z1 at *
    generalize itoaS r.tag = z2 at *
    have d1 : ¬ 9223372036854775807 < z1.size + 1 := by omega
    have d2 : ¬ 9223372036854775807 < z1.size + 1 + z2.size := by omega
    go_enter Tryd.func14, Tryd.ntmps14
    go_wp2_with fail
    generalize w.alloc (.cells #[.int .i64 r.index, .int .i64 r.tag] 48) = W0 at *
    have hgl := HBX.out.lt
    have x0 := HBX.out.cell (i := 0) rfl
    have x1 := HBX.out.cell (i := 1) rfl
    have HT0 : RowKit.Hid (TabT W0.drew) := Lib.hid (HTW.out.below (Below.drewN' (Below.refl _ _) 1))
    go_region_held3 (fun w' => w'.cell? ⟨w.heap.size, 0, none⟩ = some (.int .i64 r.index) ∧ w'.cell? ⟨w.heap.size, 1, none⟩ = some (.int .i64 r.tag)) (first | go_keep | (simp only [hk]; go_keep)) (first
      | (go_at_call 44; (with_reducible refine (HI1.out W0.drew HT0.out).mono ?_); rintro e v1 ⟨rfl, hb1⟩; have hB1 : Below W0.heap.size W0 v1 := ⟨hb1.os, hb1.tape, hb1.output, hb1.size, hb1.block⟩; have hk := fun o => hB1.cell (p := ⟨w.heap.size, o, none⟩) hgl; have HT1 := Lib.hid (HTW.out.below hB1))
      | (go_at_call 44; (with_reducible refine (HI2.out v1 HT1.out).mono ?_); rintro e v2 ⟨rfl, hb2⟩; have hB2 : Below W0.heap.size W0 v2 := hB1.trans (hb2.mono hB1.size); have hk := fun o => hB2.cell (p := ⟨w.heap.size, o, none⟩) hgl; have HT2 := Lib.hid (HTW.out.below hB2)))
    go_wp2
    go_ret
    exact ⟨by rw [HV.out]; rfl, HB0.out.trans (hB2.mono HB0.out.size)⟩

set_option maxHeartbeats 4000000 in
set_option maxRecDepth 100000 in
theorem rRef_any (r : Rf) (w : World) (h1 : In64 r.index) (h2 : In64 r.tag) : Calls Tryd.prog 15 #[rfV r] w fun e w' => e = .returned (.string (refS r)) ∧ Below w.heap.size w w' := by
  have HBX := Lib.hid (Blk.new w 48 [.int .i64 r.index, .int .i64 r.tag])
  have HB0 := Lib.hid ((Below.refl w.heap.size w).alloc (Nat.le_refl _) (.cells #[.int .i64 r.index, .int .i64 r.tag] 48))
  by_cases h0 : r.tag = 0
  · have b0 : (r.tag == 0) = true := by simp [h0]
    have HV := Lib.hid (show refS r = ⟨#[110, 111, 110, 101]⟩ by unfold refS; rw [if_pos h0])
    clear h0
    go_enter Tryd.func15, Tryd.ntmps15
    go_wp2
    go_ret
    exact ⟨by rw [HV.out]; rfl, HB0.out⟩
  · have b0 : (r.tag == 0) = false := by simp [h0]
    have HV := Lib.hid (show refS r = itoaS r.index ++ ⟨#[58]⟩ ++ itoaS r.tag by unfold refS; rw [if_neg h0])
    have HI1 := Lib.hid (fun W => rdec_any r.index W h1)
    have HI2 := Lib.hid (fun W => rdec_any r.tag W h2)
    have s1 := itoaS_size h1
    have s2 := itoaS_size h2
    clear h0 h1 h2
    generalize refS r = R at *
    generalize itoaS r.index = z1 at *
    generalize itoaS r.tag = z2 at *
    have d1 : ¬ 9223372036854775807 < z1.size + 1 := by omega
    have d2 : ¬ 9223372036854775807 < z1.size + 1 + z2.size := by omega
    go_enter Tryd.func15, Tryd.ntmps15
    go_wp2_with fail
    generalize w.alloc (.cells #[.int .i64 r.index, .int .i64 r.tag] 48) = W0 at *
    have hgl := HBX.out.lt
    have x0 := HBX.out.cell (i := 0) rfl
    have x1 := HBX.out.cell (i := 1) rfl
    go_region_held3 (fun w' => w'.cell? ⟨w.heap.size, 0, none⟩ = some (.int .i64 r.index) ∧ w'.cell? ⟨w.heap.size, 1, none⟩ = some (.int .i64 r.tag)) (first | go_keep | (simp only [hk]; go_keep)) (first
      | (go_at_call 52; (with_reducible refine (HI1.out W0.drew).mono ?_); rintro e v1 ⟨rfl, hb1⟩; have hB1 : Below W0.heap.size W0 v1 := ⟨hb1.os, hb1.tape, hb1.output, hb1.size, hb1.block⟩; have hk := fun o => hB1.cell (p := ⟨w.heap.size, o, none⟩) hgl)
      | (go_at_call 52; (with_reducible refine (HI2.out v1).mono ?_); rintro e v2 ⟨rfl, hb2⟩; have hB2 : Below W0.heap.size W0 v2 := hB1.trans (hb2.mono hB1.size); have hk := fun o => hB2.cell (p := ⟨w.heap.size, o, none⟩) hgl))
    go_wp2
    go_ret
    exact ⟨by rw [HV.out]; rfl, HB0.out.trans (hB2.mono HB0.out.size)⟩

set_option maxHeartbeats 8000000 in
set_option maxRecDepth 100000 in
theorem vRes_any (r : Resr) (w : World) (h1 : In64 r.seq) (h2 : In64 r.value) (h3 : In64 r.case_) (ht : TabT w) : Calls Tryd.prog 16 #[rsV r] w fun e w' => e = .returned (.string (resS r)) ∧ Below w.heap.size w w' := by
    have HBX := Lib.hid (Blk.new w 27 r.cells)
    have HB0 := Lib.hid ((Below.refl w.heap.size w).alloc (Nat.le_refl _) (.cells #[.int .i64 r.seq, .int .i64 r.case_, .int .i64 r.code, .int .i64 r.value] 27))
    have HV : RowKit.Hid (resS r = ⟨#[99, 97, 108, 108, 32]⟩ ++ itoaS r.seq ++ ⟨#[32]⟩ ++ codeS r.code ++ ⟨#[32]⟩ ++ itoaS r.value ++ ⟨#[32, 99, 97, 115, 101, 32]⟩ ++ itoaS r.case_) := Lib.hid rfl
    have HI1 := Lib.hid (fun W h => dec_any r.seq W h1 h)
    have HI2 := Lib.hid (fun W (_ : TabT W) => codeS_any r.code W)
    have HI3 := Lib.hid (fun W h => dec_any r.value W h2 h)
    have HI4 := Lib.hid (fun W h => dec_any r.case_ W h3 h)
    have s1 := itoaS_size h1
    have s2 := itoaS_size h2
    have s3 := itoaS_size h3
    have s4 := codeS_size r.code
    have HTW := Lib.hid (ht.below HB0.out)
    clear ht
    clear h1 h2 h3
    generalize resS r = R at *
    generalize itoaS r.seq = z1 at *
    generalize itoaS r.value = z2 at *
    generalize itoaS r.case_ = z3 at *
    generalize codeS r.code = z4 at *
    have d1 : ¬ 9223372036854775807 < 5 + z1.size := by omega
    have d2 : ¬ 9223372036854775807 < 5 + z1.size + 1 := by omega
    have d3 : ¬ 9223372036854775807 < 5 + z1.size + 1 + z4.size := by omega
    have d4 : ¬ 9223372036854775807 < 5 + z1.size + 1 + z4.size + 1 := by omega
    have d5 : ¬ 9223372036854775807 < 5 + z1.size + 1 + z4.size + 1 + z2.size := by omega
    have d6 : ¬ 9223372036854775807 < 5 + z1.size + 1 + z4.size + 1 + z2.size + 6 := by omega
    have d7 : ¬ 9223372036854775807 < 5 + z1.size + 1 + z4.size + 1 + z2.size + 6 + z3.size := by omega
    unfold rsV
    go_enter Tryd.func16, Tryd.ntmps16
    go_wp2_with fail
    have HBX : RowKit.Hid (Blk (w.alloc (.cells #[.int .i64 r.seq, .int .i64 r.case_, .int .i64 r.code, .int .i64 r.value] 27)) w.heap.size 27 r.cells) := HBX
    generalize w.alloc (.cells #[.int .i64 r.seq, .int .i64 r.case_, .int .i64 r.code, .int .i64 r.value] 27) = W0 at *
    have hgl := HBX.out.lt
    obtain ⟨x0, x1, x2, x3⟩ := rsBox HBX.out
    have HT0 : RowKit.Hid (TabT W0.drew) := Lib.hid (HTW.out.below (Below.drewN' (Below.refl _ _) 1))
    go_region_held3 (fun w' => w'.cell? ⟨w.heap.size, 0, none⟩ = some (.int .i64 r.seq) ∧ w'.cell? ⟨w.heap.size, 1, none⟩ = some (.int .i64 r.case_) ∧ w'.cell? ⟨w.heap.size, 2, none⟩ = some (.int .i64 r.code) ∧ w'.cell? ⟨w.heap.size, 3, none⟩ = some (.int .i64 r.value)) (first | go_keep | (simp only [hk]; go_keep)) (first
      | (go_at_call 44; (with_reducible refine (HI1.out W0.drew HT0.out).mono ?_); rintro e v1 ⟨rfl, hb1⟩; have hB1 : Below W0.heap.size W0 v1 := ⟨hb1.os, hb1.tape, hb1.output, hb1.size, hb1.block⟩; have hk := fun o => hB1.cell (p := ⟨w.heap.size, o, none⟩) hgl; have HT1 := Lib.hid (HTW.out.below hB1))
      | (go_at_call 18; (with_reducible refine (HI2.out v1 HT1.out).mono ?_); rintro e v2 ⟨rfl, hb2⟩; have hB2 : Below W0.heap.size W0 v2 := hB1.trans (hb2.mono hB1.size); have hk := fun o => hB2.cell (p := ⟨w.heap.size, o, none⟩) hgl; have HT2 := Lib.hid (HTW.out.below hB2))
      | (go_at_call 44; (with_reducible refine (HI3.out v2 HT2.out).mono ?_); rintro e v3 ⟨rfl, hb3⟩; have hB3 : Below W0.heap.size W0 v3 := hB2.trans (hb3.mono hB2.size); have hk := fun o => hB3.cell (p := ⟨w.heap.size, o, none⟩) hgl; have HT3 := Lib.hid (HTW.out.below hB3))
      | (go_at_call 44; (with_reducible refine (HI4.out v3 HT3.out).mono ?_); rintro e v4 ⟨rfl, hb4⟩; have hB4 : Below W0.heap.size W0 v4 := hB3.trans (hb4.mono hB3.size); have hk := fun o => hB4.cell (p := ⟨w.heap.size, o, none⟩) hgl; have HT4 := Lib.hid (HTW.out.below hB4)))
    go_wp2
    go_ret
    exact ⟨by rw [HV.out]; rfl, HB0.out.trans (hB4.mono HB0.out.size)⟩

set_option maxHeartbeats 8000000 in
set_option maxRecDepth 100000 in
theorem rRes_any (r : Resr) (w : World) (h1 : In64 r.seq) (h2 : In64 r.value) (h3 : In64 r.case_) : Calls Tryd.prog 17 #[rsV r] w fun e w' => e = .returned (.string (resS r)) ∧ Below w.heap.size w w' := by
    have HBX := Lib.hid (Blk.new w 27 r.cells)
    have HB0 := Lib.hid ((Below.refl w.heap.size w).alloc (Nat.le_refl _) (.cells #[.int .i64 r.seq, .int .i64 r.case_, .int .i64 r.code, .int .i64 r.value] 27))
    have HV : RowKit.Hid (resS r = ⟨#[99, 97, 108, 108, 32]⟩ ++ itoaS r.seq ++ ⟨#[32]⟩ ++ codeS r.code ++ ⟨#[32]⟩ ++ itoaS r.value ++ ⟨#[32, 99, 97, 115, 101, 32]⟩ ++ itoaS r.case_) := Lib.hid rfl
    have HI1 := Lib.hid (fun W => rdec_any r.seq W h1)
    have HI2 := Lib.hid (fun W => rcodeS_any r.code W)
    have HI3 := Lib.hid (fun W => rdec_any r.value W h2)
    have HI4 := Lib.hid (fun W => rdec_any r.case_ W h3)
    have s1 := itoaS_size h1
    have s2 := itoaS_size h2
    have s3 := itoaS_size h3
    have s4 := codeS_size r.code
    clear h1 h2 h3
    generalize resS r = R at *
    generalize itoaS r.seq = z1 at *
    generalize itoaS r.value = z2 at *
    generalize itoaS r.case_ = z3 at *
    generalize codeS r.code = z4 at *
    have d1 : ¬ 9223372036854775807 < 5 + z1.size := by omega
    have d2 : ¬ 9223372036854775807 < 5 + z1.size + 1 := by omega
    have d3 : ¬ 9223372036854775807 < 5 + z1.size + 1 + z4.size := by omega
    have d4 : ¬ 9223372036854775807 < 5 + z1.size + 1 + z4.size + 1 := by omega
    have d5 : ¬ 9223372036854775807 < 5 + z1.size + 1 + z4.size + 1 + z2.size := by omega
    have d6 : ¬ 9223372036854775807 < 5 + z1.size + 1 + z4.size + 1 + z2.size + 6 := by omega
    have d7 : ¬ 9223372036854775807 < 5 + z1.size + 1 + z4.size + 1 + z2.size + 6 + z3.size := by omega
    unfold rsV
    go_enter Tryd.func17, Tryd.ntmps17
    go_wp2_with fail
    have HBX : RowKit.Hid (Blk (w.alloc (.cells #[.int .i64 r.seq, .int .i64 r.case_, .int .i64 r.code, .int .i64 r.value] 27)) w.heap.size 27 r.cells) := HBX
    generalize w.alloc (.cells #[.int .i64 r.seq, .int .i64 r.case_, .int .i64 r.code, .int .i64 r.value] 27) = W0 at *
    have hgl := HBX.out.lt
    obtain ⟨x0, x1, x2, x3⟩ := rsBox HBX.out
    go_region_held3 (fun w' => w'.cell? ⟨w.heap.size, 0, none⟩ = some (.int .i64 r.seq) ∧ w'.cell? ⟨w.heap.size, 1, none⟩ = some (.int .i64 r.case_) ∧ w'.cell? ⟨w.heap.size, 2, none⟩ = some (.int .i64 r.code) ∧ w'.cell? ⟨w.heap.size, 3, none⟩ = some (.int .i64 r.value)) (first | go_keep | (simp only [hk]; go_keep)) (first
      | (go_at_call 52; (with_reducible refine (HI1.out W0.drew).mono ?_); rintro e v1 ⟨rfl, hb1⟩; have hB1 : Below W0.heap.size W0 v1 := ⟨hb1.os, hb1.tape, hb1.output, hb1.size, hb1.block⟩; have hk := fun o => hB1.cell (p := ⟨w.heap.size, o, none⟩) hgl)
      | (go_at_call 19; (with_reducible refine (HI2.out v1).mono ?_); rintro e v2 ⟨rfl, hb2⟩; have hB2 : Below W0.heap.size W0 v2 := hB1.trans (hb2.mono hB1.size); have hk := fun o => hB2.cell (p := ⟨w.heap.size, o, none⟩) hgl)
      | (go_at_call 52; (with_reducible refine (HI3.out v2).mono ?_); rintro e v3 ⟨rfl, hb3⟩; have hB3 : Below W0.heap.size W0 v3 := hB2.trans (hb3.mono hB2.size); have hk := fun o => hB3.cell (p := ⟨w.heap.size, o, none⟩) hgl)
      | (go_at_call 52; (with_reducible refine (HI4.out v3).mono ?_); rintro e v4 ⟨rfl, hb4⟩; have hB4 : Below W0.heap.size W0 v4 := hB3.trans (hb4.mono hB3.size); have hk := fun o => hB4.cell (p := ⟨w.heap.size, o, none⟩) hgl))
    go_wp2
    go_ret
    exact ⟨by rw [HV.out]; rfl, HB0.out.trans (hB4.mono HB0.out.size)⟩

end Go.Proofs.YtknlhkkpheahlaaDoor

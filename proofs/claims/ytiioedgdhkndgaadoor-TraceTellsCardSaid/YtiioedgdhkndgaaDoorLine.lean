/- trace.Line and the document's Line, walked: an access as a line of text. -/
import Derived.Test.YtiioedgdhkndgaaDoorHex2
import Derived.Test.YtiioedgdhkndgaaDoorRef04
import Derived.Test.YtiioedgdhkndgaaDoorTrc1
namespace Go.Proofs.YtiioedgdhkndgaaDoor
open Go.RowKit Go.Sort Go.Lib

theorem accBox {w : World} {g : Nat} {x : Acc} (h : Blk w g 74 x.cells) :
    w.cell? ⟨g, 0, none⟩ = some (.int .i64 x.thread) ∧ w.cell? ⟨g, 1, none⟩ = some (.int .i64 x.kind) ∧ w.cell? ⟨g, 2, none⟩ = some (.int .i64 x.addr) ∧ w.cell? ⟨g, 3, none⟩ = some (.int .u64 x.want) ∧ w.cell? ⟨g, 4, none⟩ = some (.int .u64 x.old) ∧ w.cell? ⟨g, 5, none⟩ = some (.int .u64 x.now) ∧ w.cell? ⟨g, 6, none⟩ = some (.bool x.ok) :=
  ⟨h.cell rfl, h.cell rfl, h.cell rfl, h.cell rfl, h.cell rfl, h.cell rfl, h.cell rfl⟩

def U64 (z : Int) : Prop := 0 ≤ z ∧ z < 18446744073709551616
/-- An access that can be: its numbers are within their kinds. -/
structure AccOk (a : Acc) : Prop where
  thread : In64 a.thread
  addr : In64 a.addr
  want : U64 a.want
  old : U64 a.old
  now : U64 a.now

def hexI (z : Int) : ByteArray := hexS z.toNat
theorem hexI_size {z : Int} (h : U64 z) : (hexI z).size ≤ 16 := hex_length 15 z.toNat (by have := h.1; have := h.2; omega)
theorem thexI (z : Int) (h : U64 z) (w : World) (ht : Tz16 w) : Calls Tryd.prog 97 #[.int .u64 z] w fun e w' => e = .returned (.string (hexI z)) ∧ Below w.heap.size w w' := by
  obtain ⟨n, rfl⟩ := Int.eq_ofNat_of_zero_le h.1
  exact thex_any n (by have := h.2; omega) w ht
theorem rHexI (z : Int) (h : U64 z) (w : World) : Calls Tryd.prog 98 #[.int .u64 z] w fun e w' => e = .returned (.string (hexI z)) ∧ Below w.heap.size w w' := by
  obtain ⟨n, rfl⟩ := Int.eq_ofNat_of_zero_le h.1
  exact (rHex_any n (by have := h.2; omega) w).mono fun e w' ⟨h1, h2⟩ => ⟨h1, by rw [← h2]; exact Below.refl _ _⟩
theorem wrap_U64 (z : Int) : U64 (IntKind.u64.wrap z) := by
  rw [IntKind.wrap_u64]; exact ⟨by omega, by omega⟩

def headS (a : Acc) : ByteArray := itoaS a.thread ++ ⟨#[32]⟩
def atS (a : Acc) : ByteArray := ⟨#[32]⟩ ++ itoaS a.addr
def lineS (a : Acc) : ByteArray :=
  if a.kind = 1 then headS a ++ ⟨#[108, 111, 97, 100]⟩ ++ atS a ++ ⟨#[32]⟩ ++ hexI a.old
  else if a.kind = 2 then headS a ++ ⟨#[115, 116, 111, 114, 101]⟩ ++ atS a ++ ⟨#[32]⟩ ++ hexI a.now ++ ⟨#[32, 119, 97, 115, 32]⟩ ++ hexI a.old
  else if a.kind = 3 then (if a.ok then headS a ++ ⟨#[115, 119, 97, 112]⟩ ++ atS a ++ ⟨#[32]⟩ ++ hexI a.want ++ ⟨#[32]⟩ ++ hexI a.now
    else headS a ++ ⟨#[118, 97, 105, 110]⟩ ++ atS a ++ ⟨#[32]⟩ ++ hexI a.want ++ ⟨#[32, 105, 115, 32]⟩ ++ hexI a.old)
  else if a.kind = 4 then headS a ++ ⟨#[97, 100, 100]⟩ ++ atS a ++ ⟨#[32]⟩ ++ hexI (IntKind.u64.wrap (a.now - a.old)) ++ ⟨#[32, 119, 97, 115, 32]⟩ ++ hexI a.old
  else headS a ++ ⟨#[110, 111, 110, 101]⟩ ++ atS a

set_option maxHeartbeats 16000000 in
set_option maxRecDepth 100000 in
theorem Line_1 (a : Acc) (w : World) (h : AccOk a) (hk : a.kind = 1) (ht : TabT w) (hz : Tz16 w) :
    Calls Tryd.prog 49 #[accV a] w fun e w' => e = .returned (.string (lineS a)) ∧ Below w.heap.size w w' := by
  have HLE := Lib.hid (show lineS a = itoaS a.thread ++ ⟨#[32]⟩ ++ ⟨#[108, 111, 97, 100]⟩ ++ (⟨#[32]⟩ ++ itoaS a.addr) ++ ⟨#[32]⟩ ++ hexI a.old from by unfold lineS headS atS; rw [if_pos hk])
  have b1 : (a.kind == 1) = true := by simp [hk]
  have b2 : (a.kind == 2) = false := by simp [hk]
  have b3 : (a.kind == 3) = false := by simp [hk]
  have b4 : (a.kind == 4) = false := by simp [hk]
  have HT := Lib.hid ht
  have HZ := Lib.hid hz
  have HI1 := Lib.hid (fun W h1 => Itoa_any a.thread h.thread W h1)
  have HI2 := Lib.hid (fun W h1 => Itoa_any a.addr h.addr W h1)
  clear ht hz
  have Hxo := Lib.hid (fun W h1 => thexI a.old h.old W h1)
  have sxo := hexI_size h.old
  have s1 := itoaS_size h.thread
  have s2 := itoaS_size h.addr
  have HBX0 := Lib.hid (Blk.new w 74 a.cells)
  have HB0 := Lib.hid ((Below.refl w.heap.size w).alloc (Nat.le_refl _) (.cells a.cells.toArray 74))
  generalize itoaS a.thread = zt at *
  generalize itoaS a.addr = za at *
  generalize hexI a.old = xo at *
  have e0 : ¬ 9223372036854775807 < zt.size + 1 := by omega
  have e1 : ¬ 9223372036854775807 < 1 + za.size := by omega
  have d0 : ¬ 9223372036854775807 < zt.size + 1 + 4 := by omega
  have d1 : ¬ 9223372036854775807 < zt.size + 1 + 4 + (1 + za.size) := by omega
  have d2 : ¬ 9223372036854775807 < zt.size + 1 + 4 + (1 + za.size) + 1 := by omega
  have d3 : ¬ 9223372036854775807 < zt.size + 1 + 4 + (1 + za.size) + 1 + xo.size := by omega
  clear h hk
  unfold accV
  go_enter Tryd.func49, Tryd.ntmps49
  go_wp2_with fail
  refine (HI1.out _ (HT.out.below HB0.out)).mono ?_
  rintro er w1 ⟨rfl, hb1⟩
  have HBX1 := Lib.hid (HBX0.out.below hb1 HBX0.out.lt)
  have HB1 := Lib.hid (HB0.out.trans (hb1.mono HB0.out.size))
  obtain ⟨x0, x1, x2, x3, x4, x5, x6⟩ := accBox HBX1.out
  clear hb1
  go_wp2_with fail
  refine (HI2.out _ (HT.out.below HB1.out)).mono ?_
  rintro er w2 ⟨rfl, hb2⟩
  have HBX2 := Lib.hid (HBX1.out.below hb2 HBX1.out.lt)
  have HB2 := Lib.hid (HB1.out.trans (hb2.mono HB1.out.size))
  clear hb2 x0 x1 x2 x3 x4 x5 x6
  obtain ⟨x0, x1, x2, x3, x4, x5, x6⟩ := accBox HBX2.out
  go_wp2_with fail
  refine (Hxo.out _ (HZ.out.below HB2.out)).mono ?_
  rintro er w3 ⟨rfl, hb3⟩
  have HB3 := Lib.hid (HB2.out.trans (hb3.mono HB2.out.size))
  clear hb3 x0 x1 x2 x3 x4 x5 x6
  go_wp2
  go_ret
  exact ⟨by rw [HLE.out]; rfl, HB3.out⟩

set_option maxHeartbeats 16000000 in
set_option maxRecDepth 100000 in
theorem Line_2 (a : Acc) (w : World) (h : AccOk a) (hk : a.kind = 2) (ht : TabT w) (hz : Tz16 w) :
    Calls Tryd.prog 49 #[accV a] w fun e w' => e = .returned (.string (lineS a)) ∧ Below w.heap.size w w' := by
  have HLE := Lib.hid (show lineS a = itoaS a.thread ++ ⟨#[32]⟩ ++ ⟨#[115, 116, 111, 114, 101]⟩ ++ (⟨#[32]⟩ ++ itoaS a.addr) ++ ⟨#[32]⟩ ++ hexI a.now ++ ⟨#[32, 119, 97, 115, 32]⟩ ++ hexI a.old from by unfold lineS headS atS; rw [if_neg (by omega), if_pos hk])
  have b1 : (a.kind == 1) = false := by simp [hk]
  have b2 : (a.kind == 2) = true := by simp [hk]
  have b3 : (a.kind == 3) = false := by simp [hk]
  have b4 : (a.kind == 4) = false := by simp [hk]
  have HT := Lib.hid ht
  have HZ := Lib.hid hz
  have HI1 := Lib.hid (fun W h1 => Itoa_any a.thread h.thread W h1)
  have HI2 := Lib.hid (fun W h1 => Itoa_any a.addr h.addr W h1)
  clear ht hz
  have Hxo := Lib.hid (fun W h1 => thexI a.old h.old W h1)
  have sxo := hexI_size h.old
  have Hxn := Lib.hid (fun W h1 => thexI a.now h.now W h1)
  have sxn := hexI_size h.now
  have s1 := itoaS_size h.thread
  have s2 := itoaS_size h.addr
  have HBX0 := Lib.hid (Blk.new w 74 a.cells)
  have HB0 := Lib.hid ((Below.refl w.heap.size w).alloc (Nat.le_refl _) (.cells a.cells.toArray 74))
  generalize itoaS a.thread = zt at *
  generalize itoaS a.addr = za at *
  generalize hexI a.old = xo at *
  generalize hexI a.now = xn at *
  have e0 : ¬ 9223372036854775807 < zt.size + 1 := by omega
  have e1 : ¬ 9223372036854775807 < 1 + za.size := by omega
  have d0 : ¬ 9223372036854775807 < zt.size + 1 + 5 := by omega
  have d1 : ¬ 9223372036854775807 < zt.size + 1 + 5 + (1 + za.size) := by omega
  have d2 : ¬ 9223372036854775807 < zt.size + 1 + 5 + (1 + za.size) + 1 := by omega
  have d3 : ¬ 9223372036854775807 < zt.size + 1 + 5 + (1 + za.size) + 1 + xn.size := by omega
  have d4 : ¬ 9223372036854775807 < zt.size + 1 + 5 + (1 + za.size) + 1 + xn.size + 5 := by omega
  have d5 : ¬ 9223372036854775807 < zt.size + 1 + 5 + (1 + za.size) + 1 + xn.size + 5 + xo.size := by omega
  clear h hk
  unfold accV
  go_enter Tryd.func49, Tryd.ntmps49
  go_wp2_with fail
  refine (HI1.out _ (HT.out.below HB0.out)).mono ?_
  rintro er w1 ⟨rfl, hb1⟩
  have HBX1 := Lib.hid (HBX0.out.below hb1 HBX0.out.lt)
  have HB1 := Lib.hid (HB0.out.trans (hb1.mono HB0.out.size))
  obtain ⟨x0, x1, x2, x3, x4, x5, x6⟩ := accBox HBX1.out
  clear hb1
  go_wp2_with fail
  refine (HI2.out _ (HT.out.below HB1.out)).mono ?_
  rintro er w2 ⟨rfl, hb2⟩
  have HBX2 := Lib.hid (HBX1.out.below hb2 HBX1.out.lt)
  have HB2 := Lib.hid (HB1.out.trans (hb2.mono HB1.out.size))
  clear hb2 x0 x1 x2 x3 x4 x5 x6
  obtain ⟨x0, x1, x2, x3, x4, x5, x6⟩ := accBox HBX2.out
  have hgl := HBX2.out.lt
  have HDR := Lib.hid (Below.drewN' (Below.refl w2.heap.size w2) 1)
  have HZD : RowKit.Hid (Tz16 w2.drew) := Lib.hid ((HZ.out.below HB2.out).below HDR.out)
  go_upto_region 7 with (fail)
  go_region_held3 (fun w' => w'.cell? ⟨w.heap.size, 3, none⟩ = some (.int .u64 a.want) ∧ w'.cell? ⟨w.heap.size, 4, none⟩ = some (.int .u64 a.old) ∧ w'.cell? ⟨w.heap.size, 5, none⟩ = some (.int .u64 a.now)) (first | go_keep | (simp only [hk1]; go_keep)) (first
    | (go_at_call 97; (with_reducible refine (Hxn.out w2.drew HZD.out).mono ?_); rintro er w3 ⟨rfl, hb3⟩; have hB3 : Below w2.heap.size w2 w3 := ⟨hb3.os, hb3.tape, hb3.output, hb3.size, hb3.block⟩; have hk1 := fun o => hB3.cell (p := ⟨w.heap.size, o, none⟩) hgl; have HZ3 : RowKit.Hid (Tz16 w3) := Lib.hid ((HZ.out.below HB2.out).below hB3))
    | (go_at_call 97; (with_reducible refine (Hxo.out w3 HZ3.out).mono ?_); rintro er w4 ⟨rfl, hb4⟩; have hB4 : Below w2.heap.size w2 w4 := hB3.trans (hb4.mono hB3.size); have hk1 := fun o => hB4.cell (p := ⟨w.heap.size, o, none⟩) hgl))
  have HB4 := Lib.hid (HB2.out.trans (hB4.mono HB2.out.size))
  clear hk1 hB3 hB4 hb3 hb4 x0 x1 x2 x3 x4 x5 x6
  go_wp2
  go_ret
  exact ⟨by rw [HLE.out]; rfl, HB4.out⟩

set_option maxHeartbeats 16000000 in
set_option maxRecDepth 100000 in
theorem Line_3t (a : Acc) (w : World) (h : AccOk a) (hk : a.kind = 3) (hok : a.ok = true) (ht : TabT w) (hz : Tz16 w) :
    Calls Tryd.prog 49 #[accV a] w fun e w' => e = .returned (.string (lineS a)) ∧ Below w.heap.size w w' := by
  have HLE := Lib.hid (show lineS a = itoaS a.thread ++ ⟨#[32]⟩ ++ ⟨#[115, 119, 97, 112]⟩ ++ (⟨#[32]⟩ ++ itoaS a.addr) ++ ⟨#[32]⟩ ++ hexI a.want ++ ⟨#[32]⟩ ++ hexI a.now from by unfold lineS headS atS; rw [if_neg (by omega), if_neg (by omega), if_pos hk, hok]; rfl)
  have b1 : (a.kind == 1) = false := by simp [hk]
  have b2 : (a.kind == 2) = false := by simp [hk]
  have b3 : (a.kind == 3) = true := by simp [hk]
  have b4 : (a.kind == 4) = false := by simp [hk]
  have HT := Lib.hid ht
  have HZ := Lib.hid hz
  have HI1 := Lib.hid (fun W h1 => Itoa_any a.thread h.thread W h1)
  have HI2 := Lib.hid (fun W h1 => Itoa_any a.addr h.addr W h1)
  clear ht hz
  have Hxn := Lib.hid (fun W h1 => thexI a.now h.now W h1)
  have sxn := hexI_size h.now
  have Hxw := Lib.hid (fun W h1 => thexI a.want h.want W h1)
  have sxw := hexI_size h.want
  have s1 := itoaS_size h.thread
  have s2 := itoaS_size h.addr
  have HBX0 := Lib.hid (Blk.new w 74 a.cells)
  have HB0 := Lib.hid ((Below.refl w.heap.size w).alloc (Nat.le_refl _) (.cells a.cells.toArray 74))
  generalize itoaS a.thread = zt at *
  generalize itoaS a.addr = za at *
  generalize hexI a.now = xn at *
  generalize hexI a.want = xw at *
  have e0 : ¬ 9223372036854775807 < zt.size + 1 := by omega
  have e1 : ¬ 9223372036854775807 < 1 + za.size := by omega
  have d0 : ¬ 9223372036854775807 < zt.size + 1 + 4 := by omega
  have d1 : ¬ 9223372036854775807 < zt.size + 1 + 4 + (1 + za.size) := by omega
  have d2 : ¬ 9223372036854775807 < zt.size + 1 + 4 + (1 + za.size) + 1 := by omega
  have d3 : ¬ 9223372036854775807 < zt.size + 1 + 4 + (1 + za.size) + 1 + xw.size := by omega
  have d4 : ¬ 9223372036854775807 < zt.size + 1 + 4 + (1 + za.size) + 1 + xw.size + 1 := by omega
  have d5 : ¬ 9223372036854775807 < zt.size + 1 + 4 + (1 + za.size) + 1 + xw.size + 1 + xn.size := by omega
  have HOK := Lib.hid hok
  clear hok
  clear h hk
  unfold accV
  go_enter Tryd.func49, Tryd.ntmps49
  go_wp2_with fail
  refine (HI1.out _ (HT.out.below HB0.out)).mono ?_
  rintro er w1 ⟨rfl, hb1⟩
  have HBX1 := Lib.hid (HBX0.out.below hb1 HBX0.out.lt)
  have HB1 := Lib.hid (HB0.out.trans (hb1.mono HB0.out.size))
  obtain ⟨x0, x1, x2, x3, x4, x5, x6⟩ := accBox HBX1.out
  clear hb1
  go_wp2_with fail
  refine (HI2.out _ (HT.out.below HB1.out)).mono ?_
  rintro er w2 ⟨rfl, hb2⟩
  have HBX2 := Lib.hid (HBX1.out.below hb2 HBX1.out.lt)
  have HB2 := Lib.hid (HB1.out.trans (hb2.mono HB1.out.size))
  clear hb2 x0 x1 x2 x3 x4 x5 x6
  obtain ⟨x0, x1, x2, x3, x4, x5, x6⟩ := accBox HBX2.out
  rw [HOK.out] at x6
  have hgl := HBX2.out.lt
  have HDR := Lib.hid (Below.drewN' (Below.refl w2.heap.size w2) 1)
  have HZD : RowKit.Hid (Tz16 w2.drew) := Lib.hid ((HZ.out.below HB2.out).below HDR.out)
  go_upto_region 12 with (fail)
  go_region_held3 (fun w' => w'.cell? ⟨w.heap.size, 3, none⟩ = some (.int .u64 a.want) ∧ w'.cell? ⟨w.heap.size, 4, none⟩ = some (.int .u64 a.old) ∧ w'.cell? ⟨w.heap.size, 5, none⟩ = some (.int .u64 a.now)) (first | go_keep | (simp only [hk1]; go_keep)) (first
    | (go_at_call 97; (with_reducible refine (Hxw.out w2.drew HZD.out).mono ?_); rintro er w3 ⟨rfl, hb3⟩; have hB3 : Below w2.heap.size w2 w3 := ⟨hb3.os, hb3.tape, hb3.output, hb3.size, hb3.block⟩; have hk1 := fun o => hB3.cell (p := ⟨w.heap.size, o, none⟩) hgl; have HZ3 : RowKit.Hid (Tz16 w3) := Lib.hid ((HZ.out.below HB2.out).below hB3))
    | (go_at_call 97; (with_reducible refine (Hxn.out w3 HZ3.out).mono ?_); rintro er w4 ⟨rfl, hb4⟩; have hB4 : Below w2.heap.size w2 w4 := hB3.trans (hb4.mono hB3.size); have hk1 := fun o => hB4.cell (p := ⟨w.heap.size, o, none⟩) hgl))
  have HB4 := Lib.hid (HB2.out.trans (hB4.mono HB2.out.size))
  clear hk1 hB3 hB4 hb3 hb4 x0 x1 x2 x3 x4 x5 x6
  go_wp2
  go_ret
  exact ⟨by rw [HLE.out]; rfl, HB4.out⟩

set_option maxHeartbeats 16000000 in
set_option maxRecDepth 100000 in
theorem Line_3f (a : Acc) (w : World) (h : AccOk a) (hk : a.kind = 3) (hok : a.ok = false) (ht : TabT w) (hz : Tz16 w) :
    Calls Tryd.prog 49 #[accV a] w fun e w' => e = .returned (.string (lineS a)) ∧ Below w.heap.size w w' := by
  have HLE := Lib.hid (show lineS a = itoaS a.thread ++ ⟨#[32]⟩ ++ ⟨#[118, 97, 105, 110]⟩ ++ (⟨#[32]⟩ ++ itoaS a.addr) ++ ⟨#[32]⟩ ++ hexI a.want ++ ⟨#[32, 105, 115, 32]⟩ ++ hexI a.old from by unfold lineS headS atS; rw [if_neg (by omega), if_neg (by omega), if_pos hk, hok]; rfl)
  have b1 : (a.kind == 1) = false := by simp [hk]
  have b2 : (a.kind == 2) = false := by simp [hk]
  have b3 : (a.kind == 3) = true := by simp [hk]
  have b4 : (a.kind == 4) = false := by simp [hk]
  have HT := Lib.hid ht
  have HZ := Lib.hid hz
  have HI1 := Lib.hid (fun W h1 => Itoa_any a.thread h.thread W h1)
  have HI2 := Lib.hid (fun W h1 => Itoa_any a.addr h.addr W h1)
  clear ht hz
  have Hxo := Lib.hid (fun W h1 => thexI a.old h.old W h1)
  have sxo := hexI_size h.old
  have Hxw := Lib.hid (fun W h1 => thexI a.want h.want W h1)
  have sxw := hexI_size h.want
  have s1 := itoaS_size h.thread
  have s2 := itoaS_size h.addr
  have HBX0 := Lib.hid (Blk.new w 74 a.cells)
  have HB0 := Lib.hid ((Below.refl w.heap.size w).alloc (Nat.le_refl _) (.cells a.cells.toArray 74))
  generalize itoaS a.thread = zt at *
  generalize itoaS a.addr = za at *
  generalize hexI a.old = xo at *
  generalize hexI a.want = xw at *
  have e0 : ¬ 9223372036854775807 < zt.size + 1 := by omega
  have e1 : ¬ 9223372036854775807 < 1 + za.size := by omega
  have d0 : ¬ 9223372036854775807 < zt.size + 1 + 4 := by omega
  have d1 : ¬ 9223372036854775807 < zt.size + 1 + 4 + (1 + za.size) := by omega
  have d2 : ¬ 9223372036854775807 < zt.size + 1 + 4 + (1 + za.size) + 1 := by omega
  have d3 : ¬ 9223372036854775807 < zt.size + 1 + 4 + (1 + za.size) + 1 + xw.size := by omega
  have d4 : ¬ 9223372036854775807 < zt.size + 1 + 4 + (1 + za.size) + 1 + xw.size + 4 := by omega
  have d5 : ¬ 9223372036854775807 < zt.size + 1 + 4 + (1 + za.size) + 1 + xw.size + 4 + xo.size := by omega
  have HOK := Lib.hid hok
  clear hok
  clear h hk
  unfold accV
  go_enter Tryd.func49, Tryd.ntmps49
  go_wp2_with fail
  refine (HI1.out _ (HT.out.below HB0.out)).mono ?_
  rintro er w1 ⟨rfl, hb1⟩
  have HBX1 := Lib.hid (HBX0.out.below hb1 HBX0.out.lt)
  have HB1 := Lib.hid (HB0.out.trans (hb1.mono HB0.out.size))
  obtain ⟨x0, x1, x2, x3, x4, x5, x6⟩ := accBox HBX1.out
  clear hb1
  go_wp2_with fail
  refine (HI2.out _ (HT.out.below HB1.out)).mono ?_
  rintro er w2 ⟨rfl, hb2⟩
  have HBX2 := Lib.hid (HBX1.out.below hb2 HBX1.out.lt)
  have HB2 := Lib.hid (HB1.out.trans (hb2.mono HB1.out.size))
  clear hb2 x0 x1 x2 x3 x4 x5 x6
  obtain ⟨x0, x1, x2, x3, x4, x5, x6⟩ := accBox HBX2.out
  rw [HOK.out] at x6
  have hgl := HBX2.out.lt
  have HDR := Lib.hid (Below.drewN' (Below.refl w2.heap.size w2) 1)
  have HZD : RowKit.Hid (Tz16 w2.drew) := Lib.hid ((HZ.out.below HB2.out).below HDR.out)
  go_upto_region 13 with (fail)
  go_region_held3 (fun w' => w'.cell? ⟨w.heap.size, 3, none⟩ = some (.int .u64 a.want) ∧ w'.cell? ⟨w.heap.size, 4, none⟩ = some (.int .u64 a.old) ∧ w'.cell? ⟨w.heap.size, 5, none⟩ = some (.int .u64 a.now)) (first | go_keep | (simp only [hk1]; go_keep)) (first
    | (go_at_call 97; (with_reducible refine (Hxw.out w2.drew HZD.out).mono ?_); rintro er w3 ⟨rfl, hb3⟩; have hB3 : Below w2.heap.size w2 w3 := ⟨hb3.os, hb3.tape, hb3.output, hb3.size, hb3.block⟩; have hk1 := fun o => hB3.cell (p := ⟨w.heap.size, o, none⟩) hgl; have HZ3 : RowKit.Hid (Tz16 w3) := Lib.hid ((HZ.out.below HB2.out).below hB3))
    | (go_at_call 97; (with_reducible refine (Hxo.out w3 HZ3.out).mono ?_); rintro er w4 ⟨rfl, hb4⟩; have hB4 : Below w2.heap.size w2 w4 := hB3.trans (hb4.mono hB3.size); have hk1 := fun o => hB4.cell (p := ⟨w.heap.size, o, none⟩) hgl))
  have HB4 := Lib.hid (HB2.out.trans (hB4.mono HB2.out.size))
  clear hk1 hB3 hB4 hb3 hb4 x0 x1 x2 x3 x4 x5 x6
  go_wp2
  go_ret
  exact ⟨by rw [HLE.out]; rfl, HB4.out⟩

set_option maxHeartbeats 16000000 in
set_option maxRecDepth 100000 in
theorem Line_4 (a : Acc) (w : World) (h : AccOk a) (hk : a.kind = 4) (ht : TabT w) (hz : Tz16 w) :
    Calls Tryd.prog 49 #[accV a] w fun e w' => e = .returned (.string (lineS a)) ∧ Below w.heap.size w w' := by
  have HLE := Lib.hid (show lineS a = itoaS a.thread ++ ⟨#[32]⟩ ++ ⟨#[97, 100, 100]⟩ ++ (⟨#[32]⟩ ++ itoaS a.addr) ++ ⟨#[32]⟩ ++ hexI (IntKind.u64.wrap (a.now - a.old)) ++ ⟨#[32, 119, 97, 115, 32]⟩ ++ hexI a.old from by unfold lineS headS atS; rw [if_neg (by omega), if_neg (by omega), if_neg (by omega), if_pos hk])
  have b1 : (a.kind == 1) = false := by simp [hk]
  have b2 : (a.kind == 2) = false := by simp [hk]
  have b3 : (a.kind == 3) = false := by simp [hk]
  have b4 : (a.kind == 4) = true := by simp [hk]
  have HT := Lib.hid ht
  have HZ := Lib.hid hz
  have HI1 := Lib.hid (fun W h1 => Itoa_any a.thread h.thread W h1)
  have HI2 := Lib.hid (fun W h1 => Itoa_any a.addr h.addr W h1)
  clear ht hz
  have Hxo := Lib.hid (fun W h1 => thexI a.old h.old W h1)
  have sxo := hexI_size h.old
  have Hxd := Lib.hid (fun W h1 => thexI (IntKind.u64.wrap (a.now - a.old)) (wrap_U64 _) W h1)
  have sxd := hexI_size (wrap_U64 (a.now - a.old))
  have s1 := itoaS_size h.thread
  have s2 := itoaS_size h.addr
  have HBX0 := Lib.hid (Blk.new w 74 a.cells)
  have HB0 := Lib.hid ((Below.refl w.heap.size w).alloc (Nat.le_refl _) (.cells a.cells.toArray 74))
  generalize itoaS a.thread = zt at *
  generalize itoaS a.addr = za at *
  generalize hexI (IntKind.u64.wrap (a.now - a.old)) = xd at *
  generalize hexI a.old = xo at *
  have e0 : ¬ 9223372036854775807 < zt.size + 1 := by omega
  have e1 : ¬ 9223372036854775807 < 1 + za.size := by omega
  have d0 : ¬ 9223372036854775807 < zt.size + 1 + 3 := by omega
  have d1 : ¬ 9223372036854775807 < zt.size + 1 + 3 + (1 + za.size) := by omega
  have d2 : ¬ 9223372036854775807 < zt.size + 1 + 3 + (1 + za.size) + 1 := by omega
  have d3 : ¬ 9223372036854775807 < zt.size + 1 + 3 + (1 + za.size) + 1 + xd.size := by omega
  have d4 : ¬ 9223372036854775807 < zt.size + 1 + 3 + (1 + za.size) + 1 + xd.size + 5 := by omega
  have d5 : ¬ 9223372036854775807 < zt.size + 1 + 3 + (1 + za.size) + 1 + xd.size + 5 + xo.size := by omega
  clear h hk
  unfold accV
  go_enter Tryd.func49, Tryd.ntmps49
  go_wp2_with fail
  refine (HI1.out _ (HT.out.below HB0.out)).mono ?_
  rintro er w1 ⟨rfl, hb1⟩
  have HBX1 := Lib.hid (HBX0.out.below hb1 HBX0.out.lt)
  have HB1 := Lib.hid (HB0.out.trans (hb1.mono HB0.out.size))
  obtain ⟨x0, x1, x2, x3, x4, x5, x6⟩ := accBox HBX1.out
  clear hb1
  go_wp2_with fail
  refine (HI2.out _ (HT.out.below HB1.out)).mono ?_
  rintro er w2 ⟨rfl, hb2⟩
  have HBX2 := Lib.hid (HBX1.out.below hb2 HBX1.out.lt)
  have HB2 := Lib.hid (HB1.out.trans (hb2.mono HB1.out.size))
  clear hb2 x0 x1 x2 x3 x4 x5 x6
  obtain ⟨x0, x1, x2, x3, x4, x5, x6⟩ := accBox HBX2.out
  have hgl := HBX2.out.lt
  have HDR := Lib.hid (Below.drewN' (Below.refl w2.heap.size w2) 1)
  have HZD : RowKit.Hid (Tz16 w2.drew) := Lib.hid ((HZ.out.below HB2.out).below HDR.out)
  go_upto_region 9 with (fail)
  go_region_held3 (fun w' => w'.cell? ⟨w.heap.size, 3, none⟩ = some (.int .u64 a.want) ∧ w'.cell? ⟨w.heap.size, 4, none⟩ = some (.int .u64 a.old) ∧ w'.cell? ⟨w.heap.size, 5, none⟩ = some (.int .u64 a.now)) (first | go_keep | (simp only [hk1]; go_keep)) (first
    | (go_at_call 97; (with_reducible refine (Hxd.out w2.drew HZD.out).mono ?_); rintro er w3 ⟨rfl, hb3⟩; have hB3 : Below w2.heap.size w2 w3 := ⟨hb3.os, hb3.tape, hb3.output, hb3.size, hb3.block⟩; have hk1 := fun o => hB3.cell (p := ⟨w.heap.size, o, none⟩) hgl; have HZ3 : RowKit.Hid (Tz16 w3) := Lib.hid ((HZ.out.below HB2.out).below hB3))
    | (go_at_call 97; (with_reducible refine (Hxo.out w3 HZ3.out).mono ?_); rintro er w4 ⟨rfl, hb4⟩; have hB4 : Below w2.heap.size w2 w4 := hB3.trans (hb4.mono hB3.size); have hk1 := fun o => hB4.cell (p := ⟨w.heap.size, o, none⟩) hgl))
  have HB4 := Lib.hid (HB2.out.trans (hB4.mono HB2.out.size))
  clear hk1 hB3 hB4 hb3 hb4 x0 x1 x2 x3 x4 x5 x6
  go_wp2
  go_ret
  exact ⟨by rw [HLE.out]; rfl, HB4.out⟩

set_option maxHeartbeats 16000000 in
set_option maxRecDepth 100000 in
theorem Line_0 (a : Acc) (w : World) (h : AccOk a) (hk : a.kind ≠ 1 ∧ a.kind ≠ 2 ∧ a.kind ≠ 3 ∧ a.kind ≠ 4) (ht : TabT w) (hz : Tz16 w) :
    Calls Tryd.prog 49 #[accV a] w fun e w' => e = .returned (.string (lineS a)) ∧ Below w.heap.size w w' := by
  have HLE := Lib.hid (show lineS a = itoaS a.thread ++ ⟨#[32]⟩ ++ ⟨#[110, 111, 110, 101]⟩ ++ (⟨#[32]⟩ ++ itoaS a.addr) from by unfold lineS headS atS; rw [if_neg hk.1, if_neg hk.2.1, if_neg hk.2.2.1, if_neg hk.2.2.2])
  have b1 : (a.kind == 1) = false := by simp; omega
  have b2 : (a.kind == 2) = false := by simp; omega
  have b3 : (a.kind == 3) = false := by simp; omega
  have b4 : (a.kind == 4) = false := by simp; omega
  have HT := Lib.hid ht
  have HZ := Lib.hid hz
  have HI1 := Lib.hid (fun W h1 => Itoa_any a.thread h.thread W h1)
  have HI2 := Lib.hid (fun W h1 => Itoa_any a.addr h.addr W h1)
  clear ht hz
  have s1 := itoaS_size h.thread
  have s2 := itoaS_size h.addr
  have HBX0 := Lib.hid (Blk.new w 74 a.cells)
  have HB0 := Lib.hid ((Below.refl w.heap.size w).alloc (Nat.le_refl _) (.cells a.cells.toArray 74))
  generalize itoaS a.thread = zt at *
  generalize itoaS a.addr = za at *
  have e0 : ¬ 9223372036854775807 < zt.size + 1 := by omega
  have e1 : ¬ 9223372036854775807 < 1 + za.size := by omega
  have d0 : ¬ 9223372036854775807 < zt.size + 1 + 4 := by omega
  have d1 : ¬ 9223372036854775807 < zt.size + 1 + 4 + (1 + za.size) := by omega
  clear h hk
  unfold accV
  go_enter Tryd.func49, Tryd.ntmps49
  go_wp2_with fail
  refine (HI1.out _ (HT.out.below HB0.out)).mono ?_
  rintro er w1 ⟨rfl, hb1⟩
  have HBX1 := Lib.hid (HBX0.out.below hb1 HBX0.out.lt)
  have HB1 := Lib.hid (HB0.out.trans (hb1.mono HB0.out.size))
  obtain ⟨x0, x1, x2, x3, x4, x5, x6⟩ := accBox HBX1.out
  clear hb1
  go_wp2_with fail
  refine (HI2.out _ (HT.out.below HB1.out)).mono ?_
  rintro er w2 ⟨rfl, hb2⟩
  have HBX2 := Lib.hid (HBX1.out.below hb2 HBX1.out.lt)
  have HB2 := Lib.hid (HB1.out.trans (hb2.mono HB1.out.size))
  clear hb2 x0 x1 x2 x3 x4 x5 x6
  obtain ⟨x0, x1, x2, x3, x4, x5, x6⟩ := accBox HBX2.out
  go_wp2
  go_ret
  exact ⟨by rw [HLE.out]; rfl, HB2.out⟩

theorem Line_any (a : Acc) (w : World) (h : AccOk a) (ht : TabT w) (hz : Tz16 w) :
    Calls Tryd.prog 49 #[accV a] w fun e w' => e = .returned (.string (lineS a)) ∧ Below w.heap.size w w' := by
  by_cases k1 : a.kind = 1
  · exact Line_1 a w h k1 ht hz
  by_cases k2 : a.kind = 2
  · exact Line_2 a w h k2 ht hz
  by_cases k3 : a.kind = 3
  · cases ho : a.ok with
    | true => exact Line_3t a w h k3 ho ht hz
    | false => exact Line_3f a w h k3 ho ht hz
  by_cases k4 : a.kind = 4
  · exact Line_4 a w h k4 ht hz
  · exact Line_0 a w h ⟨k1, k2, k3, k4⟩ ht hz

set_option maxHeartbeats 16000000 in
set_option maxRecDepth 100000 in
theorem rLine_1 (a : Acc) (w : World) (h : AccOk a) (hk : a.kind = 1) :
    Calls Tryd.prog 50 #[accV a] w fun e w' => e = .returned (.string (lineS a)) ∧ Below w.heap.size w w' := by
  have HLE := Lib.hid (show lineS a = itoaS a.thread ++ ⟨#[32]⟩ ++ ⟨#[108, 111, 97, 100]⟩ ++ (⟨#[32]⟩ ++ itoaS a.addr) ++ ⟨#[32]⟩ ++ hexI a.old from by unfold lineS headS atS; rw [if_pos hk])
  have b1 : (a.kind == 1) = true := by simp [hk]
  have b2 : (a.kind == 2) = false := by simp [hk]
  have b3 : (a.kind == 3) = false := by simp [hk]
  have b4 : (a.kind == 4) = false := by simp [hk]
  have HI1 := Lib.hid (fun W => rItoa_any a.thread h.thread W)
  have HI2 := Lib.hid (fun W => rItoa_any a.addr h.addr W)
  have Hxo := Lib.hid (fun W => rHexI a.old h.old W)
  have sxo := hexI_size h.old
  have s1 := itoaS_size h.thread
  have s2 := itoaS_size h.addr
  have HBX0 := Lib.hid (Blk.new w 74 a.cells)
  have HB0 := Lib.hid ((Below.refl w.heap.size w).alloc (Nat.le_refl _) (.cells a.cells.toArray 74))
  generalize itoaS a.thread = zt at *
  generalize itoaS a.addr = za at *
  generalize hexI a.old = xo at *
  have e0 : ¬ 9223372036854775807 < zt.size + 1 := by omega
  have e1 : ¬ 9223372036854775807 < 1 + za.size := by omega
  have d0 : ¬ 9223372036854775807 < zt.size + 1 + 4 := by omega
  have d1 : ¬ 9223372036854775807 < zt.size + 1 + 4 + (1 + za.size) := by omega
  have d2 : ¬ 9223372036854775807 < zt.size + 1 + 4 + (1 + za.size) + 1 := by omega
  have d3 : ¬ 9223372036854775807 < zt.size + 1 + 4 + (1 + za.size) + 1 + xo.size := by omega
  clear h hk
  unfold accV
  go_enter Tryd.func50, Tryd.ntmps50
  go_wp2_with fail
  refine (HI1.out _).mono ?_
  rintro er w1 ⟨rfl, hb1⟩
  have HBX1 := Lib.hid (HBX0.out.below hb1 HBX0.out.lt)
  have HB1 := Lib.hid (HB0.out.trans (hb1.mono HB0.out.size))
  obtain ⟨x0, x1, x2, x3, x4, x5, x6⟩ := accBox HBX1.out
  clear hb1
  go_wp2_with fail
  refine (HI2.out _).mono ?_
  rintro er w2 ⟨rfl, hb2⟩
  have HBX2 := Lib.hid (HBX1.out.below hb2 HBX1.out.lt)
  have HB2 := Lib.hid (HB1.out.trans (hb2.mono HB1.out.size))
  clear hb2 x0 x1 x2 x3 x4 x5 x6
  obtain ⟨x0, x1, x2, x3, x4, x5, x6⟩ := accBox HBX2.out
  go_wp2_with fail
  refine (Hxo.out _).mono ?_
  rintro er w3 ⟨rfl, hb3⟩
  have HB3 := Lib.hid (HB2.out.trans (hb3.mono HB2.out.size))
  clear hb3 x0 x1 x2 x3 x4 x5 x6
  go_wp2
  go_ret
  exact ⟨by rw [HLE.out]; rfl, HB3.out⟩

set_option maxHeartbeats 16000000 in
set_option maxRecDepth 100000 in
theorem rLine_2 (a : Acc) (w : World) (h : AccOk a) (hk : a.kind = 2) :
    Calls Tryd.prog 50 #[accV a] w fun e w' => e = .returned (.string (lineS a)) ∧ Below w.heap.size w w' := by
  have HLE := Lib.hid (show lineS a = itoaS a.thread ++ ⟨#[32]⟩ ++ ⟨#[115, 116, 111, 114, 101]⟩ ++ (⟨#[32]⟩ ++ itoaS a.addr) ++ ⟨#[32]⟩ ++ hexI a.now ++ ⟨#[32, 119, 97, 115, 32]⟩ ++ hexI a.old from by unfold lineS headS atS; rw [if_neg (by omega), if_pos hk])
  have b1 : (a.kind == 1) = false := by simp [hk]
  have b2 : (a.kind == 2) = true := by simp [hk]
  have b3 : (a.kind == 3) = false := by simp [hk]
  have b4 : (a.kind == 4) = false := by simp [hk]
  have HI1 := Lib.hid (fun W => rItoa_any a.thread h.thread W)
  have HI2 := Lib.hid (fun W => rItoa_any a.addr h.addr W)
  have Hxo := Lib.hid (fun W => rHexI a.old h.old W)
  have sxo := hexI_size h.old
  have Hxn := Lib.hid (fun W => rHexI a.now h.now W)
  have sxn := hexI_size h.now
  have s1 := itoaS_size h.thread
  have s2 := itoaS_size h.addr
  have HBX0 := Lib.hid (Blk.new w 74 a.cells)
  have HB0 := Lib.hid ((Below.refl w.heap.size w).alloc (Nat.le_refl _) (.cells a.cells.toArray 74))
  generalize itoaS a.thread = zt at *
  generalize itoaS a.addr = za at *
  generalize hexI a.old = xo at *
  generalize hexI a.now = xn at *
  have e0 : ¬ 9223372036854775807 < zt.size + 1 := by omega
  have e1 : ¬ 9223372036854775807 < 1 + za.size := by omega
  have d0 : ¬ 9223372036854775807 < zt.size + 1 + 5 := by omega
  have d1 : ¬ 9223372036854775807 < zt.size + 1 + 5 + (1 + za.size) := by omega
  have d2 : ¬ 9223372036854775807 < zt.size + 1 + 5 + (1 + za.size) + 1 := by omega
  have d3 : ¬ 9223372036854775807 < zt.size + 1 + 5 + (1 + za.size) + 1 + xn.size := by omega
  have d4 : ¬ 9223372036854775807 < zt.size + 1 + 5 + (1 + za.size) + 1 + xn.size + 5 := by omega
  have d5 : ¬ 9223372036854775807 < zt.size + 1 + 5 + (1 + za.size) + 1 + xn.size + 5 + xo.size := by omega
  clear h hk
  unfold accV
  go_enter Tryd.func50, Tryd.ntmps50
  go_wp2_with fail
  refine (HI1.out _).mono ?_
  rintro er w1 ⟨rfl, hb1⟩
  have HBX1 := Lib.hid (HBX0.out.below hb1 HBX0.out.lt)
  have HB1 := Lib.hid (HB0.out.trans (hb1.mono HB0.out.size))
  obtain ⟨x0, x1, x2, x3, x4, x5, x6⟩ := accBox HBX1.out
  clear hb1
  go_wp2_with fail
  refine (HI2.out _).mono ?_
  rintro er w2 ⟨rfl, hb2⟩
  have HBX2 := Lib.hid (HBX1.out.below hb2 HBX1.out.lt)
  have HB2 := Lib.hid (HB1.out.trans (hb2.mono HB1.out.size))
  clear hb2 x0 x1 x2 x3 x4 x5 x6
  obtain ⟨x0, x1, x2, x3, x4, x5, x6⟩ := accBox HBX2.out
  have hgl := HBX2.out.lt
  have HDR := Lib.hid (Below.drewN' (Below.refl w2.heap.size w2) 1)
  go_upto_region 7 with (fail)
  go_region_held3 (fun w' => w'.cell? ⟨w.heap.size, 3, none⟩ = some (.int .u64 a.want) ∧ w'.cell? ⟨w.heap.size, 4, none⟩ = some (.int .u64 a.old) ∧ w'.cell? ⟨w.heap.size, 5, none⟩ = some (.int .u64 a.now)) (first | go_keep | (simp only [hk1]; go_keep)) (first
    | (go_at_call 98; (with_reducible refine (Hxn.out w2.drew).mono ?_); rintro er w3 ⟨rfl, hb3⟩; have hB3 : Below w2.heap.size w2 w3 := ⟨hb3.os, hb3.tape, hb3.output, hb3.size, hb3.block⟩; have hk1 := fun o => hB3.cell (p := ⟨w.heap.size, o, none⟩) hgl)
    | (go_at_call 98; (with_reducible refine (Hxo.out w3).mono ?_); rintro er w4 ⟨rfl, hb4⟩; have hB4 : Below w2.heap.size w2 w4 := hB3.trans (hb4.mono hB3.size); have hk1 := fun o => hB4.cell (p := ⟨w.heap.size, o, none⟩) hgl))
  have HB4 := Lib.hid (HB2.out.trans (hB4.mono HB2.out.size))
  clear hk1 hB3 hB4 hb3 hb4 x0 x1 x2 x3 x4 x5 x6
  go_wp2
  go_ret
  exact ⟨by rw [HLE.out]; rfl, HB4.out⟩

set_option maxHeartbeats 16000000 in
set_option maxRecDepth 100000 in
theorem rLine_3t (a : Acc) (w : World) (h : AccOk a) (hk : a.kind = 3) (hok : a.ok = true) :
    Calls Tryd.prog 50 #[accV a] w fun e w' => e = .returned (.string (lineS a)) ∧ Below w.heap.size w w' := by
  have HLE := Lib.hid (show lineS a = itoaS a.thread ++ ⟨#[32]⟩ ++ ⟨#[115, 119, 97, 112]⟩ ++ (⟨#[32]⟩ ++ itoaS a.addr) ++ ⟨#[32]⟩ ++ hexI a.want ++ ⟨#[32]⟩ ++ hexI a.now from by unfold lineS headS atS; rw [if_neg (by omega), if_neg (by omega), if_pos hk, hok]; rfl)
  have b1 : (a.kind == 1) = false := by simp [hk]
  have b2 : (a.kind == 2) = false := by simp [hk]
  have b3 : (a.kind == 3) = true := by simp [hk]
  have b4 : (a.kind == 4) = false := by simp [hk]
  have HI1 := Lib.hid (fun W => rItoa_any a.thread h.thread W)
  have HI2 := Lib.hid (fun W => rItoa_any a.addr h.addr W)
  have Hxn := Lib.hid (fun W => rHexI a.now h.now W)
  have sxn := hexI_size h.now
  have Hxw := Lib.hid (fun W => rHexI a.want h.want W)
  have sxw := hexI_size h.want
  have s1 := itoaS_size h.thread
  have s2 := itoaS_size h.addr
  have HBX0 := Lib.hid (Blk.new w 74 a.cells)
  have HB0 := Lib.hid ((Below.refl w.heap.size w).alloc (Nat.le_refl _) (.cells a.cells.toArray 74))
  generalize itoaS a.thread = zt at *
  generalize itoaS a.addr = za at *
  generalize hexI a.now = xn at *
  generalize hexI a.want = xw at *
  have e0 : ¬ 9223372036854775807 < zt.size + 1 := by omega
  have e1 : ¬ 9223372036854775807 < 1 + za.size := by omega
  have d0 : ¬ 9223372036854775807 < zt.size + 1 + 4 := by omega
  have d1 : ¬ 9223372036854775807 < zt.size + 1 + 4 + (1 + za.size) := by omega
  have d2 : ¬ 9223372036854775807 < zt.size + 1 + 4 + (1 + za.size) + 1 := by omega
  have d3 : ¬ 9223372036854775807 < zt.size + 1 + 4 + (1 + za.size) + 1 + xw.size := by omega
  have d4 : ¬ 9223372036854775807 < zt.size + 1 + 4 + (1 + za.size) + 1 + xw.size + 1 := by omega
  have d5 : ¬ 9223372036854775807 < zt.size + 1 + 4 + (1 + za.size) + 1 + xw.size + 1 + xn.size := by omega
  have HOK := Lib.hid hok
  clear hok
  clear h hk
  unfold accV
  go_enter Tryd.func50, Tryd.ntmps50
  go_wp2_with fail
  refine (HI1.out _).mono ?_
  rintro er w1 ⟨rfl, hb1⟩
  have HBX1 := Lib.hid (HBX0.out.below hb1 HBX0.out.lt)
  have HB1 := Lib.hid (HB0.out.trans (hb1.mono HB0.out.size))
  obtain ⟨x0, x1, x2, x3, x4, x5, x6⟩ := accBox HBX1.out
  clear hb1
  go_wp2_with fail
  refine (HI2.out _).mono ?_
  rintro er w2 ⟨rfl, hb2⟩
  have HBX2 := Lib.hid (HBX1.out.below hb2 HBX1.out.lt)
  have HB2 := Lib.hid (HB1.out.trans (hb2.mono HB1.out.size))
  clear hb2 x0 x1 x2 x3 x4 x5 x6
  obtain ⟨x0, x1, x2, x3, x4, x5, x6⟩ := accBox HBX2.out
  rw [HOK.out] at x6
  have hgl := HBX2.out.lt
  have HDR := Lib.hid (Below.drewN' (Below.refl w2.heap.size w2) 1)
  go_upto_region 11 with (fail)
  go_region_held3 (fun w' => w'.cell? ⟨w.heap.size, 3, none⟩ = some (.int .u64 a.want) ∧ w'.cell? ⟨w.heap.size, 4, none⟩ = some (.int .u64 a.old) ∧ w'.cell? ⟨w.heap.size, 5, none⟩ = some (.int .u64 a.now)) (first | go_keep | (simp only [hk1]; go_keep)) (first
    | (go_at_call 98; (with_reducible refine (Hxw.out w2.drew).mono ?_); rintro er w3 ⟨rfl, hb3⟩; have hB3 : Below w2.heap.size w2 w3 := ⟨hb3.os, hb3.tape, hb3.output, hb3.size, hb3.block⟩; have hk1 := fun o => hB3.cell (p := ⟨w.heap.size, o, none⟩) hgl)
    | (go_at_call 98; (with_reducible refine (Hxn.out w3).mono ?_); rintro er w4 ⟨rfl, hb4⟩; have hB4 : Below w2.heap.size w2 w4 := hB3.trans (hb4.mono hB3.size); have hk1 := fun o => hB4.cell (p := ⟨w.heap.size, o, none⟩) hgl))
  have HB4 := Lib.hid (HB2.out.trans (hB4.mono HB2.out.size))
  clear hk1 hB3 hB4 hb3 hb4 x0 x1 x2 x3 x4 x5 x6
  go_wp2
  go_ret
  exact ⟨by rw [HLE.out]; rfl, HB4.out⟩

set_option maxHeartbeats 16000000 in
set_option maxRecDepth 100000 in
theorem rLine_3f (a : Acc) (w : World) (h : AccOk a) (hk : a.kind = 3) (hok : a.ok = false) :
    Calls Tryd.prog 50 #[accV a] w fun e w' => e = .returned (.string (lineS a)) ∧ Below w.heap.size w w' := by
  have HLE := Lib.hid (show lineS a = itoaS a.thread ++ ⟨#[32]⟩ ++ ⟨#[118, 97, 105, 110]⟩ ++ (⟨#[32]⟩ ++ itoaS a.addr) ++ ⟨#[32]⟩ ++ hexI a.want ++ ⟨#[32, 105, 115, 32]⟩ ++ hexI a.old from by unfold lineS headS atS; rw [if_neg (by omega), if_neg (by omega), if_pos hk, hok]; rfl)
  have b1 : (a.kind == 1) = false := by simp [hk]
  have b2 : (a.kind == 2) = false := by simp [hk]
  have b3 : (a.kind == 3) = true := by simp [hk]
  have b4 : (a.kind == 4) = false := by simp [hk]
  have HI1 := Lib.hid (fun W => rItoa_any a.thread h.thread W)
  have HI2 := Lib.hid (fun W => rItoa_any a.addr h.addr W)
  have Hxo := Lib.hid (fun W => rHexI a.old h.old W)
  have sxo := hexI_size h.old
  have Hxw := Lib.hid (fun W => rHexI a.want h.want W)
  have sxw := hexI_size h.want
  have s1 := itoaS_size h.thread
  have s2 := itoaS_size h.addr
  have HBX0 := Lib.hid (Blk.new w 74 a.cells)
  have HB0 := Lib.hid ((Below.refl w.heap.size w).alloc (Nat.le_refl _) (.cells a.cells.toArray 74))
  generalize itoaS a.thread = zt at *
  generalize itoaS a.addr = za at *
  generalize hexI a.old = xo at *
  generalize hexI a.want = xw at *
  have e0 : ¬ 9223372036854775807 < zt.size + 1 := by omega
  have e1 : ¬ 9223372036854775807 < 1 + za.size := by omega
  have d0 : ¬ 9223372036854775807 < zt.size + 1 + 4 := by omega
  have d1 : ¬ 9223372036854775807 < zt.size + 1 + 4 + (1 + za.size) := by omega
  have d2 : ¬ 9223372036854775807 < zt.size + 1 + 4 + (1 + za.size) + 1 := by omega
  have d3 : ¬ 9223372036854775807 < zt.size + 1 + 4 + (1 + za.size) + 1 + xw.size := by omega
  have d4 : ¬ 9223372036854775807 < zt.size + 1 + 4 + (1 + za.size) + 1 + xw.size + 4 := by omega
  have d5 : ¬ 9223372036854775807 < zt.size + 1 + 4 + (1 + za.size) + 1 + xw.size + 4 + xo.size := by omega
  have HOK := Lib.hid hok
  clear hok
  clear h hk
  unfold accV
  go_enter Tryd.func50, Tryd.ntmps50
  go_wp2_with fail
  refine (HI1.out _).mono ?_
  rintro er w1 ⟨rfl, hb1⟩
  have HBX1 := Lib.hid (HBX0.out.below hb1 HBX0.out.lt)
  have HB1 := Lib.hid (HB0.out.trans (hb1.mono HB0.out.size))
  obtain ⟨x0, x1, x2, x3, x4, x5, x6⟩ := accBox HBX1.out
  clear hb1
  go_wp2_with fail
  refine (HI2.out _).mono ?_
  rintro er w2 ⟨rfl, hb2⟩
  have HBX2 := Lib.hid (HBX1.out.below hb2 HBX1.out.lt)
  have HB2 := Lib.hid (HB1.out.trans (hb2.mono HB1.out.size))
  clear hb2 x0 x1 x2 x3 x4 x5 x6
  obtain ⟨x0, x1, x2, x3, x4, x5, x6⟩ := accBox HBX2.out
  rw [HOK.out] at x6
  have hgl := HBX2.out.lt
  have HDR := Lib.hid (Below.drewN' (Below.refl w2.heap.size w2) 1)
  go_upto_region 10 with (fail)
  go_region_held3 (fun w' => w'.cell? ⟨w.heap.size, 3, none⟩ = some (.int .u64 a.want) ∧ w'.cell? ⟨w.heap.size, 4, none⟩ = some (.int .u64 a.old) ∧ w'.cell? ⟨w.heap.size, 5, none⟩ = some (.int .u64 a.now)) (first | go_keep | (simp only [hk1]; go_keep)) (first
    | (go_at_call 98; (with_reducible refine (Hxw.out w2.drew).mono ?_); rintro er w3 ⟨rfl, hb3⟩; have hB3 : Below w2.heap.size w2 w3 := ⟨hb3.os, hb3.tape, hb3.output, hb3.size, hb3.block⟩; have hk1 := fun o => hB3.cell (p := ⟨w.heap.size, o, none⟩) hgl)
    | (go_at_call 98; (with_reducible refine (Hxo.out w3).mono ?_); rintro er w4 ⟨rfl, hb4⟩; have hB4 : Below w2.heap.size w2 w4 := hB3.trans (hb4.mono hB3.size); have hk1 := fun o => hB4.cell (p := ⟨w.heap.size, o, none⟩) hgl))
  have HB4 := Lib.hid (HB2.out.trans (hB4.mono HB2.out.size))
  clear hk1 hB3 hB4 hb3 hb4 x0 x1 x2 x3 x4 x5 x6
  go_wp2
  go_ret
  exact ⟨by rw [HLE.out]; rfl, HB4.out⟩

set_option maxHeartbeats 16000000 in
set_option maxRecDepth 100000 in
theorem rLine_4 (a : Acc) (w : World) (h : AccOk a) (hk : a.kind = 4) :
    Calls Tryd.prog 50 #[accV a] w fun e w' => e = .returned (.string (lineS a)) ∧ Below w.heap.size w w' := by
  have HLE := Lib.hid (show lineS a = itoaS a.thread ++ ⟨#[32]⟩ ++ ⟨#[97, 100, 100]⟩ ++ (⟨#[32]⟩ ++ itoaS a.addr) ++ ⟨#[32]⟩ ++ hexI (IntKind.u64.wrap (a.now - a.old)) ++ ⟨#[32, 119, 97, 115, 32]⟩ ++ hexI a.old from by unfold lineS headS atS; rw [if_neg (by omega), if_neg (by omega), if_neg (by omega), if_pos hk])
  have b1 : (a.kind == 1) = false := by simp [hk]
  have b2 : (a.kind == 2) = false := by simp [hk]
  have b3 : (a.kind == 3) = false := by simp [hk]
  have b4 : (a.kind == 4) = true := by simp [hk]
  have HI1 := Lib.hid (fun W => rItoa_any a.thread h.thread W)
  have HI2 := Lib.hid (fun W => rItoa_any a.addr h.addr W)
  have Hxo := Lib.hid (fun W => rHexI a.old h.old W)
  have sxo := hexI_size h.old
  have Hxd := Lib.hid (fun W => rHexI (IntKind.u64.wrap (a.now - a.old)) (wrap_U64 _) W)
  have sxd := hexI_size (wrap_U64 (a.now - a.old))
  have s1 := itoaS_size h.thread
  have s2 := itoaS_size h.addr
  have HBX0 := Lib.hid (Blk.new w 74 a.cells)
  have HB0 := Lib.hid ((Below.refl w.heap.size w).alloc (Nat.le_refl _) (.cells a.cells.toArray 74))
  generalize itoaS a.thread = zt at *
  generalize itoaS a.addr = za at *
  generalize hexI (IntKind.u64.wrap (a.now - a.old)) = xd at *
  generalize hexI a.old = xo at *
  have e0 : ¬ 9223372036854775807 < zt.size + 1 := by omega
  have e1 : ¬ 9223372036854775807 < 1 + za.size := by omega
  have d0 : ¬ 9223372036854775807 < zt.size + 1 + 3 := by omega
  have d1 : ¬ 9223372036854775807 < zt.size + 1 + 3 + (1 + za.size) := by omega
  have d2 : ¬ 9223372036854775807 < zt.size + 1 + 3 + (1 + za.size) + 1 := by omega
  have d3 : ¬ 9223372036854775807 < zt.size + 1 + 3 + (1 + za.size) + 1 + xd.size := by omega
  have d4 : ¬ 9223372036854775807 < zt.size + 1 + 3 + (1 + za.size) + 1 + xd.size + 5 := by omega
  have d5 : ¬ 9223372036854775807 < zt.size + 1 + 3 + (1 + za.size) + 1 + xd.size + 5 + xo.size := by omega
  clear h hk
  unfold accV
  go_enter Tryd.func50, Tryd.ntmps50
  go_wp2_with fail
  refine (HI1.out _).mono ?_
  rintro er w1 ⟨rfl, hb1⟩
  have HBX1 := Lib.hid (HBX0.out.below hb1 HBX0.out.lt)
  have HB1 := Lib.hid (HB0.out.trans (hb1.mono HB0.out.size))
  obtain ⟨x0, x1, x2, x3, x4, x5, x6⟩ := accBox HBX1.out
  clear hb1
  go_wp2_with fail
  refine (HI2.out _).mono ?_
  rintro er w2 ⟨rfl, hb2⟩
  have HBX2 := Lib.hid (HBX1.out.below hb2 HBX1.out.lt)
  have HB2 := Lib.hid (HB1.out.trans (hb2.mono HB1.out.size))
  clear hb2 x0 x1 x2 x3 x4 x5 x6
  obtain ⟨x0, x1, x2, x3, x4, x5, x6⟩ := accBox HBX2.out
  have hgl := HBX2.out.lt
  have HDR := Lib.hid (Below.drewN' (Below.refl w2.heap.size w2) 1)
  go_upto_region 13 with (fail)
  go_region_held3 (fun w' => w'.cell? ⟨w.heap.size, 3, none⟩ = some (.int .u64 a.want) ∧ w'.cell? ⟨w.heap.size, 4, none⟩ = some (.int .u64 a.old) ∧ w'.cell? ⟨w.heap.size, 5, none⟩ = some (.int .u64 a.now)) (first | go_keep | (simp only [hk1]; go_keep)) (first
    | (go_at_call 98; (with_reducible refine (Hxd.out w2.drew).mono ?_); rintro er w3 ⟨rfl, hb3⟩; have hB3 : Below w2.heap.size w2 w3 := ⟨hb3.os, hb3.tape, hb3.output, hb3.size, hb3.block⟩; have hk1 := fun o => hB3.cell (p := ⟨w.heap.size, o, none⟩) hgl)
    | (go_at_call 98; (with_reducible refine (Hxo.out w3).mono ?_); rintro er w4 ⟨rfl, hb4⟩; have hB4 : Below w2.heap.size w2 w4 := hB3.trans (hb4.mono hB3.size); have hk1 := fun o => hB4.cell (p := ⟨w.heap.size, o, none⟩) hgl))
  have HB4 := Lib.hid (HB2.out.trans (hB4.mono HB2.out.size))
  clear hk1 hB3 hB4 hb3 hb4 x0 x1 x2 x3 x4 x5 x6
  go_wp2
  go_ret
  exact ⟨by rw [HLE.out]; rfl, HB4.out⟩

set_option maxHeartbeats 16000000 in
set_option maxRecDepth 100000 in
theorem rLine_0 (a : Acc) (w : World) (h : AccOk a) (hk : a.kind ≠ 1 ∧ a.kind ≠ 2 ∧ a.kind ≠ 3 ∧ a.kind ≠ 4) :
    Calls Tryd.prog 50 #[accV a] w fun e w' => e = .returned (.string (lineS a)) ∧ Below w.heap.size w w' := by
  have HLE := Lib.hid (show lineS a = itoaS a.thread ++ ⟨#[32]⟩ ++ ⟨#[110, 111, 110, 101]⟩ ++ (⟨#[32]⟩ ++ itoaS a.addr) from by unfold lineS headS atS; rw [if_neg hk.1, if_neg hk.2.1, if_neg hk.2.2.1, if_neg hk.2.2.2])
  have b1 : (a.kind == 1) = false := by simp; omega
  have b2 : (a.kind == 2) = false := by simp; omega
  have b3 : (a.kind == 3) = false := by simp; omega
  have b4 : (a.kind == 4) = false := by simp; omega
  have HI1 := Lib.hid (fun W => rItoa_any a.thread h.thread W)
  have HI2 := Lib.hid (fun W => rItoa_any a.addr h.addr W)
  have s1 := itoaS_size h.thread
  have s2 := itoaS_size h.addr
  have HBX0 := Lib.hid (Blk.new w 74 a.cells)
  have HB0 := Lib.hid ((Below.refl w.heap.size w).alloc (Nat.le_refl _) (.cells a.cells.toArray 74))
  generalize itoaS a.thread = zt at *
  generalize itoaS a.addr = za at *
  have e0 : ¬ 9223372036854775807 < zt.size + 1 := by omega
  have e1 : ¬ 9223372036854775807 < 1 + za.size := by omega
  have d0 : ¬ 9223372036854775807 < zt.size + 1 + 4 := by omega
  have d1 : ¬ 9223372036854775807 < zt.size + 1 + 4 + (1 + za.size) := by omega
  clear h hk
  unfold accV
  go_enter Tryd.func50, Tryd.ntmps50
  go_wp2_with fail
  refine (HI1.out _).mono ?_
  rintro er w1 ⟨rfl, hb1⟩
  have HBX1 := Lib.hid (HBX0.out.below hb1 HBX0.out.lt)
  have HB1 := Lib.hid (HB0.out.trans (hb1.mono HB0.out.size))
  obtain ⟨x0, x1, x2, x3, x4, x5, x6⟩ := accBox HBX1.out
  clear hb1
  go_wp2_with fail
  refine (HI2.out _).mono ?_
  rintro er w2 ⟨rfl, hb2⟩
  have HBX2 := Lib.hid (HBX1.out.below hb2 HBX1.out.lt)
  have HB2 := Lib.hid (HB1.out.trans (hb2.mono HB1.out.size))
  clear hb2 x0 x1 x2 x3 x4 x5 x6
  obtain ⟨x0, x1, x2, x3, x4, x5, x6⟩ := accBox HBX2.out
  go_wp2
  go_ret
  exact ⟨by rw [HLE.out]; rfl, HB2.out⟩

theorem rLine_any (a : Acc) (w : World) (h : AccOk a) :
    Calls Tryd.prog 50 #[accV a] w fun e w' => e = .returned (.string (lineS a)) ∧ Below w.heap.size w w' := by
  by_cases k1 : a.kind = 1
  · exact rLine_1 a w h k1
  by_cases k2 : a.kind = 2
  · exact rLine_2 a w h k2
  by_cases k3 : a.kind = 3
  · cases ho : a.ok with
    | true => exact rLine_3t a w h k3 ho
    | false => exact rLine_3f a w h k3 ho
  by_cases k4 : a.kind = 4
  · exact rLine_4 a w h k4
  · exact rLine_0 a w h ⟨k1, k2, k3, k4⟩

end Go.Proofs.YtiioedgdhkndgaaDoor

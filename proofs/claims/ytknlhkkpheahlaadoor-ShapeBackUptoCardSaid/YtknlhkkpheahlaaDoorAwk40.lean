/- The document's example (40): awake, walked. -/
import Derived.Test.YtknlhkkpheahlaaDoorRead
import Derived.Test.YtknlhkkpheahlaaDoorText
import Derived.Test.YtknlhkkpheahlaaDoorShp1
import Derived.KernelRfl
namespace Go.Proofs.YtknlhkkpheahlaaDoor
open Go.RowKit Go.Sort

theorem rd40_1 : readS ⟨#[104, 97, 108, 108, 32, 115, 116, 97, 114, 116, 61, 49, 32, 99, 97, 112, 61, 51, 32, 116, 104, 114, 101, 97, 100, 115, 61, 52]⟩ = some ⟨3, 4, 2, 3, 6, 2, 1, 4294967295, 1048575, 4095, [1], none, 0⟩ := by kernel_rfl
theorem rd40_2 : readS ⟨#[104, 97, 108, 108, 32, 99, 97, 112, 61, 48, 51]⟩ = none := by kernel_rfl
theorem er40_2 : errS ⟨#[104, 97, 108, 108, 32, 99, 97, 112, 61, 48, 51]⟩ = 3 := by kernel_rfl
theorem rd40_3 : readS ⟨#[102, 105, 102, 111, 32, 99, 97, 112, 61, 57, 57]⟩ = none := by kernel_rfl
theorem er40_3 : errS ⟨#[102, 105, 102, 111, 32, 99, 97, 112, 61, 57, 57]⟩ = 1 := by kernel_rfl
theorem tx40 : shpTB (plainC 1) = ⟨#[102, 105, 102, 111, 32, 116, 104, 114, 101, 97, 100, 115, 61, 50, 32, 99, 97, 112, 61, 50, 32, 110, 111, 100, 101, 115, 61, 54, 32, 114, 101, 116, 105, 114, 101, 61, 50, 32, 112, 97, 116, 105, 101, 110, 99, 101, 61, 49, 32, 116, 97, 103, 115, 61, 52, 50, 57, 52, 57, 54, 55, 50, 57, 53, 32, 115, 101, 113, 115, 61, 49, 48, 52, 56, 53, 55, 53]⟩ := by kernel_rfl

theorem Read_no {s : ByteArray} {k : Int} (h : readS s = none) (hk : errS s = k) (hs : s.size ≤ 1048576) (w : World) (ht : TabT w) (he : ErrT w) (hm : MLT w) :
    Calls Tryd.prog 24 #[.string s] w fun e w' => e = .returned (.tuple #[cfgV (plainC 0), .int .i64 k]) ∧ Below w.heap.size w w' := by
  refine (Read_shp s w hs ht he hm).mono ?_
  rintro e w' (⟨_, h2, h3⟩ | ⟨d, h1, _⟩)
  · rw [← hk]; exact ⟨h2, h3⟩
  · rw [h] at h1; cases h1
theorem Read_yes {s : ByteArray} {c : Cfg} (h : readS s = some c.norm) (hs : s.size ≤ 1048576) (w : World) (ht : TabT w) (he : ErrT w) (hm : MLT w) :
    Calls Tryd.prog 24 #[.string s] w fun e w' => ∃ A k, e = .returned (.tuple #[cfgV { c with sa := A, sc := k }, .int .i64 0]) ∧ Rd w' A (ints c.start) ∧ c.start.length ≤ maxLen ∧ Below w.heap.size w w' := by
  refine (Read_shp s w hs ht he hm).mono ?_
  rintro e w' (⟨h1, _⟩ | ⟨d, h1, _, h2, h3, h4⟩)
  · rw [h] at h1; cases h1
  · rw [h] at h1
    injection h1 with h1
    have e1 : d = { c with sa := d.sa, sc := d.sc } := by
      obtain ⟨d0, d1, d2, d3, d4, d5, d6, d7, d8, d9, ds, da, dc⟩ := d
      obtain ⟨c0, c1, c2, c3, c4, c5, c6, c7, c8, c9, cs, ca, cc⟩ := c
      simp only [Cfg.norm, Cfg.mk.injEq] at h1 ⊢
      simp [h1]
    have e2 : c.start = d.start := by rw [e1]
    refine ⟨d.sa, d.sc, ?_, ?_, ?_, h4⟩
    · rw [h2, e1]
    · rw [e2]; exact h3.1
    · rw [e2]; exact h3.2

set_option maxHeartbeats 8000000 in
set_option maxRecDepth 100000 in
theorem awake40_any (w : World) (ht : TabT w) (he : ErrT w) (hm : MLT w) :
    Calls Tryd.prog 27 #[] w fun e w' => e = .returned (.bool true) ∧ Below w.heap.size w w' := by
  have HR1 := Lib.hid (fun W h1 h2 h3 => Read_yes (c := ⟨3, 4, 2, 3, 6, 2, 1, 4294967295, 1048575, 4095, [1], none, 0⟩) rd40_1 (by decide +kernel) W h1 h2 h3)
  have HR2 := Lib.hid (fun W h1 h2 h3 => Read_no rd40_2 er40_2 (by decide +kernel) W h1 h2 h3)
  have HR3 := Lib.hid (fun W h1 h2 h3 => Read_no rd40_3 er40_3 (by decide +kernel) W h1 h2 h3)
  have HPL := Lib.hid (fun W => Plain_any 1 W)
  have HTX := Lib.hid (fun W h1 h2 => Text_shp (plainC 1) W h1 h2)
  rw [tx40] at HTX
  have HT := Lib.hid ht
  have HE := Lib.hid he
  have HM := Lib.hid hm
  clear ht he hm
  go_enter Tryd.func27, Tryd.ntmps27
  go_upto_region 2 with (go_at_call 24; refine (HR1.out _ HT.out HE.out HM.out).mono ?_; rintro e w1 ⟨A, k, rfl, hA, _, hb1⟩; have HA := Lib.hid hA; have HB1 := Lib.hid hb1; clear hA hb1)
  have HX := Lib.hid (Blk.new w1 45 (cfgCells ⟨3, 4, 2, 3, 6, 2, 1, 4294967295, 1048575, 4095, [1], A, k⟩))
  have HB2 := Lib.hid (HB1.out.alloc HB1.out.size (.cells (cfgCells ⟨3, 4, 2, 3, 6, 2, 1, 4294967295, 1048575, 4095, [1], A, k⟩).toArray 45))
  have HA2 := Lib.hid (HA.out.alloc (.cells (cfgCells ⟨3, 4, 2, 3, 6, 2, 1, 4294967295, 1048575, 4095, [1], A, k⟩).toArray 45))
  have HW : RowKit.Hid ((cfgCells ⟨3, 4, 2, 3, 6, 2, 1, 4294967295, 1048575, 4095, [1], A, k⟩).toArray = #[.int .i64 3, .int .i64 4, .int .i64 2, .int .i64 3, .int .i64 6, .int .i64 2, .int .i64 1, .int .i64 4294967295, .int .i64 1048575, .int .i64 4095, .slice A 1 k]) := Lib.hid rfl
  rw [HW.out] at HX HB2 HA2
  generalize (w1.alloc (.cells #[.int .i64 3, .int .i64 4, .int .i64 2, .int .i64 3, .int .i64 6, .int .i64 2, .int .i64 1, .int .i64 4294967295, .int .i64 1048575, .int .i64 4095, .slice A 1 k] 45)) = W1 at *
  generalize w1.heap.size = g at *
  clear HW HA HB1 HR1
  go_upto_region 3 with (go_at_call 24; refine (HR2.out _ (HT.out.below HB2.out) (HE.out.below HB2.out) (HM.out.below HB2.out)).mono ?_; rintro e w2 ⟨rfl, hb2⟩; have HB3 := Lib.hid (HB2.out.trans (hb2.mono HB2.out.size)); have HX3 := Lib.hid (HX.out.below hb2 HX.out.lt); have HA3 := Lib.hid (HA2.out.below hb2); clear hb2)
  have HB4 := Lib.hid (HB3.out.alloc HB3.out.size (.cells (cfgCells (plainC 0)).toArray 45))
  have HX4 := Lib.hid (HX3.out.alloc (.cells (cfgCells (plainC 0)).toArray 45))
  have HA4 := Lib.hid (HA3.out.alloc (.cells (cfgCells (plainC 0)).toArray 45))
  simp only [cfgCells] at HB4 HX4 HA4
  generalize (w2.alloc (.cells [Value.int .i64 (plainC 0).kind, Value.int .i64 (plainC 0).threads, Value.int .i64 (plainC 0).chans, Value.int .i64 (plainC 0).cap, Value.int .i64 (plainC 0).nodes, Value.int .i64 (plainC 0).retire, Value.int .i64 (plainC 0).patience, Value.int .i64 (plainC 0).tags, Value.int .i64 (plainC 0).seqs, Value.int .i64 (plainC 0).gens, .slice (plainC 0).sa (plainC 0).start.length (plainC 0).sc].toArray 45)) = W4 at *
  clear HB3 HX3 HA3 HB2 HX HA2 HR2
  go_upto_region 4 with (go_at_call 24; refine (HR3.out _ (HT.out.below HB4.out) (HE.out.below HB4.out) (HM.out.below HB4.out)).mono ?_; rintro e w5 ⟨rfl, hb5⟩; have HB5 := Lib.hid (HB4.out.trans (hb5.mono HB4.out.size)); have HX5 := Lib.hid (HX4.out.below hb5 HX4.out.lt); have HA5 := Lib.hid (HA4.out.below hb5); clear hb5)
  have HB6 := Lib.hid (HB5.out.alloc HB5.out.size (.cells [Value.int .i64 (plainC 0).kind, Value.int .i64 (plainC 0).threads, Value.int .i64 (plainC 0).chans, Value.int .i64 (plainC 0).cap, Value.int .i64 (plainC 0).nodes, Value.int .i64 (plainC 0).retire, Value.int .i64 (plainC 0).patience, Value.int .i64 (plainC 0).tags, Value.int .i64 (plainC 0).seqs, Value.int .i64 (plainC 0).gens, .slice (plainC 0).sa (plainC 0).start.length (plainC 0).sc].toArray 45))
  have HX6 := Lib.hid (HX5.out.alloc (.cells [Value.int .i64 (plainC 0).kind, Value.int .i64 (plainC 0).threads, Value.int .i64 (plainC 0).chans, Value.int .i64 (plainC 0).cap, Value.int .i64 (plainC 0).nodes, Value.int .i64 (plainC 0).retire, Value.int .i64 (plainC 0).patience, Value.int .i64 (plainC 0).tags, Value.int .i64 (plainC 0).seqs, Value.int .i64 (plainC 0).gens, .slice (plainC 0).sa (plainC 0).start.length (plainC 0).sc].toArray 45))
  have HA6 := Lib.hid (HA5.out.alloc (.cells [Value.int .i64 (plainC 0).kind, Value.int .i64 (plainC 0).threads, Value.int .i64 (plainC 0).chans, Value.int .i64 (plainC 0).cap, Value.int .i64 (plainC 0).nodes, Value.int .i64 (plainC 0).retire, Value.int .i64 (plainC 0).patience, Value.int .i64 (plainC 0).tags, Value.int .i64 (plainC 0).seqs, Value.int .i64 (plainC 0).gens, .slice (plainC 0).sa (plainC 0).start.length (plainC 0).sc].toArray 45))
  generalize (w5.alloc (.cells [Value.int .i64 (plainC 0).kind, Value.int .i64 (plainC 0).threads, Value.int .i64 (plainC 0).chans, Value.int .i64 (plainC 0).cap, Value.int .i64 (plainC 0).nodes, Value.int .i64 (plainC 0).retire, Value.int .i64 (plainC 0).patience, Value.int .i64 (plainC 0).tags, Value.int .i64 (plainC 0).seqs, Value.int .i64 (plainC 0).gens, .slice (plainC 0).sa (plainC 0).start.length (plainC 0).sc].toArray 45)) = W6 at *
  clear HB5 HX5 HA5 HB4 HX4 HA4 HR3
  have x1 := HX6.out.cell (i := 1) rfl
  have x2 := HX6.out.cell (i := 2) rfl
  have x3 := HX6.out.cell (i := 3) rfl
  have x10 := HX6.out.cell (i := 10) rfl
  have hgl := HX6.out.lt
  simp only [List.length_cons, List.length_nil] at x10
  have HI := Lib.hid (fun W B h1 h2 => Ints_any A B k 1 [1] [1] W (by unfold maxLen; decide) (by unfold maxLen; decide) h1 h2)
  go_wp2_with (first
    | (go_at_call 67; refine (HI.out _ _ (HA6.out.alloc _) (blk_new (cs := ints [1]) rfl).rd).mono ?_; rintro e w7 ⟨rfl, hb7⟩; have HB7 := Lib.hid ((HB6.out.alloc HB6.out.size _).trans (hb7.mono (by have := HB6.out.size; simp; omega))); clear hb7)
    | (go_at_call 59; refine (HPL.out _).mono ?_; rintro e w8 ⟨rfl, hb8⟩; have HB8 := Lib.hid (HB7.out.trans (hb8.mono HB7.out.size)); clear hb8)
    | (go_at_call 25; refine (HTX.out _ ⟨own_rd (own_nil _ _ _ _ : World.ownsRow w8 0 3 1 _ _ _), Nat.zero_le _⟩ (HT.out.below HB8.out)).mono ?_; rintro e w9 ⟨rfl, hb9⟩; have HB9 := Lib.hid (HB8.out.trans (hb9.mono HB8.out.size)); clear hb9))
  go_ret
  exact ⟨rfl, HB9.out⟩

end Go.Proofs.YtknlhkkpheahlaaDoor

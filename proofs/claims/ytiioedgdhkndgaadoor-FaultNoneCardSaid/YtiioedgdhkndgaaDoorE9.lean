/- Faults around an error without a number, and around none: walked. -/
import Derived.Test.YtiioedgdhkndgaaDoorE8
import Derived.Test.YtiioedgdhkndgaaDoorLaw04b
namespace Go.Proofs.YtiioedgdhkndgaaDoor
open Go.RowKit Go.Sort Go.Extern.Stop Go.Stop Go.Extern

set_option maxHeartbeats 1000000 in
theorem In_iface (s : ByteArray) (p : Int) (t : TypeId) (u : Value) (w : World) :
    Calls Tryd.prog 15 #[.string s, .int .i64 p, .iface t u] w fun e w' => e = .returned (faultV w.heap.size) ∧ w' = w.alloc (.cells #[.string s, .int .i64 p, .iface t u] 105) := by
  go_enter Tryd.func15, Tryd.ntmps15
  go_wp2
  go_ret
  exact ⟨rfl, rfl⟩

set_option maxHeartbeats 1000000 in
theorem Error_nilF (w : World) : Calls Tryd.prog 19 #[.pointer none] w fun e w' => e = .returned (.string ⟨#[]⟩) ∧ w = w' := by
  go_enter Tryd.func19, Tryd.ntmps19
  go_wp2
  go_ret
  exact ⟨rfl, rfl⟩

set_option maxHeartbeats 1000000 in
theorem Unwrap_nilF (w : World) : Calls Tryd.prog 20 #[.pointer none] w fun e w' => e = .returned .nilIface ∧ w = w' := by
  go_enter Tryd.func20, Tryd.ntmps20
  go_wp2
  go_ret
  exact ⟨rfl, rfl⟩

set_option maxHeartbeats 4000000 in
set_option maxRecDepth 100000 in
theorem ErrorFS_any (g b : Nat) (s tx : ByteArray) (p : Int) (w : World) (h : Blk w g 105 [.string s, .int .i64 p, tipV b]) (hb : Blk w b 108 [.string tx]) (hp : In64 p) (hs : s.size ≤ 140737488355328) (hx : tx.size ≤ 140737488355328) (ht : TabT w) :
    Calls Tryd.prog 19 #[.pointer (some ⟨g, 0, none⟩)] w fun er w' => er = .returned (.string (faultS s p ++ ⟨#[58, 32]⟩ ++ tx)) ∧ Below w.heap.size w w' := by
  have hz := itoaS_size hp
  have HI := Lib.hid (fun W h => Itoa_any p hp W h)
  have HES := Lib.hid (fun W h => ErrorS_any b tx W h)
  have HBB := Lib.hid hb
  have HT := Lib.hid ht
  have HF : RowKit.Hid (faultS s p = s ++ ⟨#[32]⟩ ++ itoaS p) := Lib.hid rfl
  have c0 : w.cell? ⟨g, 0, none⟩ = some (.string s) := h.cell rfl
  have c1 : w.cell? ⟨g, 1, none⟩ = some (.int .i64 p) := h.cell rfl
  have c2 : w.cell? ⟨g, 2, none⟩ = some (tipV b) := h.cell rfl
  have hgl : g < w.heap.size := h.lt
  clear h hb ht hp
  generalize itoaS p = z at *
  have d1 : ¬ 9223372036854775807 < s.size + 1 := by omega
  have d2 : ¬ 9223372036854775807 < s.size + 1 + z.size := by omega
  go_enter Tryd.func19, Tryd.ntmps19
  go_upto_region 3 with (fail)
  have HTD := Lib.hid (HT.out.below (Below.drewN' (Below.refl _ _) 1))
  go_region_held3 (fun w' => w'.cell? ⟨g, 0, none⟩ = some (.string s) ∧ w'.cell? ⟨g, 1, none⟩ = some (.int .i64 p)) (first | go_keep | (simp only [hk]; go_keep))
    (first | (go_at_call 69; refine (HI.out w.drew HTD.out).mono ?_; rintro er w1 ⟨rfl, hb1⟩; have hk := fun o => hb1.cell (p := ⟨g, o, none⟩) hgl))
  have hb1' : Below w.heap.size w w1 := ⟨hb1.os, hb1.tape, hb1.output, hb1.size, hb1.block⟩
  have HB1 := Lib.hid hb1'
  have e2 : w1.cell? ⟨g, 2, none⟩ = some (tipV b) := by rw [hk]; exact c2
  have HBX := Lib.hid (HBB.out.below hb1' HBB.out.lt)
  clear hk hb1 hb1' c0 c1 c2 HI HTD HT
  have d3 : ¬ 9223372036854775807 < s.size + 1 + z.size + 2 := by omega
  have d4 : ¬ 9223372036854775807 < s.size + 1 + z.size + 2 + tx.size := by omega
  have mS := mErrorS
  go_wp2_with (first | (go_at_call 233; refine (HES.out _ HBX.out).mono ?_; rintro er w2 ⟨rfl, rfl⟩))
  go_ret
  exact ⟨by rw [HF.out]; rfl, HB1.out⟩

set_option maxHeartbeats 4000000 in
set_option maxRecDepth 100000 in
theorem CodeS_any (g b : Nat) (s : ByteArray) (p : Int) (w : World) (h : Blk w g 105 [.string s, .int .i64 p, tipV b]) (he : EtT w) :
    Calls Tryd.prog 12 #[faultV g] w fun er w' => er = .returned (.int .i64 3) ∧ Below w.heap.size w w' := by
  have hbw := (Below.refl w.heap.size w).alloc (Nat.le_refl _) (.cells #[.int .i64 0] 23)
  have HA := Lib.hid (AsES_any g b s p ⟨w.heap.size, 0, none⟩ _ (h.below hbw h.lt) (he.below hbw))
  have HB := Lib.hid hbw
  clear h he hbw
  go_enter Tryd.func12, Tryd.ntmps12
  go_wp2_with fail
  refine HA.out.mono ?_
  rintro er w3 ⟨rfl, hb⟩
  have HX := Lib.hid (HB.out.trans (hb.mono HB.out.size))
  clear hb HA HB
  go_wp2
  go_ret
  exact ⟨rfl, HX.out⟩

set_option maxHeartbeats 1000000 in
theorem AsF_nil (t : Addr) (w : World) : Calls Tryd.prog 67 #[.nilIface, .iface 110 (.pointer (some t))] w fun er w' => er = .returned (.bool false) ∧ w = w' := by
  go_enter Tryd.func67, Tryd.ntmps67
  go_wp2
  go_ret
  exact ⟨rfl, rfl⟩

set_option maxHeartbeats 1000000 in
set_option maxRecDepth 100000 in
theorem Deep_nil (w : World) : Calls Tryd.prog 22 #[.nilIface] w fun er w' => er = .returned (.int .i64 0) ∧ Below w.heap.size w w' := by
  go_enter Tryd.func22, Tryd.ntmps22
  go_wp2
  refine wp_loop_rounds 1 ?_
  rw [rounds_succ]
  go_wp2_with (first | (go_at_call 67; refine (AsF_nil _ _).mono ?_; rintro er w2 ⟨rfl, rfl⟩))
  go_ret
  exact ⟨rfl, (Below.refl _ _).alloc (Nat.le_refl _) _⟩

set_option maxHeartbeats 1000000 in
set_option maxRecDepth 100000 in
theorem Path_nil (w : World) : Calls Tryd.prog 23 #[.nilIface] w fun er w' => er = .returned (.string ⟨#[]⟩) ∧ Below w.heap.size w w' := by
  go_enter Tryd.func23, Tryd.ntmps23
  go_wp2
  refine wp_loop_rounds 1 ?_
  rw [rounds_succ]
  go_wp2_with (first | (go_at_call 67; refine (AsF_nil _ _).mono ?_; rintro er w2 ⟨rfl, rfl⟩) | (go_at_call 70; refine (Tryd.strings_Join_none _ _ _ _).mono ?_; rintro er w4 ⟨rfl, rfl⟩))
  go_ret
  exact ⟨rfl, (Below.refl _ _).alloc (Nat.le_refl _) _⟩

set_option maxHeartbeats 8000000 in
set_option maxRecDepth 100000 in
theorem DeepS_any (g b : Nat) (s : ByteArray) (p : Int) (w : World) (h : Blk w g 105 [.string s, .int .i64 p, tipV b]) (he : EtT w) :
    Calls Tryd.prog 22 #[faultV g] w fun er w' => er = .returned (.int .i64 1) ∧ Below w.heap.size w w' := by
  have HC := Lib.hid h
  have HE := Lib.hid he
  clear h he
  go_enter Tryd.func22, Tryd.ntmps22
  go_wp2
  go_loopg [0, 3] 2 (fun gg x i wr => ((gg = 2 ∧ x = faultV g ∧ i = .int .i64 0) ∨ (gg = 1 ∧ x = tipV b ∧ i = .int .i64 1)) ∧ EtT wr ∧ Below w.heap.size w wr)
  case atStart => exact ⟨.inl ⟨rfl, rfl, rfl⟩, HE.out, Below.refl _ _⟩
  case round =>
    obtain ⟨hor, het, hb⟩ := hrel
    have HB := Lib.hid hb
    have hbw := (Below.refl wr.heap.size wr).alloc (Nat.le_refl _) (.cells #[.pointer none] 33)
    have hb1 := hb.alloc hb.size (.cells #[.pointer none] 33)
    have HB1 := Lib.hid hb1
    have HT2 := Lib.hid het
    have HBK := Lib.hid (HC.out.below hb HC.out.lt)
    clear hb hb1
    rcases hor with ⟨hg, rfl, rfl⟩ | ⟨hg, rfl, rfl⟩
    · have HG := Lib.hid hg
      have HA := Lib.hid (AsF_hit g ⟨wr.heap.size, 0, none⟩ (.pointer none) _ (het.below hbw) (by simp) (by simp))
      clear hg het hbw
      go_wp2_with fail
      refine HA.out.mono ?_
      rintro er w3 ⟨rfl, W1, hb3, rfl⟩
      obtain ⟨h1, h2⟩ := as_step hb3 (.pointer (some ⟨g, 0, none⟩))
      have H1 := Lib.hid h1
      have x0 := h2.cell (i := 0) rfl
      have hK := HBK.out.below h1 HBK.out.lt
      have y2 := hK.cell (i := 2) rfl
      clear hb3 h1 h2 HA hK
      generalize W1.setCell ⟨wr.heap.size, 0, none⟩ (.pointer (some ⟨g, 0, none⟩)) = w4 at *
      go_wp2
      go_roundg 1
      case measure => rw [HG.out]; decide
      case rel => exact ⟨.inr ⟨rfl, rfl, rfl⟩, HT2.out.below H1.out, HB.out.trans (H1.out.mono HB.out.size)⟩
    · have HA := Lib.hid (AsS_miss b ⟨wr.heap.size, 0, none⟩ _ (het.below hbw))
      clear hg het hbw
      go_wp2_with fail
      refine HA.out.mono ?_
      rintro er w3 ⟨rfl, hb3⟩
      have HX := Lib.hid (HB1.out.trans (hb3.mono HB1.out.size))
      clear hb3 HA
      go_wp2
      go_ret
      exact ⟨rfl, HX.out⟩

end Go.Proofs.YtiioedgdhkndgaaDoor

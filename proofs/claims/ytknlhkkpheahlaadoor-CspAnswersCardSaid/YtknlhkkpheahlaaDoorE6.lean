/- fault.Code, Deep, Place over faults around a number, walked. -/
import Derived.Test.YtknlhkkpheahlaaDoorE5
import Derived.Deep.LoopGhost
namespace Go.Proofs.YtknlhkkpheahlaaDoor
open Go.RowKit Go.Sort Go.Extern.Stop Go.Stop Go.Extern

/-- What errors.As leaves in a variable that its caller has just made. -/
theorem as_step {w W1 : World} {T : TypeId} {v0 : Value} (hb : Below (w.alloc (.cells #[v0] T)).heap.size (w.alloc (.cells #[v0] T)) W1) (v : Value) :
    Below w.heap.size w (W1.setCell ⟨w.heap.size, 0, none⟩ v) ∧ Blk (W1.setCell ⟨w.heap.size, 0, none⟩ v) w.heap.size T [v] := by
  constructor
  · exact (((Below.refl _ _).alloc (Nat.le_refl _) _).trans (hb.mono (by simp))).setCell (p := ⟨w.heap.size, 0, none⟩) (Nat.le_refl _) _
  · exact ((Blk.new w T [v0]).below hb (by simp)).set_ 0 v

set_option maxHeartbeats 1000000 in
theorem Code_nil (w : World) : Calls Tryd.prog 10 #[.nilIface] w fun e w' => e = .returned (.int .i64 0) ∧ Below w.heap.size w w' := by
  go_enter Tryd.func10, Tryd.ntmps10
  go_wp2
  go_ret
  exact ⟨rfl, (Below.refl _ _).alloc (Nat.le_refl _) _⟩

set_option maxHeartbeats 4000000 in
set_option maxRecDepth 100000 in
theorem Code_any (B : Nat) (v : Value) (l : List (ByteArray × Int)) (e : Int) (w : World) (h : Chain B w v l e) (he : EtT w) :
    Calls Tryd.prog 10 #[v] w fun er w' => er = .returned (.int .i64 e) ∧ Below w.heap.size w w' := by
  have hbw := (Below.refl w.heap.size w).alloc (Nat.le_refl _) (.cells #[.int .i64 0] 25)
  have HA := Lib.hid (AsE_any B v l e ⟨w.heap.size, 0, none⟩ (.int .i64 0) _ (h.below hbw) (he.below hbw) (by simp) (by simp))
  obtain ⟨ti, ui, rfl⟩ := h.iface
  clear h he hbw
  go_enter Tryd.func10, Tryd.ntmps10
  go_wp2_with fail
  refine HA.out.mono ?_
  rintro er w3 ⟨rfl, W1, hb, rfl⟩
  obtain ⟨h1, h2⟩ := as_step hb (.int .i64 e)
  have H1 := Lib.hid h1
  have x0 := h2.cell (i := 0) rfl
  clear hb h1 h2 HA
  generalize W1.setCell ⟨w.heap.size, 0, none⟩ (.int .i64 e) = w4 at *
  go_wp2
  go_ret
  exact ⟨rfl, H1.out⟩

set_option maxHeartbeats 8000000 in
set_option maxRecDepth 100000 in
theorem Deep_any (B : Nat) (v : Value) (l : List (ByteArray × Int)) (e : Int) (w : World) (h : Chain B w v l e) (he : EtT w) (hl : l.length < 64) :
    Calls Tryd.prog 11 #[v] w fun er w' => er = .returned (.int .i64 l.length) ∧ Below w.heap.size w w' := by
  have HC := Lib.hid h
  have HE := Lib.hid he
  generalize hn : l.length = n at *
  have HN := Lib.hid hn
  clear h he hn
  go_enter Tryd.func11, Tryd.ntmps11
  go_wp2
  go_loopg [0, 3] (n + 1) (fun g x i wr => ∃ (k : Nat) (r : List (ByteArray × Int)) (y : Value), g = r.length + 1 ∧ k + r.length = n ∧ x = y ∧ i = .int .i64 k ∧ Chain B wr y r e ∧ EtT wr ∧ Below w.heap.size w wr)
  case atStart => exact ⟨0, l, v, by rw [HN.out], by rw [HN.out]; omega, rfl, rfl, HC.out, HE.out, Below.refl _ _⟩
  case round =>
    obtain ⟨k, r, y, hg, hkr, hy, rfl, hc, het, hb⟩ := hrel
    have HG := Lib.hid hg
    have HB := Lib.hid hb
    have q0 : (k : Int) < 64 := by omega
    have hbw := (Below.refl wr.heap.size wr).alloc (Nat.le_refl _) (.cells #[.pointer none] 75)
    have hb1 := hb.alloc hb.size (.cells #[.pointer none] 75)
    have HB1 := Lib.hid hb1
    clear hg hb hb1
    cases r with
    | nil =>
      rw [show y = errnoV e from hc] at hy
      subst hy
      have HA := Lib.hid (AsF_miss e ⟨wr.heap.size, 0, none⟩ _ (het.below hbw))
      have hkn : k = n := by simpa using hkr
      subst hkn
      clear hc het hbw hkr HC HE
      go_wp2_with fail
      refine HA.out.mono ?_
      rintro er w3 ⟨rfl, hb3⟩
      have HX := Lib.hid (HB1.out.trans (hb3.mono HB1.out.size))
      clear hb3 HA
      go_wp2
      go_ret
      exact ⟨rfl, HX.out⟩
    | cons a r =>
      obtain ⟨s, p⟩ := a
      obtain ⟨g, v', hv, hBg, hbk, hc⟩ := hc
      rw [hv] at hy
      subst hy hv
      have HA := Lib.hid (AsF_hit g ⟨wr.heap.size, 0, none⟩ (.pointer none) _ (het.below hbw) (by simp) (by simp))
      have HK := Lib.hid hbk
      have HC2 := Lib.hid hc
      have HT2 := Lib.hid het
      have HKR := Lib.hid hkr
      have q1 : (k : Int) + 1 ≤ 64 := by simp at hkr; omega
      clear hc het hbk hbw HC HE hkr
      go_wp2_with fail
      refine HA.out.mono ?_
      rintro er w3 ⟨rfl, W1, hb3, rfl⟩
      obtain ⟨h1, h2⟩ := as_step hb3 (.pointer (some ⟨g, 0, none⟩))
      have H1 := Lib.hid h1
      have x0 := h2.cell (i := 0) rfl
      have hK := HK.out.below h1 HK.out.lt
      have y2 := hK.cell (i := 2) rfl
      clear hb3 h1 h2 HA hK
      generalize W1.setCell ⟨wr.heap.size, 0, none⟩ (.pointer (some ⟨g, 0, none⟩)) = w4 at *
      go_wp2
      go_roundg (r.length + 1)
      case measure => rw [HG.out]; simp
      case rel => exact ⟨k + 1, r, v', rfl, by have := HKR.out; simp at this; omega, rfl, by go_num, HC2.out.below H1.out, HT2.out.below H1.out, HB.out.trans (H1.out.mono HB.out.size)⟩

theorem str_ne {a b : ByteArray} (h : ¬ a = b) : (a.toList == b.toList) = false := by
  rw [beq_eq_false_iff_ne, ByteArray.toList_eq, ByteArray.toList_eq]
  exact fun h' => h (ByteArray.ext (Array.toList_inj.mp h'))

/-- The place of the innermost one of that name: found so far, and behind. -/
def placeL (what : ByteArray) : List (ByteArray × Int) → Int × Bool → Int × Bool
  | [], r => r
  | (s, p) :: l, r => placeL what l (if s = what then (p, true) else r)

set_option maxHeartbeats 8000000 in
set_option maxRecDepth 100000 in
theorem Place_any (what : ByteArray) (B : Nat) (v : Value) (l : List (ByteArray × Int)) (e : Int) (w : World) (h : Chain B w v l e) (he : EtT w) (hl : l.length < 64) :
    Calls Tryd.prog 9 #[v, .string what] w fun er w' => er = .returned (.tuple #[.int .i64 (placeL what l (0, false)).1, .bool (placeL what l (0, false)).2]) ∧ Below w.heap.size w w' := by
  have HC := Lib.hid h
  have HE := Lib.hid he
  generalize hn : l.length = n at *
  have HN := Lib.hid hn
  generalize hpl : placeL what l (0, false) = pl at *
  have HPL := Lib.hid hpl
  clear h he hn hpl
  go_enter Tryd.func9, Tryd.ntmps9
  go_wp2
  go_loopg [0, 6, 7, 9] (n + 1) (fun g x at_ fd i wr => ∃ (k : Nat) (r : List (ByteArray × Int)) (y : Value) (f : Int × Bool), g = r.length + 1 ∧ k + r.length = n ∧ x = y ∧ i = .int .i64 k ∧ at_ = .int .i64 f.1 ∧ fd = .bool f.2 ∧ placeL what r f = pl ∧ Chain B wr y r e ∧ EtT wr ∧ Below w.heap.size w wr)
  case atStart => exact ⟨0, l, v, (0, false), by rw [HN.out], by rw [HN.out]; omega, rfl, rfl, rfl, rfl, HPL.out, HC.out, HE.out, Below.refl _ _⟩
  case round =>
    obtain ⟨k, r, y, f, hg, hkr, hy, rfl, rfl, rfl, hpf, hc, het, hb⟩ := hrel
    have HG := Lib.hid hg
    have HB := Lib.hid hb
    have HPF := Lib.hid hpf
    have q0 : (k : Int) < 64 := by omega
    have hbw := (Below.refl wr.heap.size wr).alloc (Nat.le_refl _) (.cells #[.pointer none] 75)
    have hb1 := hb.alloc hb.size (.cells #[.pointer none] 75)
    have HB1 := Lib.hid hb1
    clear hg hb hb1 hpf
    cases r with
    | nil =>
      rw [show y = errnoV e from hc] at hy
      subst hy
      have HA := Lib.hid (AsF_miss e ⟨wr.heap.size, 0, none⟩ _ (het.below hbw))
      have HF := Lib.hid (show f = pl from HPF.out)
      clear hc het hbw hkr HC HE HPF
      go_wp2_with fail
      refine HA.out.mono ?_
      rintro er w3 ⟨rfl, hb3⟩
      have HX := Lib.hid (HB1.out.trans (hb3.mono HB1.out.size))
      clear hb3 HA
      go_wp2
      go_ret2
      exact ⟨by rw [HF.out]; rfl, HX.out⟩
    | cons a r =>
      obtain ⟨s, p⟩ := a
      obtain ⟨g, v', hv, hBg, hbk, hc⟩ := hc
      rw [hv] at hy
      subst hy hv
      have HA := Lib.hid (AsF_hit g ⟨wr.heap.size, 0, none⟩ (.pointer none) _ (het.below hbw) (by simp) (by simp))
      have HK := Lib.hid hbk
      have HC2 := Lib.hid hc
      have HT2 := Lib.hid het
      have HKR := Lib.hid hkr
      have q1 : (k : Int) + 1 ≤ 64 := by simp at hkr; omega
      clear hc het hbk hbw HC HE hkr
      by_cases hsw : s = what
      case' pos =>
        have HS := Lib.hid hsw
        subst hsw
        have HF := Lib.hid (show placeL s r (p, true) = pl by have := HPF.out; rw [placeL, if_pos rfl] at this; exact this)
      case' neg =>
        have HF := Lib.hid (show placeL what r f = pl by have := HPF.out; rw [placeL, if_neg hsw] at this; exact this)
        have b1 := str_ne hsw
        have HS := Lib.hid hsw
        clear hsw
      all_goals
        go_wp2_with fail
        refine HA.out.mono ?_
        rintro er w3 ⟨rfl, W1, hb3, rfl⟩
        obtain ⟨h1, h2⟩ := as_step hb3 (.pointer (some ⟨g, 0, none⟩))
        have H1 := Lib.hid h1
        have x0 := h2.cell (i := 0) rfl
        have hK := HK.out.below h1 HK.out.lt
        have y0 := hK.cell (i := 0) rfl
        have y1 := hK.cell (i := 1) rfl
        have y2 := hK.cell (i := 2) rfl
        clear hb3 h1 h2 HA hK
        generalize W1.setCell ⟨wr.heap.size, 0, none⟩ (.pointer (some ⟨g, 0, none⟩)) = w4 at *
        go_wp2
        go_roundg (r.length + 1)
        case measure => rw [HG.out]; simp
        case rel => exact ⟨k + 1, r, v', _, rfl, by have := HKR.out; simp at this; omega, rfl, by go_num, rfl, rfl, HF.out, HC2.out.below H1.out, HT2.out.below H1.out, HB.out.trans (H1.out.mono HB.out.size)⟩

end Go.Proofs.YtknlhkkpheahlaaDoor

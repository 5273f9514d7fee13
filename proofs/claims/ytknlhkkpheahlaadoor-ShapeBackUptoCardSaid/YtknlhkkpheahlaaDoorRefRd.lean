/- The names of nodes: ref.Word, Read, and the document's Read, walked. -/
import Derived.Test.YtknlhkkpheahlaaDoorCsp1
import Derived.IntWalk
import Derived.BigQuiet
import Derived.OwnWalk
namespace Go.Proofs.YtknlhkkpheahlaaDoor
open Go.RowKit Go.Sort

structure Rf where
  (index tag : Int)
abbrev rfV (r : Rf) : Value := .agg #[.int .i64 r.index, .int .i64 r.tag]

def refGood (a b : Int) : Bool := decide (0 ≤ a) && decide (a ≤ 65534) && decide (1 ≤ b) && decide (b ≤ 4294967295)

set_option maxHeartbeats 4000000 in
set_option maxRecDepth 100000 in
theorem rfGood_any (a b : Int) (w : World) :
    Calls Tryd.prog 121 #[.agg #[.int .i64 a, .int .i64 b]] w fun e w' => e = .returned (.bool (refGood a b)) ∧ Below w.heap.size w w' := by
  have HG : RowKit.Hid (refGood a b = (decide (0 ≤ a) && decide (a ≤ 65534) && decide (1 ≤ b) && decide (b ≤ 4294967295))) := Lib.hid rfl
  generalize refGood a b = g at *
  rcases (show (a < 0) ∨ (0 ≤ a ∧ 65534 < a) ∨ (0 ≤ a ∧ a ≤ 65534 ∧ b < 1) ∨ (0 ≤ a ∧ a ≤ 65534 ∧ 1 ≤ b ∧ 4294967295 < b) ∨ (0 ≤ a ∧ a ≤ 65534 ∧ 1 ≤ b ∧ b ≤ 4294967295) by omega) with h1 | ⟨h1, h2⟩ | ⟨h1, h2, h3⟩ | ⟨h1, h2, h3, h4⟩ | ⟨h1, h2, h3, h4⟩
  case' inl => have HH := Lib.hid (show g = false by rw [HG.out]; simp; omega)
  case' inr.inl => have HH := Lib.hid (show g = false by rw [HG.out]; simp; omega)
  case' inr.inr.inl => have HH := Lib.hid (show g = false by rw [HG.out]; simp; omega)
  case' inr.inr.inr.inl => have HH := Lib.hid (show g = false by rw [HG.out]; simp; omega)
  case' inr.inr.inr.inr => have HH := Lib.hid (show g = true by rw [HG.out]; simp; omega)
  all_goals
    go_enter Tryd.func121, Tryd.ntmps121
    go_wp2
    go_ret
    refine ⟨ret_bool ?_, (Below.refl _ _).alloc (Nat.le_refl _) _⟩
    first | exact HH.out.symm | (rw [HH.out]; simp; done) | (rw [HH.out]; simp; omega)

theorem or16 {a b : Int} (h1 : 0 ≤ a) (h2 : a ≤ 65534) (h3 : 0 ≤ b) (h4 : b ≤ 4294967295) : bits BinOp.or IntKind.u64 (b * 65536) (a + 1) = b * 65536 + (a + 1) := by
  have e1 : b * 65536 = ((b.toNat * 65536 : Nat) : Int) := by omega
  have e2 : a + 1 = (((a + 1).toNat : Nat) : Int) := by omega
  rw [e1, e2, bits_or_u64_nat _ _ (by omega) (by omega)]
  have h5 : (a + 1).toNat < 2 ^ 16 := by omega
  rw [show b.toNat * 65536 = b.toNat <<< 16 by rw [Nat.shiftLeft_eq], ← Nat.shiftLeft_add_eq_or_of_lt h5]
  rw [Nat.shiftLeft_eq]; omega

def refWord (a b : Int) : Int := if refGood a b = true then b * 65536 + (a + 1) else 0

set_option maxHeartbeats 4000000 in
set_option maxRecDepth 100000 in
theorem rfWord_any (a b : Int) (w : World) :
    Calls Tryd.prog 103 #[.agg #[.int .i64 a, .int .i64 b]] w fun e w' => e = .returned (.int .u64 (refWord a b)) ∧ Below w.heap.size w w' := by
  have HG := Lib.hid (rfGood_any a b (w.alloc (.cells #[.int .i64 a, .int .i64 b] 48)))
  have HX := Lib.hid (Blk.new w 48 [.int .i64 a, .int .i64 b])
  have HV : RowKit.Hid (refWord a b = if refGood a b = true then b * 65536 + (a + 1) else 0) := Lib.hid rfl
  cases hg : refGood a b
  · rw [hg] at HG HV
    go_enter Tryd.func103, Tryd.ntmps103
    go_wp2_with (go_at_call 121; refine HG.out.mono ?_; rintro e w1 ⟨rfl, hb1⟩)
    go_ret
    exact ⟨ret_int (by rw [HV.out]; rfl), ((Below.refl _ _).alloc (Nat.le_refl _) _).trans (hb1.mono (by simp))⟩
  · rw [hg] at HG HV
    have hg' := hg
    simp only [refGood, Bool.and_eq_true, decide_eq_true_eq] at hg'
    obtain ⟨⟨⟨h1, h2⟩, h3⟩, h4⟩ := hg'
    clear hg
    go_enter Tryd.func103, Tryd.ntmps103
    go_wp2_with (go_at_call 121; refine HG.out.mono ?_; rintro e w1 ⟨rfl, hb1⟩; have y0 := (HX.out.below hb1 HX.out.lt).cell (i := 0) rfl; have y1 := (HX.out.below hb1 HX.out.lt).cell (i := 1) rfl)
    rw [or16 h1 h2 (Int.le_trans (by decide) h3) h4]
    go_ret
    exact ⟨ret_int (by rw [HV.out]; rfl), ((Below.refl _ _).alloc (Nat.le_refl _) _).trans (hb1.mono (by simp))⟩

/-- What a word names. -/
def rdOk (u : Nat) : Bool := decide (1 ≤ u % 65536) && decide (1 ≤ u / 65536) && decide (u / 65536 ≤ 4294967295)
def rdOf (u : Nat) : Rf := if rdOk u = true then ⟨(u % 65536 : Int) - 1, u / 65536⟩ else ⟨0, 0⟩

theorem rd_word (u : Nat) : (refWord ((u : Int) % 65536 - 1) ((u : Int) / 65536 % 4294967296) = u ∧ u ≠ 0) ↔ rdOk u = true := by
  unfold refWord refGood rdOk
  simp only [Bool.and_eq_true, decide_eq_true_eq]
  constructor
  · rintro ⟨h1, h2⟩
    split at h1 <;> omega
  · rintro ⟨⟨h1, h2⟩, h3⟩
    rw [if_pos (by omega)]
    omega

theorem ret_cell2 {fn : Func} {p u : Tmp} {ty : TypeId} (h : fn.results = #[.cell p ty, .tmp u]) {tmps : Array Value} {w : World} {g : Nat} {v x : Value} (ht : tmps.getD p undef = .pointer (some ⟨g, 0, none⟩)) (hu : tmps.getD u undef = x) (hl : (loadVar ty ⟨g, 0, none⟩).run Tryd.prog w = .ok v w) :
    (results fn tmps).run Tryd.prog w = .ok (.tuple #[v, x]) w := by
  have e1 : (results fn tmps).run Tryd.prog w = ((asAddr (tmps.getD p undef)).run Tryd.prog w).andThen fun a w₁ => ((loadVar ty a).run Tryd.prog w₁).andThen fun v w₂ => .ok (.tuple #[v, tmps.getD u undef]) w₂ := by
    simp only [results, h]
    simp
  rw [e1, ht, hu]
  have ha : (asAddr (.pointer (some ⟨g, 0, none⟩))).run Tryd.prog w = .ok ⟨g, 0, none⟩ w := by simp [asAddr, go_sem]
  rw [ha, Result.andThen_ok, hl, Result.andThen_ok]

theorem rf_load {w : World} {g : Nat} {r : Rf} (h : Blk w g 48 [.int .i64 r.index, .int .i64 r.tag]) : (loadVar 48 ⟨g, 0, none⟩).run Tryd.prog w = .ok (rfV r) w :=
  run_loadVar_row (P := Tryd.prog) w g 48 48 _ (0, 0) _ h Tryd.underlying48 rfl (by kernel_rfl)

theorem and16 (u : Nat) (h : u < 18446744073709551616) : bits BinOp.and IntKind.u64 (u : Int) 65535 = (u : Int) % 65536 := by
  have h1 := bits_and_u64_nat u 65535 h (by decide)
  have h2 : u &&& 65535 = u % 65536 := by
    have := Nat.and_two_pow_sub_one_eq_mod u 16
    simpa using this
  rw [h2] at h1
  exact h1.trans (by omega)
theorem and32 (u : Nat) (h : u < 18446744073709551616) : bits BinOp.and IntKind.u64 (u : Int) 4294967295 = (u : Int) % 4294967296 := by
  have h1 := bits_and_u64_nat u 4294967295 h (by decide)
  have h2 : u &&& 4294967295 = u % 4294967296 := by
    have := Nat.and_two_pow_sub_one_eq_mod u 32
    simpa using this
  rw [h2] at h1
  exact h1.trans (by omega)

set_option maxHeartbeats 4000000 in
set_option maxRecDepth 100000 in
theorem Read_any (u : Nat) (hu : u < 18446744073709551616) (w : World) :
    Calls Tryd.prog 80 #[.int .u64 u] w fun e w' => e = .returned (.tuple #[rfV (rdOf u), .bool (rdOk u)]) ∧ Below w.heap.size w w' := by
  have f1 := and16 u hu
  have f2 := and32 (u / 65536) (by omega)
  rw [show ((u / 65536 : Nat) : Int) = (u : Int) / 65536 by omega] at f2
  have HR := Lib.hid (rd_word u)
  have HO : RowKit.Hid (rdOf u = if rdOk u = true then ⟨(u % 65536 : Int) - 1, u / 65536⟩ else ⟨0, 0⟩) := Lib.hid rfl
  have HX : RowKit.Hid (rdOk u = true → (u : Int) / 65536 % 4294967296 = (u : Int) / 65536) := Lib.hid (by unfold rdOk; simp only [Bool.and_eq_true, decide_eq_true_eq]; omega)
  have p1 : 0 ≤ (u : Int) % 65536 := by omega
  have p2 : (u : Int) % 65536 < 65536 := by omega
  have p3 : 0 ≤ (u : Int) / 65536 % 4294967296 := by omega
  have p4 : (u : Int) / 65536 % 4294967296 < 4294967296 := by omega
  generalize hx : (u : Int) % 65536 = x at *
  generalize hy : (u : Int) / 65536 % 4294967296 = y at *
  have HW := Lib.hid (fun W => rfWord_any (x - 1) y W)
  generalize hrw : refWord (x - 1) y = rw_ at *
  have HB0 := Lib.hid (((Below.refl w.heap.size w).alloc (Nat.le_refl _) (.cells #[.int .i64 0, .int .i64 0] 48)).alloc (by simp) (.cells #[.int .i64 (x - 1), .int .i64 y] 48))
  have HBX := Lib.hid (show Blk ((w.alloc (.cells #[.int .i64 0, .int .i64 0] 48)).alloc (.cells #[.int .i64 (x - 1), .int .i64 y] 48)) w.heap.size 48 [.int .i64 0, .int .i64 0] from (Blk.new w _ _).alloc _)
  have HBY := Lib.hid (show Blk ((w.alloc (.cells #[.int .i64 0, .int .i64 0] 48)).alloc (.cells #[.int .i64 (x - 1), .int .i64 y] 48)) (w.heap.size + 1) 48 [.int .i64 (x - 1), .int .i64 y] from blk_new (by simp))
  cases hok : rdOk u
  case' true =>
    rw [hok] at HR HO HX
    have hr := HR.out.2 rfl
    obtain ⟨hr1, hr2⟩ := hr
    have b1 : (rw_ != (u : Int)) = false := by rw [hr1]; simp
    have b2 : ((u : Int) == 0) = false := by simp; omega
    have HV := Lib.hid (show rfV (rdOf u) = .agg #[.int .i64 (x - 1), .int .i64 y] by rw [HO.out, if_pos rfl, HX.out rfl])
  case' false =>
    rw [hok] at HR HO HX
    have hr := fun h => (HR.out.1 h)
    have HV := Lib.hid (show rfV (rdOf u) = .agg #[.int .i64 0, .int .i64 0] by rw [HO.out]; rfl)
    have HQ := Lib.hid (show (rw_ != (u : Int)) = true ∨ ((rw_ != (u : Int)) = false ∧ ((u : Int) == 0) = true) by
      by_cases hc : rw_ = (u : Int)
      · right; refine ⟨by simp [hc], ?_⟩
        by_cases hz : u = 0
        · simp [hz]
        · exact absurd (hr ⟨hc, hz⟩) (by decide)
      · left; simpa using hc)
  case true =>
    clear hr1 hr2 hok hx hy hrw
    go_enter Tryd.func80, Tryd.ntmps80
    go_wp2_with fail
    refine (HW.out _).mono ?_
    rintro e w1 ⟨rfl, hb1⟩
    have HB1 := Lib.hid (HB0.out.trans (hb1.mono HB0.out.size))
    have HX1 := Lib.hid (HBX.out.below hb1 HBX.out.lt)
    have HY1 := Lib.hid (HBY.out.below hb1 HBY.out.lt)
    have y0 := HY1.out.cell (i := 0) rfl
    have y1 := HY1.out.cell (i := 1) rfl
    have x0 := HX1.out.frozen 0
    have x1 := HX1.out.frozen 1
    have z0 := HX1.out.cell (i := 0) rfl
    have z1 := HX1.out.cell (i := 1) rfl
    clear hb1
    go_wp2
    have hl : Blk ((w1.setCell ⟨w.heap.size, 0, none⟩ (.int .i64 (x - 1))).setCell ⟨w.heap.size, 1, none⟩ (.int .i64 y)) w.heap.size 48 [.int .i64 (x - 1), .int .i64 y] := (HX1.out.set_ 0 (.int .i64 (x - 1))).set_ 1 (.int .i64 y)
    refine bodyPost_ret (v := .tuple #[.agg #[.int .i64 (x - 1), .int .i64 y], .bool true]) (ret_cell2 (g := w.heap.size) (v := .agg #[.int .i64 (x - 1), .int .i64 y]) rfl rfl rfl (rf_load (r := ⟨x - 1, y⟩) hl)) rfl ⟨?_, ?_⟩
    · rw [HV.out]
    · exact (HB1.out.setCell (p := ⟨w.heap.size, 0, none⟩) (Nat.le_refl _) _).setCell (p := ⟨w.heap.size, 1, none⟩) (Nat.le_refl _) _
  case false =>
    clear hr hok hx hy hrw
    rcases HQ.out with b1 | ⟨b1, b2⟩
    all_goals
      go_enter Tryd.func80, Tryd.ntmps80
      go_wp2_with fail
      refine (HW.out _).mono ?_
      rintro e w1 ⟨rfl, hb1⟩
      have HB1 := Lib.hid (HB0.out.trans (hb1.mono HB0.out.size))
      have HX1 := Lib.hid (HBX.out.below hb1 HBX.out.lt)
      have HY1 := Lib.hid (HBY.out.below hb1 HBY.out.lt)
      have y0 := HY1.out.cell (i := 0) rfl
      have y1 := HY1.out.cell (i := 1) rfl
      have x0 := HX1.out.frozen 0
      have x1 := HX1.out.frozen 1
      have z0 := HX1.out.cell (i := 0) rfl
      have z1 := HX1.out.cell (i := 1) rfl
      clear hb1
      go_wp2
      have hl : Blk ((w1.setCell ⟨w.heap.size, 0, none⟩ (.int .i64 0)).setCell ⟨w.heap.size, 1, none⟩ (.int .i64 0)) w.heap.size 48 [.int .i64 0, .int .i64 0] := (HX1.out.set_ 0 (.int .i64 0)).set_ 1 (.int .i64 0)
      refine bodyPost_ret (v := .tuple #[.agg #[.int .i64 0, .int .i64 0], .bool false]) (ret_cell2 (g := w.heap.size) (v := .agg #[.int .i64 0, .int .i64 0]) rfl rfl rfl (rf_load (r := ⟨0, 0⟩) hl)) rfl ⟨?_, ?_⟩
      · rw [HV.out]
      · exact (HB1.out.setCell (p := ⟨w.heap.size, 0, none⟩) (Nat.le_refl _) _).setCell (p := ⟨w.heap.size, 1, none⟩) (Nat.le_refl _) _

set_option maxHeartbeats 4000000 in
set_option maxRecDepth 100000 in
theorem rRead_any (u : Nat) (hu : u < 18446744073709551616) (w : World) :
    Calls Tryd.prog 84 #[.int .u64 u] w fun e w' => e = .returned (.tuple #[rfV (rdOf u), .bool (rdOk u)]) ∧ Below w.heap.size w w' := by
  have HO : RowKit.Hid (rdOf u = if rdOk u = true then ⟨(u % 65536 : Int) - 1, u / 65536⟩ else ⟨0, 0⟩) := Lib.hid rfl
  have HK : RowKit.Hid (rdOk u = true ↔ 1 ≤ u % 65536 ∧ 1 ≤ u / 65536 ∧ u / 65536 ≤ 4294967295) := Lib.hid (by unfold rdOk; simp only [Bool.and_eq_true, decide_eq_true_eq, and_assoc])
  have hqx : (0 : Int) ≤ (u : Int) % 65536 ∧ (u : Int) % 65536 < 65536 := by omega
  have hqy : (0 : Int) ≤ (u : Int) / 65536 ∧ (u : Int) / 65536 < 281474976710656 := by omega
  have e1 : ((u % 65536 : Nat) : Int) = (u : Int) % 65536 := by omega
  have e2 : ((u / 65536 : Nat) : Int) = (u : Int) / 65536 := by omega
  cases hok : rdOk u
  case' true =>
    rw [hok] at HO HK
    have hr := HK.out.1 rfl
    obtain ⟨r1, r2, r3⟩ := hr
    obtain ⟨p1, p2⟩ := hqx
    obtain ⟨p3, p4⟩ := hqy
    have b1 : ((u : Int) % 65536 == 0) = false := by simp; omega
    have b2 : ((u : Int) / 65536 == 0) = false := by simp; omega
    have b3 : ¬ 4294967295 < (u : Int) / 65536 := by omega
    have HV := Lib.hid (show rfV (rdOf u) = .agg #[.int .i64 ((u : Int) % 65536 - 1), .int .i64 ((u : Int) / 65536)] by rw [HO.out, if_pos rfl])
  case' false =>
    rw [hok] at HO HK
    have HV := Lib.hid (show rfV (rdOf u) = .agg #[.int .i64 0, .int .i64 0] by rw [HO.out]; rfl)
    have HQ := Lib.hid (show ((u : Int) % 65536 == 0) = true ∨ (((u : Int) % 65536 == 0) = false ∧ ((u : Int) / 65536 == 0) = true) ∨ (((u : Int) % 65536 == 0) = false ∧ ((u : Int) / 65536 == 0) = false ∧ 4294967295 < (u : Int) / 65536) by
      by_cases h1 : (u : Int) % 65536 = 0
      · left; simp [h1]
      · by_cases h2 : (u : Int) / 65536 = 0
        · right; left; exact ⟨by simpa using h1, by simp [h2]⟩
        · right; right; refine ⟨by simpa using h1, by simpa using h2, ?_⟩
          by_cases h3 : (u : Int) / 65536 ≤ 4294967295
          · exact absurd (HK.out.2 ⟨by omega, by omega, by omega⟩) (by decide)
          · omega)
    obtain ⟨p1, p2⟩ := hqx
    obtain ⟨p3, p4⟩ := hqy
  case true =>
    clear hok e1 e2 r1 r2 r3
    go_enter Tryd.func84, Tryd.ntmps84
    go_wp2
    refine bodyPost_ret (v := .tuple #[.agg #[.int .i64 ((u : Int) % 65536 - 1), .int .i64 ((u : Int) / 65536)], .bool true]) (ret_cell2 (g := w.heap.size) (v := .agg #[.int .i64 ((u : Int) % 65536 - 1), .int .i64 ((u : Int) / 65536)]) rfl rfl rfl (rf_load (r := ⟨(u : Int) % 65536 - 1, (u : Int) / 65536⟩) (Blk.new w 48 [.int .i64 ((u : Int) % 65536 - 1), .int .i64 ((u : Int) / 65536)]))) rfl ⟨?_, ?_⟩
    · rw [HV.out]
    · exact (Below.refl _ _).alloc (Nat.le_refl _) _
  case false =>
    clear hok e1 e2
    rcases HQ.out with b1 | ⟨b1, b2⟩ | ⟨b1, b2, b3⟩
    all_goals
      go_enter Tryd.func84, Tryd.ntmps84
      go_wp2
      refine bodyPost_ret (v := .tuple #[.agg #[.int .i64 0, .int .i64 0], .bool false]) (ret_cell2 (g := w.heap.size) (v := .agg #[.int .i64 0, .int .i64 0]) rfl rfl rfl (rf_load (r := ⟨0, 0⟩) (Blk.new w 48 [.int .i64 0, .int .i64 0]))) rfl ⟨?_, ?_⟩
      · rw [HV.out]
      · exact (Below.refl _ _).alloc (Nat.le_refl _) _

end Go.Proofs.YtknlhkkpheahlaaDoor

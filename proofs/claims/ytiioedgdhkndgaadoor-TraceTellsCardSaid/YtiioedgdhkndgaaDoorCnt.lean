/- Counts of accesses: trace.Count and the document's Count, walked. -/
import Derived.Test.YtiioedgdhkndgaaDoorLine
namespace Go.Proofs.YtiioedgdhkndgaaDoor
open Go.RowKit Go.Sort

/-- Loads, stores, swaps, swaps in vain, adds. -/
def cnt (p : Acc → Bool) (l : List Acc) : Nat := (l.filter p).length
def cLoad (a : Acc) : Bool := a.kind == 1
def cStore (a : Acc) : Bool := a.kind == 2
def cSwap (a : Acc) : Bool := a.kind == 3
def cVain (a : Acc) : Bool := a.kind == 3 && !a.ok
def cAdd (a : Acc) : Bool := a.kind == 4

theorem cnt_le (p : Acc → Bool) (l : List Acc) : cnt p l ≤ l.length := List.length_filter_le _ _
theorem cnt_snoc (p : Acc → Bool) (l : List Acc) (x : Acc) : cnt p (l ++ [x]) = cnt p l + (if p x then 1 else 0) := by
  unfold cnt; rw [List.filter_append, List.length_append]
  cases h : p x <;> simp [h]
theorem takeB {l : List Acc} {k : Nat} (hk : k < l.length) {x : Acc} (hx : l.getD k Acc.none = x) : l.take (k + 1) = l.take k ++ [x] := by
  rw [List.take_succ_eq_append_getElem hk]
  simp only [List.getD, List.getElem?_eq_getElem hk, Option.getD_some] at hx
  rw [hx]

def cC (n0 n1 n2 n3 n4 : Nat) : List Value := [.int .i64 n0, .int .i64 n1, .int .i64 n2, .int .i64 n3, .int .i64 n4]
theorem cBox {w : World} {g : Nat} {t : TypeId} {n0 n1 n2 n3 n4 : Nat} (h : Blk w g t (cC n0 n1 n2 n3 n4)) :
    w.cell? ⟨g, 0, none⟩ = some (.int .i64 n0) ∧ w.cell? ⟨g, 1, none⟩ = some (.int .i64 n1) ∧ w.cell? ⟨g, 2, none⟩ = some (.int .i64 n2) ∧ w.cell? ⟨g, 3, none⟩ = some (.int .i64 n3) ∧ w.cell? ⟨g, 4, none⟩ = some (.int .i64 n4) :=
  ⟨h.cell rfl, h.cell rfl, h.cell rfl, h.cell rfl, h.cell rfl⟩
abbrev cV (n0 n1 n2 n3 n4 : Nat) : Value := .agg #[.int .i64 n0, .int .i64 n1, .int .i64 n2, .int .i64 n3, .int .i64 n4]

/-- The counts of all. -/
def cntV (l : List Acc) : Value := cV (cnt cLoad l) (cnt cStore l) (cnt cSwap l) (cnt cVain l) (cnt cAdd l)

theorem blk_cast {w : World} {g : Nat} {t : TypeId} {cs cs' : List Value} (h : Blk w g t cs) (e : cs = cs') : Blk w g t cs' := e ▸ h
theorem c_put {w : World} {g : Nat} {t : TypeId} {n0 n1 n2 n3 n4 : Nat} (h : Blk w g t (cC 0 0 0 0 0)) :
    Blk (((((w.setCell ⟨g, 0, none⟩ (.int .i64 n0)).setCell ⟨g, 1, none⟩ (.int .i64 n1)).setCell ⟨g, 2, none⟩ (.int .i64 n2)).setCell ⟨g, 3, none⟩ (.int .i64 n3)).setCell ⟨g, 4, none⟩ (.int .i64 n4)) g t (cC n0 n1 n2 n3 n4) ∧
    ∀ B, B ≤ g → Below B w (((((w.setCell ⟨g, 0, none⟩ (.int .i64 n0)).setCell ⟨g, 1, none⟩ (.int .i64 n1)).setCell ⟨g, 2, none⟩ (.int .i64 n2)).setCell ⟨g, 3, none⟩ (.int .i64 n3)).setCell ⟨g, 4, none⟩ (.int .i64 n4)) :=
  ⟨((((h.set_ 0 _).set_ 1 _).set_ 2 _).set_ 3 _).set_ 4 _,
   fun B hB => (((((Below.refl B w).setCell (p := ⟨g, 0, none⟩) hB _).setCell (p := ⟨g, 1, none⟩) hB _).setCell (p := ⟨g, 2, none⟩) hB _).setCell (p := ⟨g, 3, none⟩) hB _).setCell (p := ⟨g, 4, none⟩) hB _⟩

theorem cnt_kinds6 (l : List Acc) (xt xk xa xw xo xn : Int) (xok : Bool) : cnt cLoad (l ++ [⟨xt, xk, xa, xw, xo, xn, xok⟩]) = cnt cLoad l + (if xk == 1 then 1 else 0) ∧ cnt cStore (l ++ [⟨xt, xk, xa, xw, xo, xn, xok⟩]) = cnt cStore l + (if xk == 2 then 1 else 0) ∧ cnt cSwap (l ++ [⟨xt, xk, xa, xw, xo, xn, xok⟩]) = cnt cSwap l + (if xk == 3 then 1 else 0) ∧ cnt cVain (l ++ [⟨xt, xk, xa, xw, xo, xn, xok⟩]) = cnt cVain l + (if xk == 3 && !xok then 1 else 0) ∧ cnt cAdd (l ++ [⟨xt, xk, xa, xw, xo, xn, xok⟩]) = cnt cAdd l + (if xk == 4 then 1 else 0) :=
  ⟨cnt_snoc _ _ _, cnt_snoc _ _ _, cnt_snoc _ _ _, cnt_snoc _ _ _, cnt_snoc _ _ _⟩
theorem kind_ways6 (k : Int) (ok : Bool) : ((k == 1) = true ∧ (k == 2) = false ∧ (k == 3) = false ∧ (k == 4) = false) ∨ ((k == 1) = false ∧ (k == 2) = true ∧ (k == 3) = false ∧ (k == 4) = false) ∨ ((k == 1) = false ∧ (k == 2) = false ∧ (k == 3) = true ∧ (k == 4) = false ∧ ok = true) ∨ ((k == 1) = false ∧ (k == 2) = false ∧ (k == 3) = true ∧ (k == 4) = false ∧ ok = false) ∨ ((k == 1) = false ∧ (k == 2) = false ∧ (k == 3) = false ∧ (k == 4) = true) ∨ ((k == 1) = false ∧ (k == 2) = false ∧ (k == 3) = false ∧ (k == 4) = false) := by
  simp only [beq_iff_eq, beq_eq_false_iff_ne]
  cases ok <;> simp <;> omega

theorem ret_cellC {fn : Func} {p : Tmp} {ty : TypeId} (h : fn.results = #[.cell p ty]) {tmps : Array Value} {w : World} {g : Nat} {v : Value} (ht : tmps.getD p undef = .pointer (some ⟨g, 0, none⟩)) (hl : (loadVar ty ⟨g, 0, none⟩).run Tryd.prog w = .ok v w) :
    (results fn tmps).run Tryd.prog w = .ok v w := by
  have e1 : (results fn tmps).run Tryd.prog w = ((asAddr (tmps.getD p undef)).run Tryd.prog w).andThen fun a w₁ => (loadVar ty a).run Tryd.prog w₁ := by
    simp only [results, h]
    simp
  rw [e1, ht]
  have ha : (asAddr (.pointer (some ⟨g, 0, none⟩))).run Tryd.prog w = .ok ⟨g, 0, none⟩ w := by simp [asAddr, go_sem]
  rw [ha, Result.andThen_ok]
  exact hl

theorem count_load {w : World} {g : Nat} {n0 n1 n2 n3 n4 : Nat} (h : Blk w g 86 (cC n0 n1 n2 n3 n4)) : (loadVar 86 ⟨g, 0, none⟩).run Tryd.prog w = .ok (cV n0 n1 n2 n3 n4) w :=
  run_loadVar_row (P := Tryd.prog) w g 86 86 _ (0, 0) _ h Tryd.underlying86 rfl (by kernel_rfl)

set_option maxHeartbeats 8000000 in
set_option maxRecDepth 100000 in
theorem Count_any (B : Option Addr) (c : Nat) (l : List Acc) (w : World) (hl : l.length ≤ 4398046511104) (hR : Rd w B (accs l)) :
    Calls Tryd.prog 48 #[.slice B l.length c] w fun e w' => e = .returned (cntV l) ∧ Below w.heap.size w w' := by
  have HR := Lib.hid hR
  have HCV : RowKit.Hid (cntV l = cV (cnt cLoad l) (cnt cStore l) (cnt cSwap l) (cnt cVain l) (cnt cAdd l)) := Lib.hid rfl
  generalize hn : l.length = n at *
  have HN := Lib.hid hn
  clear hR hn
  have HB2 := Lib.hid (((Below.refl w.heap.size w).alloc (Nat.le_refl _) (.cells (cC 0 0 0 0 0).toArray 86)).alloc (by simp) (.cells (cC 0 0 0 0 0).toArray 86))
  have HR2 := Lib.hid (show Blk ((w.alloc (.cells (cC 0 0 0 0 0).toArray 86)).alloc (.cells (cC 0 0 0 0 0).toArray 86)) w.heap.size 86 (cC 0 0 0 0 0) from (Blk.new w 86 (cC 0 0 0 0 0)).alloc _)
  have HR3 := Lib.hid (show Blk ((w.alloc (.cells (cC 0 0 0 0 0).toArray 86)).alloc (.cells (cC 0 0 0 0 0).toArray 86)) (w.heap.size + 1) 86 (cC 0 0 0 0 0) from blk_new (by simp))
  go_enter Tryd.func48, Tryd.ntmps48
  go_wp2
  go_loopg [8] n (fun g i wr => ∃ k, k ≤ n ∧ g = n - k ∧ i = .int .i64 (k : Int) ∧ Blk wr w.heap.size 86 (cC 0 0 0 0 0) ∧ Blk wr (w.heap.size + 1) 86 (cC (cnt cLoad (l.take k)) (cnt cStore (l.take k)) (cnt cSwap (l.take k)) (cnt cVain (l.take k)) (cnt cAdd (l.take k))) ∧ Below w.heap.size w wr)
  case atStart => exact ⟨0, Nat.zero_le _, rfl, rfl, HR2.out, HR3.out, HB2.out⟩
  case round =>
    obtain ⟨k, hk, hg, rfl, hb2, hb3, hb⟩ := hrel
    have HG := Lib.hid hg
    have HB := Lib.hid hb
    have HX2 := Lib.hid hb2
    have HX3 := Lib.hid hb3
    clear hg hb hb2 hb3
    by_cases hlt : k < n
    · have hkl : k < l.length := by rw [HN.out]; exact hlt
      obtain ⟨b, o, rfl, hbl, hc⟩ := HR.out.at_ (by rw [accs_length, HN.out]; omega)
      have hcr : ∀ j v, (accs l)[j]? = some v → wr.cell? ⟨b, o + j, none⟩ = some v := fun j v hj => by
        rw [HB.out.cell (p := ⟨b, o + j, none⟩) hbl]; exact hc j v hj
      generalize hx : l.getD k Acc.none = x
      obtain ⟨e0, e1, e2, e3, e4, e5, e6⟩ := acc_cells hcr hkl hx
      have HTK := Lib.hid (takeB hkl hx)
      clear hx
      obtain ⟨xt, xk, xa, xw, xo, xn, xok⟩ := x
      simp only at e0 e1 e2 e3 e4 e5 e6
      have HKS := Lib.hid (cnt_kinds6 (l.take k) xt xk xa xw xo xn xok)
      have l0 := cnt_le cLoad (l.take k)
      have l1 := cnt_le cStore (l.take k)
      have l2 := cnt_le cSwap (l.take k)
      have l3 := cnt_le cVain (l.take k)
      have l4 := cnt_le cAdd (l.take k)
      rw [List.length_take] at l0 l1 l2 l3 l4
      have HXC := Lib.hid (HX3.out.alloc (.cells #[.int .i64 xt, .int .i64 xk, .int .i64 xa, .int .u64 xw, .int .u64 xo, .int .u64 xn, .bool xok] 74))
      have HX2A := Lib.hid (HX2.out.alloc (.cells #[.int .i64 xt, .int .i64 xk, .int .i64 xa, .int .u64 xw, .int .u64 xo, .int .u64 xn, .bool xok] 74))
      have HBA := Lib.hid (HB.out.alloc HB.out.size (.cells #[.int .i64 xt, .int .i64 xk, .int .i64 xa, .int .u64 xw, .int .u64 xo, .int .u64 xn, .bool xok] 74))
      obtain ⟨c0, c1, c2, c3, c4⟩ := cBox HXC.out
      have f0 := HXC.out.frozen 0
      have f1 := HXC.out.frozen 1
      have f2 := HXC.out.frozen 2
      have f3 := HXC.out.frozen 3
      have f4 := HXC.out.frozen 4
      have HL3 := HX3.out.lt
      clear hcr hc hkl
      generalize cnt cLoad (l.take k) = n0 at *
      generalize cnt cStore (l.take k) = n1 at *
      generalize cnt cSwap (l.take k) = n2 at *
      generalize cnt cVain (l.take k) = n3 at *
      generalize cnt cAdd (l.take k) = n4 at *
      have v0 : (n0 : Int) + 1 ≤ 9223372036854775807 := by omega
      have v1 : (n1 : Int) + 1 ≤ 9223372036854775807 := by omega
      have v2 : (n2 : Int) + 1 ≤ 9223372036854775807 := by omega
      have v3 : (n3 : Int) + 1 ≤ 9223372036854775807 := by omega
      have v4 : (n4 : Int) + 1 ≤ 9223372036854775807 := by omega
      have hne : ¬ w.heap.size + 1 = wr.heap.size := by omega
      have q1 : (0 : Int) ≤ (k : Int) := by omega
      have q2 : (k : Int) < (n : Int) := by omega
      clear l0 l1 l2 l3 l4
      rcases kind_ways6 xk xok with ⟨b1, b2, b3, b4⟩ | ⟨b1, b2, b3, b4⟩ | ⟨b1, b2, b3, b4, hok⟩ | ⟨b1, b2, b3, b4, hok⟩ | ⟨b1, b2, b3, b4⟩ | ⟨b1, b2, b3, b4⟩
      · have HW := Lib.hid (And.intro b1 (And.intro b2 (And.intro b3 b4)))
        go_wp2
        go_roundg (n - (k + 1))
        case measure => rw [HG.out]; omega
        case rel =>
          refine ⟨k + 1, by omega, rfl, by go_num, (Blk.alloc (w := _) ((Below.heap_setCell _ ⟨w.heap.size + 1, 0, none⟩ _ w.heap.size (by show w.heap.size ≠ w.heap.size + 1; omega)).trans HX2.out) _), blk_cast ((HX3.out.set_ 0 _).alloc _) ?_, ((HB.out.setCell (p := ⟨w.heap.size + 1, 0, none⟩) (Nat.le_succ _) _).alloc (by first | exact HB.out.size | (simp [World.setCell]; exact HB.out.size)) _)⟩
          rw [HTK.out, HKS.out.1, HKS.out.2.1, HKS.out.2.2.1, HKS.out.2.2.2.1, HKS.out.2.2.2.2, HW.out.1, HW.out.2.1, HW.out.2.2.1, HW.out.2.2.2]
          simp [cC]
      · have HW := Lib.hid (And.intro b1 (And.intro b2 (And.intro b3 b4)))
        go_wp2
        go_roundg (n - (k + 1))
        case measure => rw [HG.out]; omega
        case rel =>
          refine ⟨k + 1, by omega, rfl, by go_num, (Blk.alloc (w := _) ((Below.heap_setCell _ ⟨w.heap.size + 1, 1, none⟩ _ w.heap.size (by show w.heap.size ≠ w.heap.size + 1; omega)).trans HX2.out) _), blk_cast ((HX3.out.set_ 1 _).alloc _) ?_, ((HB.out.setCell (p := ⟨w.heap.size + 1, 1, none⟩) (Nat.le_succ _) _).alloc (by first | exact HB.out.size | (simp [World.setCell]; exact HB.out.size)) _)⟩
          rw [HTK.out, HKS.out.1, HKS.out.2.1, HKS.out.2.2.1, HKS.out.2.2.2.1, HKS.out.2.2.2.2, HW.out.1, HW.out.2.1, HW.out.2.2.1, HW.out.2.2.2]
          simp [cC]
      · have HW := Lib.hid (And.intro b1 (And.intro b2 (And.intro b3 b4)))
        subst hok
        go_wp2
        go_roundg (n - (k + 1))
        case measure => rw [HG.out]; omega
        case rel =>
          refine ⟨k + 1, by omega, rfl, by go_num, (Blk.alloc (w := _) ((Below.heap_setCell _ ⟨w.heap.size + 1, 2, none⟩ _ w.heap.size (by show w.heap.size ≠ w.heap.size + 1; omega)).trans HX2.out) _), blk_cast ((HX3.out.set_ 2 _).alloc _) ?_, ((HB.out.setCell (p := ⟨w.heap.size + 1, 2, none⟩) (Nat.le_succ _) _).alloc (by first | exact HB.out.size | (simp [World.setCell]; exact HB.out.size)) _)⟩
          rw [HTK.out, HKS.out.1, HKS.out.2.1, HKS.out.2.2.1, HKS.out.2.2.2.1, HKS.out.2.2.2.2, HW.out.1, HW.out.2.1, HW.out.2.2.1, HW.out.2.2.2]
          simp [cC]
      · have HW := Lib.hid (And.intro b1 (And.intro b2 (And.intro b3 b4)))
        subst hok
        have y3 := fun v => ((HX3.out.set_ 2 v).alloc (.cells #[.int .i64 xt, .int .i64 xk, .int .i64 xa, .int .u64 xw, .int .u64 xo, .int .u64 xn, .bool false] 74)).cell (i := 3) (v := .int .i64 (n3 : Int)) rfl
        have y4 := fun v => ((HX3.out.set_ 2 v).alloc (.cells #[.int .i64 xt, .int .i64 xk, .int .i64 xa, .int .u64 xw, .int .u64 xo, .int .u64 xn, .bool false] 74)).frozen 3
        go_wp2
        go_roundg (n - (k + 1))
        case measure => rw [HG.out]; omega
        case rel =>
          refine ⟨k + 1, by omega, rfl, by go_num, (Blk.alloc (w := _) ((Below.heap_setCell _ ⟨w.heap.size + 1, 3, none⟩ _ w.heap.size (by show w.heap.size ≠ w.heap.size + 1; omega)).trans ((Below.heap_setCell _ ⟨w.heap.size + 1, 2, none⟩ _ w.heap.size (by show w.heap.size ≠ w.heap.size + 1; omega)).trans HX2.out)) _), blk_cast (((HX3.out.set_ 2 _).set_ 3 _).alloc _) ?_, (((HB.out.setCell (p := ⟨w.heap.size + 1, 2, none⟩) (Nat.le_succ _) _).setCell (p := ⟨w.heap.size + 1, 3, none⟩) (Nat.le_succ _) _).alloc (by first | exact HB.out.size | (simp [World.setCell]; exact HB.out.size)) _)⟩
          rw [HTK.out, HKS.out.1, HKS.out.2.1, HKS.out.2.2.1, HKS.out.2.2.2.1, HKS.out.2.2.2.2, HW.out.1, HW.out.2.1, HW.out.2.2.1, HW.out.2.2.2]
          simp [cC]
      · have HW := Lib.hid (And.intro b1 (And.intro b2 (And.intro b3 b4)))
        go_wp2
        go_roundg (n - (k + 1))
        case measure => rw [HG.out]; omega
        case rel =>
          refine ⟨k + 1, by omega, rfl, by go_num, (Blk.alloc (w := _) ((Below.heap_setCell _ ⟨w.heap.size + 1, 4, none⟩ _ w.heap.size (by show w.heap.size ≠ w.heap.size + 1; omega)).trans HX2.out) _), blk_cast ((HX3.out.set_ 4 _).alloc _) ?_, ((HB.out.setCell (p := ⟨w.heap.size + 1, 4, none⟩) (Nat.le_succ _) _).alloc (by first | exact HB.out.size | (simp [World.setCell]; exact HB.out.size)) _)⟩
          rw [HTK.out, HKS.out.1, HKS.out.2.1, HKS.out.2.2.1, HKS.out.2.2.2.1, HKS.out.2.2.2.2, HW.out.1, HW.out.2.1, HW.out.2.2.1, HW.out.2.2.2]
          simp [cC]
      · have HW := Lib.hid (And.intro b1 (And.intro b2 (And.intro b3 b4)))
        go_wp2
        go_roundg (n - (k + 1))
        case measure => rw [HG.out]; omega
        case rel =>
          refine ⟨k + 1, by omega, rfl, by go_num, (Blk.alloc (w := _) HX2.out _), blk_cast (HX3.out.alloc _) ?_, (HB.out.alloc (by first | exact HB.out.size | (simp [World.setCell]; exact HB.out.size)) _)⟩
          rw [HTK.out, HKS.out.1, HKS.out.2.1, HKS.out.2.2.1, HKS.out.2.2.2.1, HKS.out.2.2.2.2, HW.out.1, HW.out.2.1, HW.out.2.2.1, HW.out.2.2.2]
          simp [cC]
    · obtain rfl : n = k := by omega
      have hx3 := HX3.out
      rw [List.take_of_length_le (by rw [HN.out]; omega)] at hx3
      obtain ⟨c0, c1, c2, c3, c4⟩ := cBox hx3
      obtain ⟨z0, z1, z2, z3, z4⟩ := cBox HX2.out
      have f0 := HX2.out.frozen 0
      have f1 := HX2.out.frozen 1
      have f2 := HX2.out.frozen 2
      have f3 := HX2.out.frozen 3
      have f4 := HX2.out.frozen 4
      clear hx3
      generalize cnt cLoad l = n0 at *
      generalize cnt cStore l = n1 at *
      generalize cnt cSwap l = n2 at *
      generalize cnt cVain l = n3 at *
      generalize cnt cAdd l = n4 at *
      go_wp2
      obtain ⟨hB, hL⟩ := c_put (n0 := n0) (n1 := n1) (n2 := n2) (n3 := n3) (n4 := n4) HX2.out
      exact bodyPost_ret (v := cV n0 n1 n2 n3 n4) (ret_cellC (g := w.heap.size) rfl rfl (count_load hB)) rfl ⟨by rw [HCV.out], HB.out.trans (hL _ (Nat.le_refl _))⟩

theorem rcount_load {w : World} {g : Nat} {n0 n1 n2 n3 n4 : Nat} (h : Blk w g 83 (cC n0 n1 n2 n3 n4)) : (loadVar 83 ⟨g, 0, none⟩).run Tryd.prog w = .ok (cV n0 n1 n2 n3 n4) w :=
  run_loadVar_row (P := Tryd.prog) w g 83 83 _ (0, 0) _ h Tryd.underlying83 rfl (by kernel_rfl)

set_option maxHeartbeats 8000000 in
set_option maxRecDepth 100000 in
theorem rCount_any (B : Option Addr) (c : Nat) (l : List Acc) (w : World) (hl : l.length ≤ 4398046511104) (hR : Rd w B (accs l)) :
    Calls Tryd.prog 47 #[.slice B l.length c] w fun e w' => e = .returned (cntV l) ∧ Below w.heap.size w w' := by
  have HR := Lib.hid hR
  have HCV : RowKit.Hid (cntV l = cV (cnt cLoad l) (cnt cStore l) (cnt cSwap l) (cnt cVain l) (cnt cAdd l)) := Lib.hid rfl
  generalize hn : l.length = n at *
  have HN := Lib.hid hn
  clear hR hn
  have HB2 := Lib.hid (((Below.refl w.heap.size w).alloc (Nat.le_refl _) (.cells (cC 0 0 0 0 0).toArray 83)).alloc (by simp) (.cells (cC 0 0 0 0 0).toArray 83))
  have HR2 := Lib.hid (show Blk ((w.alloc (.cells (cC 0 0 0 0 0).toArray 83)).alloc (.cells (cC 0 0 0 0 0).toArray 83)) w.heap.size 83 (cC 0 0 0 0 0) from (Blk.new w 83 (cC 0 0 0 0 0)).alloc _)
  have HR3 := Lib.hid (show Blk ((w.alloc (.cells (cC 0 0 0 0 0).toArray 83)).alloc (.cells (cC 0 0 0 0 0).toArray 83)) (w.heap.size + 1) 83 (cC 0 0 0 0 0) from blk_new (by simp))
  go_enter Tryd.func47, Tryd.ntmps47
  go_wp2
  go_loopg [8] n (fun g i wr => ∃ k, k ≤ n ∧ g = n - k ∧ i = .int .i64 (k : Int) ∧ Blk wr w.heap.size 83 (cC 0 0 0 0 0) ∧ Blk wr (w.heap.size + 1) 83 (cC (cnt cLoad (l.take k)) (cnt cStore (l.take k)) (cnt cSwap (l.take k)) (cnt cVain (l.take k)) (cnt cAdd (l.take k))) ∧ Below w.heap.size w wr)
  case atStart => exact ⟨0, Nat.zero_le _, rfl, rfl, HR2.out, HR3.out, HB2.out⟩
  case round =>
    obtain ⟨k, hk, hg, rfl, hb2, hb3, hb⟩ := hrel
    have HG := Lib.hid hg
    have HB := Lib.hid hb
    have HX2 := Lib.hid hb2
    have HX3 := Lib.hid hb3
    clear hg hb hb2 hb3
    by_cases hlt : k < n
    · have hkl : k < l.length := by rw [HN.out]; exact hlt
      obtain ⟨b, o, rfl, hbl, hc⟩ := HR.out.at_ (by rw [accs_length, HN.out]; omega)
      have hcr : ∀ j v, (accs l)[j]? = some v → wr.cell? ⟨b, o + j, none⟩ = some v := fun j v hj => by
        rw [HB.out.cell (p := ⟨b, o + j, none⟩) hbl]; exact hc j v hj
      generalize hx : l.getD k Acc.none = x
      obtain ⟨e0, e1, e2, e3, e4, e5, e6⟩ := acc_cells hcr hkl hx
      have HTK := Lib.hid (takeB hkl hx)
      clear hx
      obtain ⟨xt, xk, xa, xw, xo, xn, xok⟩ := x
      simp only at e0 e1 e2 e3 e4 e5 e6
      have HKS := Lib.hid (cnt_kinds6 (l.take k) xt xk xa xw xo xn xok)
      have l0 := cnt_le cLoad (l.take k)
      have l1 := cnt_le cStore (l.take k)
      have l2 := cnt_le cSwap (l.take k)
      have l3 := cnt_le cVain (l.take k)
      have l4 := cnt_le cAdd (l.take k)
      rw [List.length_take] at l0 l1 l2 l3 l4
      have HXC := Lib.hid (HX3.out.alloc (.cells #[.int .i64 xt, .int .i64 xk, .int .i64 xa, .int .u64 xw, .int .u64 xo, .int .u64 xn, .bool xok] 74))
      have HX2A := Lib.hid (HX2.out.alloc (.cells #[.int .i64 xt, .int .i64 xk, .int .i64 xa, .int .u64 xw, .int .u64 xo, .int .u64 xn, .bool xok] 74))
      have HBA := Lib.hid (HB.out.alloc HB.out.size (.cells #[.int .i64 xt, .int .i64 xk, .int .i64 xa, .int .u64 xw, .int .u64 xo, .int .u64 xn, .bool xok] 74))
      obtain ⟨c0, c1, c2, c3, c4⟩ := cBox HXC.out
      have f0 := HXC.out.frozen 0
      have f1 := HXC.out.frozen 1
      have f2 := HXC.out.frozen 2
      have f3 := HXC.out.frozen 3
      have f4 := HXC.out.frozen 4
      have HL3 := HX3.out.lt
      clear hcr hc hkl
      generalize cnt cLoad (l.take k) = n0 at *
      generalize cnt cStore (l.take k) = n1 at *
      generalize cnt cSwap (l.take k) = n2 at *
      generalize cnt cVain (l.take k) = n3 at *
      generalize cnt cAdd (l.take k) = n4 at *
      have v0 : (n0 : Int) + 1 ≤ 9223372036854775807 := by omega
      have v1 : (n1 : Int) + 1 ≤ 9223372036854775807 := by omega
      have v2 : (n2 : Int) + 1 ≤ 9223372036854775807 := by omega
      have v3 : (n3 : Int) + 1 ≤ 9223372036854775807 := by omega
      have v4 : (n4 : Int) + 1 ≤ 9223372036854775807 := by omega
      have hne : ¬ w.heap.size + 1 = wr.heap.size := by omega
      have q1 : (0 : Int) ≤ (k : Int) := by omega
      have q2 : (k : Int) < (n : Int) := by omega
      clear l0 l1 l2 l3 l4
      rcases kind_ways6 xk xok with ⟨b1, b2, b3, b4⟩ | ⟨b1, b2, b3, b4⟩ | ⟨b1, b2, b3, b4, hok⟩ | ⟨b1, b2, b3, b4, hok⟩ | ⟨b1, b2, b3, b4⟩ | ⟨b1, b2, b3, b4⟩
      · have HW := Lib.hid (And.intro b1 (And.intro b2 (And.intro b3 b4)))
        go_wp2
        go_roundg (n - (k + 1))
        case measure => rw [HG.out]; omega
        case rel =>
          refine ⟨k + 1, by omega, rfl, by go_num, (Blk.alloc (w := _) ((Below.heap_setCell _ ⟨w.heap.size + 1, 0, none⟩ _ w.heap.size (by show w.heap.size ≠ w.heap.size + 1; omega)).trans HX2.out) _), blk_cast ((HX3.out.set_ 0 _).alloc _) ?_, ((HB.out.setCell (p := ⟨w.heap.size + 1, 0, none⟩) (Nat.le_succ _) _).alloc (by first | exact HB.out.size | (simp [World.setCell]; exact HB.out.size)) _)⟩
          rw [HTK.out, HKS.out.1, HKS.out.2.1, HKS.out.2.2.1, HKS.out.2.2.2.1, HKS.out.2.2.2.2, HW.out.1, HW.out.2.1, HW.out.2.2.1, HW.out.2.2.2]
          simp [cC]
      · have HW := Lib.hid (And.intro b1 (And.intro b2 (And.intro b3 b4)))
        go_wp2
        go_roundg (n - (k + 1))
        case measure => rw [HG.out]; omega
        case rel =>
          refine ⟨k + 1, by omega, rfl, by go_num, (Blk.alloc (w := _) ((Below.heap_setCell _ ⟨w.heap.size + 1, 1, none⟩ _ w.heap.size (by show w.heap.size ≠ w.heap.size + 1; omega)).trans HX2.out) _), blk_cast ((HX3.out.set_ 1 _).alloc _) ?_, ((HB.out.setCell (p := ⟨w.heap.size + 1, 1, none⟩) (Nat.le_succ _) _).alloc (by first | exact HB.out.size | (simp [World.setCell]; exact HB.out.size)) _)⟩
          rw [HTK.out, HKS.out.1, HKS.out.2.1, HKS.out.2.2.1, HKS.out.2.2.2.1, HKS.out.2.2.2.2, HW.out.1, HW.out.2.1, HW.out.2.2.1, HW.out.2.2.2]
          simp [cC]
      · have HW := Lib.hid (And.intro b1 (And.intro b2 (And.intro b3 b4)))
        subst hok
        go_wp2
        go_roundg (n - (k + 1))
        case measure => rw [HG.out]; omega
        case rel =>
          refine ⟨k + 1, by omega, rfl, by go_num, (Blk.alloc (w := _) ((Below.heap_setCell _ ⟨w.heap.size + 1, 2, none⟩ _ w.heap.size (by show w.heap.size ≠ w.heap.size + 1; omega)).trans HX2.out) _), blk_cast ((HX3.out.set_ 2 _).alloc _) ?_, ((HB.out.setCell (p := ⟨w.heap.size + 1, 2, none⟩) (Nat.le_succ _) _).alloc (by first | exact HB.out.size | (simp [World.setCell]; exact HB.out.size)) _)⟩
          rw [HTK.out, HKS.out.1, HKS.out.2.1, HKS.out.2.2.1, HKS.out.2.2.2.1, HKS.out.2.2.2.2, HW.out.1, HW.out.2.1, HW.out.2.2.1, HW.out.2.2.2]
          simp [cC]
      · have HW := Lib.hid (And.intro b1 (And.intro b2 (And.intro b3 b4)))
        subst hok
        have y3 := fun v => ((HX3.out.set_ 2 v).alloc (.cells #[.int .i64 xt, .int .i64 xk, .int .i64 xa, .int .u64 xw, .int .u64 xo, .int .u64 xn, .bool false] 74)).cell (i := 3) (v := .int .i64 (n3 : Int)) rfl
        have y4 := fun v => ((HX3.out.set_ 2 v).alloc (.cells #[.int .i64 xt, .int .i64 xk, .int .i64 xa, .int .u64 xw, .int .u64 xo, .int .u64 xn, .bool false] 74)).frozen 3
        go_wp2
        go_roundg (n - (k + 1))
        case measure => rw [HG.out]; omega
        case rel =>
          refine ⟨k + 1, by omega, rfl, by go_num, (Blk.alloc (w := _) ((Below.heap_setCell _ ⟨w.heap.size + 1, 3, none⟩ _ w.heap.size (by show w.heap.size ≠ w.heap.size + 1; omega)).trans ((Below.heap_setCell _ ⟨w.heap.size + 1, 2, none⟩ _ w.heap.size (by show w.heap.size ≠ w.heap.size + 1; omega)).trans HX2.out)) _), blk_cast (((HX3.out.set_ 2 _).set_ 3 _).alloc _) ?_, (((HB.out.setCell (p := ⟨w.heap.size + 1, 2, none⟩) (Nat.le_succ _) _).setCell (p := ⟨w.heap.size + 1, 3, none⟩) (Nat.le_succ _) _).alloc (by first | exact HB.out.size | (simp [World.setCell]; exact HB.out.size)) _)⟩
          rw [HTK.out, HKS.out.1, HKS.out.2.1, HKS.out.2.2.1, HKS.out.2.2.2.1, HKS.out.2.2.2.2, HW.out.1, HW.out.2.1, HW.out.2.2.1, HW.out.2.2.2]
          simp [cC]
      · have HW := Lib.hid (And.intro b1 (And.intro b2 (And.intro b3 b4)))
        go_wp2
        go_roundg (n - (k + 1))
        case measure => rw [HG.out]; omega
        case rel =>
          refine ⟨k + 1, by omega, rfl, by go_num, (Blk.alloc (w := _) ((Below.heap_setCell _ ⟨w.heap.size + 1, 4, none⟩ _ w.heap.size (by show w.heap.size ≠ w.heap.size + 1; omega)).trans HX2.out) _), blk_cast ((HX3.out.set_ 4 _).alloc _) ?_, ((HB.out.setCell (p := ⟨w.heap.size + 1, 4, none⟩) (Nat.le_succ _) _).alloc (by first | exact HB.out.size | (simp [World.setCell]; exact HB.out.size)) _)⟩
          rw [HTK.out, HKS.out.1, HKS.out.2.1, HKS.out.2.2.1, HKS.out.2.2.2.1, HKS.out.2.2.2.2, HW.out.1, HW.out.2.1, HW.out.2.2.1, HW.out.2.2.2]
          simp [cC]
      · have HW := Lib.hid (And.intro b1 (And.intro b2 (And.intro b3 b4)))
        go_wp2
        go_roundg (n - (k + 1))
        case measure => rw [HG.out]; omega
        case rel =>
          refine ⟨k + 1, by omega, rfl, by go_num, (Blk.alloc (w := _) HX2.out _), blk_cast (HX3.out.alloc _) ?_, (HB.out.alloc (by first | exact HB.out.size | (simp [World.setCell]; exact HB.out.size)) _)⟩
          rw [HTK.out, HKS.out.1, HKS.out.2.1, HKS.out.2.2.1, HKS.out.2.2.2.1, HKS.out.2.2.2.2, HW.out.1, HW.out.2.1, HW.out.2.2.1, HW.out.2.2.2]
          simp [cC]
    · obtain rfl : n = k := by omega
      have hx3 := HX3.out
      rw [List.take_of_length_le (by rw [HN.out]; omega)] at hx3
      obtain ⟨c0, c1, c2, c3, c4⟩ := cBox hx3
      obtain ⟨z0, z1, z2, z3, z4⟩ := cBox HX2.out
      have f0 := HX2.out.frozen 0
      have f1 := HX2.out.frozen 1
      have f2 := HX2.out.frozen 2
      have f3 := HX2.out.frozen 3
      have f4 := HX2.out.frozen 4
      clear hx3
      generalize cnt cLoad l = n0 at *
      generalize cnt cStore l = n1 at *
      generalize cnt cSwap l = n2 at *
      generalize cnt cVain l = n3 at *
      generalize cnt cAdd l = n4 at *
      go_wp2
      obtain ⟨hB, hL⟩ := c_put (n0 := n0) (n1 := n1) (n2 := n2) (n3 := n3) (n4 := n4) HX2.out
      exact bodyPost_ret (v := cV n0 n1 n2 n3 n4) (ret_cellC (g := w.heap.size) rfl rfl (rcount_load hB)) rfl ⟨by rw [HCV.out], HB.out.trans (hL _ (Nat.le_refl _))⟩

end Go.Proofs.YtiioedgdhkndgaaDoor

/- The document's calls of a history. -/
import Derived.Test.YtmllbailfbjoeaaRef43d
namespace Go.Proofs.Ytmllbailfbjoeaa
open Go.RowKit Go.Sort

abbrev rkb (x : Kall) : Obj := .cells #[.int .i64 x.beg, .int .i64 x.fin, .bool x.opn, .bool x.put, .int .i64 x.value, .int .i64 x.code] 88
theorem rKall_info : (Try.prog.info? 88).map (fun i => (i.zero, i.size, i.bytes)) = some (some (kallV Kall.none), 6, 40) := by kernel_rfl

def isCall (n : Nte) : Bool := n.kind == 1 && (n.rkind == 8 || n.rkind == 9)
/-- The call that begins at a place. -/
def rcall (ns : List Nte) (i : Nat) : Kall :=
  if endS ns i < 0 then begK ns.length i (ns.getD i Nte.none)
  else endK (begK ns.length i (ns.getD i Nte.none)) (endS ns i).toNat (ns.getD (endS ns i).toNat Nte.none)
def rcallsTo (ns : List Nte) : Nat → List Kall
  | 0 => []
  | k + 1 => if isCall (ns.getD k Nte.none) = true then rcallsTo ns k ++ [rcall ns k] else rcallsTo ns k
def rcallsS (ns : List Nte) : List Kall := rcallsTo ns ns.length

theorem rcalls_len (ns : List Nte) : ∀ k, (rcallsTo ns k).length ≤ k
  | 0 => by simp [rcallsTo]
  | k + 1 => by
    have := rcalls_len ns k
    rw [rcallsTo]
    split
    · simp; omega
    · omega

theorem endL_bd (th : Int) : ∀ (r : List Nte) (j : Nat), endL th r j = -1 ∨ ((j : Int) ≤ endL th r j ∧ endL th r j < (j + r.length : Nat))
  | [], j => .inl rfl
  | n :: r, j => by
    have ih := endL_bd th r (j + 1)
    simp only [endL, List.length_cons]
    split
    · split
      · exact .inl rfl
      · split
        · right; omega
        · omega
    · omega

theorem endS_bd (ns : List Nte) (i : Nat) (h : i < ns.length) : endS ns i = -1 ∨ (0 ≤ endS ns i ∧ endS ns i < ns.length) := by
  have := endL_bd (ns.getD i Nte.none).thread (ns.drop (i + 1)) (i + 1)
  unfold endS
  simp only [List.length_drop] at this
  omega

theorem own_only {g : Nat} {a w : World} {base : Nat} {e : TypeId} {s n : Nat} {v : Value} {xs : List Value} (h : a.ownsRow base e s v n xs) (ho : Only g a w) (hn : v.ownBlock = some g → False) : w.ownsRow base e s v n xs :=
  h.kept (row := some g) ⟨ho.os, ho.tape, ho.output, ho.size, fun i hi hne => ho.block i hi (fun e => hne (by rw [e]))⟩ (.inr (fun h' => hn h'))

theorem rcall_open {ns : List Nte} {i : Nat} (h : endS ns i = -1) : rcall ns i = begK ns.length i (ns.getD i Nte.none) := by
  unfold rcall; rw [h]; rfl
theorem rcall_end {ns : List Nte} {i e : Nat} (h : endS ns i = (e : Int)) : rcall ns i = endK (begK ns.length i (ns.getD i Nte.none)) e (ns.getD e Nte.none) := by
  unfold rcall; rw [h, if_neg (by omega)]; rfl

set_option maxHeartbeats 8000000 in
set_option maxRecDepth 100000 in
theorem rCalls_any (A : Option Addr) (c : Nat) (l : List Nte) (w : World) (hl : l.length ≤ 1048576) (hR : Rd w A (rows l)) :
    Calls Try.prog 73 #[.slice A l.length c] w (RetRows (rcallsS l) w) := by
  have HR := Lib.hid hR
  have HEN := Lib.hid (fun i W h1 h2 => end_any A c l i W hl h1 h2)
  have HRS : RowKit.Hid (rcallsS l = rcallsTo l l.length) := Lib.hid rfl
  have HLE := Lib.hid (rcalls_len l)
  clear hR
  generalize hn : l.length = n at *
  have HN := Lib.hid hn
  clear hn
  go_enter Try.func73, Try.ntmps73
  go_wp2
  go_loopg [3, 10] n (fun g v i wr => ∃ (k : Nat) (V : Option Addr) (cv : Nat), k ≤ n ∧ g = n - k ∧ i = .int .i64 k ∧ v = .slice V (rcallsTo l k).length cv ∧ wr.ownsRow w.heap.size 88 6 (.slice V (rcallsTo l k).length cv) (rcallsTo l k).length (rows (rcallsTo l k)) ∧ Below w.heap.size w wr)
  case atStart => exact ⟨0, none, 0, Nat.zero_le _, rfl, rfl, rfl, own_nil _ _ _ _, Below.refl _ _⟩
  case round =>
    obtain ⟨k, V, cv, hk, hg, rfl, rfl, hown, hb⟩ := hrel
    have HG := Lib.hid hg
    have HB := Lib.hid hb
    have HOWN := Lib.hid hown
    have hle := HLE.out k
    clear hg hb hown
    by_cases hlt : k < n
    · have hkl : k < l.length := by rw [HN.out]; exact hlt
      obtain ⟨b, o, rfl, hbl, hc⟩ := HR.out.at_ (by rw [rows_length]; exact Nat.mul_pos (by omega) (by decide))
      have hcr : ∀ j v, (rows l)[j]? = some v → wr.cell? ⟨b, o + j, none⟩ = some v := fun j v hj => by
        rw [HB.out.cell (p := ⟨b, o + j, none⟩) hbl]; exact hc j v hj
      have HST : RowKit.Hid (rcallsTo l (k + 1) = if isCall (l.getD k Nte.none) = true then rcallsTo l k ++ [rcall l k] else rcallsTo l k) := Lib.hid rfl
      generalize hx : l.getD k Nte.none = x at *
      obtain ⟨c0, c1, c2, c3, c4, c5, c6, c7, c8, c9, c10, c11, c12⟩ := note_cells hcr hkl hx
      have HX := Lib.hid hx
      have HCC := Lib.hid hc
      have HKL := Lib.hid hkl
      have HIC : RowKit.Hid (isCall x = (x.kind == 1 && (x.rkind == 8 || x.rkind == 9))) := Lib.hid rfl
      clear hc hcr hx hkl
      generalize rcallsTo l k = rl at *
      generalize hfn : rl.length = fn at *
      have HFN := Lib.hid hfn
      clear hfn
      have q1 : (0 : Int) ≤ (k : Int) := by omega
      have q2 : (k : Int) < (n : Int) := by omega
      cases hic : isCall x
      · have e := HST.out
        rw [hic] at e
        simp only [Bool.false_eq_true, if_false] at e
        have HE := Lib.hid e
        rw [HIC.out] at hic
        clear e
        have HNEXT : RowKit.Hid (∀ w3 : World, w3.ownsRow w.heap.size 88 6 (.slice V fn cv) fn (rows rl) → Below w.heap.size w w3 → ∃ (k' : Nat) (V' : Option Addr) (cv' : Nat), k' ≤ n ∧ n - (k + 1) = n - k' ∧ Value.int .i64 ((k : Int) + 1) = .int .i64 k' ∧ Value.slice V fn cv = .slice V' (rcallsTo l k').length cv' ∧ w3.ownsRow w.heap.size 88 6 (.slice V' (rcallsTo l k').length cv') (rcallsTo l k').length (rows (rcallsTo l k')) ∧ Below w.heap.size w w3) := Lib.hid (by
          intro w3 ho hb
          exact ⟨k + 1, V, cv, by omega, rfl, by go_num, by rw [HE.out, HFN.out], by rw [HE.out, HFN.out]; exact ho, hb⟩)
        cases t1 : (x.kind == 1)
        · have t1' : (x.kind != 1) = true := by rw [bne, t1]; rfl
          go_wp2
          go_roundg (n - (k + 1))
          case measure => rw [HG.out]; omega
          case rel => exact HNEXT.out _ (HOWN.out.alloc _) (HB.out.alloc HB.out.size _)
        · rw [t1] at hic
          simp only [Bool.true_and, Bool.or_eq_false_iff] at hic
          have t1' : (x.kind != 1) = false := by rw [bne, t1]; rfl
          have t8 : (x.rkind != 8) = true := by rw [bne, hic.1]; rfl
          have t9 : (x.rkind != 9) = true := by rw [bne, hic.2]; rfl
          clear hic
          go_wp2
          go_roundg (n - (k + 1))
          case measure => rw [HG.out]; omega
          case rel => exact HNEXT.out _ (HOWN.out.alloc _) (HB.out.alloc HB.out.size _)
      · have HE : RowKit.Hid (rcallsTo l (k + 1) = rl ++ [rcall l k]) := Lib.hid (by have e := HST.out; rw [hic] at e; simpa using e)
        rw [HIC.out] at hic
        have HLT := Lib.hid HOWN.out.lt
        have HRW := Lib.hid HR.out
        have hkn : k < n := hlt
        have HBD : RowKit.Hid (endS l k = -1 ∨ (0 ≤ endS l k ∧ endS l k < (n : Int))) := Lib.hid (by have h := endS_bd l k HKL.out; rw [HN.out] at h; exact h)
        simp only [Bool.and_eq_true, Bool.or_eq_true] at hic
        obtain ⟨t1, h89⟩ := hic
        have t1' : (x.kind != 1) = false := by rw [bne, t1]; rfl
        cases t8 : (x.rkind == 8)
        · have t9 : (x.rkind == 9) = true := by rw [t8] at h89; simpa using h89
          have t8' : (x.rkind != 8) = true := by rw [bne, t8]; rfl
          have t9' : (x.rkind != 9) = false := by rw [bne, t9]; rfl
          clear h89
          have HBEG := Lib.hid (show begK n k x = (⟨k, n, true, false, x.rvalue, 0⟩ : Kall) by unfold begK; rw [t8])
          go_wp2_with fail
          refine (HEN.out k _ hkn (((HRW.out.below HB.out).alloc _).alloc _)).mono ?_
          rintro er w2 ⟨rfl, hb2⟩
          have h2k : Blk w2 (wr.heap.size + 1) 88 (Kall.cells (⟨k, n, true, false, x.rvalue, 0⟩ : Kall)) := (blk_new (w := wr.alloc (nbox x)) (cs := Kall.cells (⟨k, n, true, false, x.rvalue, 0⟩ : Kall)) (by simp)).below hb2 (by simp)
          have HB2 := Lib.hid (((HB.out.alloc HB.out.size (nbox x)).alloc (by have := HB.out.size; simp; omega) (rkb (⟨k, n, true, false, x.rvalue, 0⟩ : Kall))).trans (hb2.mono (by have := HB.out.size; simp; omega)))
          have HO2 := Lib.hid (own_below ((HOWN.out.alloc (nbox x)).alloc (rkb (⟨k, n, true, false, x.rvalue, 0⟩ : Kall))) hb2)
          have y0 : w2.cell? ⟨wr.heap.size + 1, 0, none⟩ = some (.int .i64 (k : Int)) := h2k.cell rfl
          have y1 : w2.cell? ⟨wr.heap.size + 1, 1, none⟩ = some (.int .i64 (n : Int)) := h2k.cell rfl
          have y2 : w2.cell? ⟨wr.heap.size + 1, 2, none⟩ = some (.bool true) := h2k.cell rfl
          have y3 : w2.cell? ⟨wr.heap.size + 1, 3, none⟩ = some (.bool false) := h2k.cell rfl
          have y4 : w2.cell? ⟨wr.heap.size + 1, 4, none⟩ = some (.int .i64 x.rvalue) := h2k.cell rfl
          have y5 : w2.cell? ⟨wr.heap.size + 1, 5, none⟩ = some (.int .i64 0) := h2k.cell rfl
          rcases HBD.out with hm | ⟨he0, he1⟩
          · rw [hm]
            have HRC := Lib.hid (show rcall l k = (⟨k, n, true, false, x.rvalue, 0⟩ : Kall) by rw [rcall_open hm, HX.out, HN.out]; exact HBEG.out)
            clear hm hb2
            go_wp2_with (at_builtin; refine wpList_app rfl (.tmp 66) (.tmp 68) 85 88 rfl w.heap.size (kallV Kall.none) 6 40 Try.underlying85 rKall_info rfl (by decide) V fn cv (rows rl) rfl (HO2.out.alloc _) (some ⟨_, 0, none⟩) 1 1 (rows [(⟨k, n, true, false, x.rvalue, 0⟩ : Kall)]) rfl (by simp) rfl (blk_new (by simp)).rd (rows_one _) (fn + 1) rfl (rows (rl ++ [(⟨k, n, true, false, x.rvalue, 0⟩ : Kall)])) (rows_append _ _).symm (by unfold maxLen; omega) (by omega) (Nat.le_trans HB2.out.size (by simp)) ?_; intro V3 cv3 w6 hown3 hg3 hb6)
            go_roundg (n - (k + 1))
            case measure => rw [HG.out]; omega
            case rel =>
              refine ⟨k + 1, V3, cv3, by omega, rfl, by go_num, ?_, ?_, (HB2.out.alloc HB2.out.size _).trans hb6⟩
              · rw [HE.out, HRC.out]; simp [HFN.out]
              · rw [HE.out, HRC.out]
                simp only [List.length_append, List.length_cons, List.length_nil, HFN.out]
                exact hown3
          · obtain ⟨e, hee⟩ := Int.eq_ofNat_of_zero_le he0
            rw [hee]
            rw [hee] at he1
            generalize hy : l.getD e Nte.none = y
            have hcr2 : ∀ j v, (rows l)[j]? = some v → w2.cell? ⟨b, o + j, none⟩ = some v := fun j v hj => by
              rw [HB2.out.cell (p := ⟨b, o + j, none⟩) hbl]; exact HCC.out j v hj
            obtain ⟨_, _, _, _, _, _, _, _, _, _, _, g11, g12⟩ := note_cells hcr2 (by rw [HN.out]; omega) hy
            have HRC := Lib.hid (show rcall l k = (⟨k, e, false, false, y.qvalue, y.qcode⟩ : Kall) by rw [rcall_end hee, HX.out, HN.out, HBEG.out, hy]; rfl)
            have z1 := h2k.frozen 1
            have z2 := h2k.frozen 2
            have z4 := h2k.frozen 4
            have z5 := h2k.frozen 5
            have hbne : ¬ b = wr.heap.size + 1 := by have := HB.out.size; omega
            have q5 : (0 : Int) ≤ (e : Int) := by omega
            have q6 : (e : Int) < (n : Int) := by omega
            have HON := Lib.hid (show Only (wr.heap.size + 1) w2 ((((w2.setCell ⟨wr.heap.size + 1, 1, none⟩ (.int .i64 (e : Int))).setCell ⟨wr.heap.size + 1, 2, none⟩ (.bool false)).setCell ⟨wr.heap.size + 1, 5, none⟩ (.int .i64 y.qcode)).setCell ⟨wr.heap.size + 1, 4, none⟩ (.int .i64 y.qvalue)) from (((((Only.refl (wr.heap.size + 1) w2).set_ 1 (.int .i64 (e : Int))).set_ 2 (.bool false)).set_ 5 (.int .i64 y.qcode)).set_ 4 (.int .i64 y.qvalue)))
            have HO3 := Lib.hid (own_only HO2.out HON.out (by intro h; have := (HLT.out _ h).2; omega))
            have HB3 := Lib.hid (HB2.out.trans (HON.out.below (B := w.heap.size) (by have := HB.out.size; omega) HB2.out.size))
            clear hcr2 hy hee he0 he1 hb2 h2k
            go_wp2_with (at_builtin; refine wpList_app rfl (.tmp 66) (.tmp 68) 85 88 rfl w.heap.size (kallV Kall.none) 6 40 Try.underlying85 rKall_info rfl (by decide) V fn cv (rows rl) rfl (HO3.out.alloc _) (some ⟨_, 0, none⟩) 1 1 (rows [(⟨k, e, false, false, y.qvalue, y.qcode⟩ : Kall)]) rfl (by simp) rfl (blk_new (by simp)).rd (rows_one _) (fn + 1) rfl (rows (rl ++ [(⟨k, e, false, false, y.qvalue, y.qcode⟩ : Kall)])) (rows_append _ _).symm (by unfold maxLen; omega) (by omega) (Nat.le_trans HB3.out.size (by simp)) ?_; intro V3 cv3 w6 hown3 hg3 hb6)
            go_roundg (n - (k + 1))
            case measure => rw [HG.out]; omega
            case rel =>
              refine ⟨k + 1, V3, cv3, by omega, rfl, by go_num, ?_, ?_, (HB3.out.alloc HB3.out.size _).trans hb6⟩
              · rw [HE.out, HRC.out]; simp [HFN.out]
              · rw [HE.out, HRC.out]
                simp only [List.length_append, List.length_cons, List.length_nil, HFN.out]
                exact hown3
        · have t8' : (x.rkind != 8) = false := by rw [bne, t8]; rfl
          clear h89
          have HBEG := Lib.hid (show begK n k x = (⟨k, n, true, true, x.rvalue, 0⟩ : Kall) by unfold begK; rw [t8])
          go_wp2_with fail
          refine (HEN.out k _ hkn (((HRW.out.below HB.out).alloc _).alloc _)).mono ?_
          rintro er w2 ⟨rfl, hb2⟩
          have h2k : Blk w2 (wr.heap.size + 1) 88 (Kall.cells (⟨k, n, true, true, x.rvalue, 0⟩ : Kall)) := (blk_new (w := wr.alloc (nbox x)) (cs := Kall.cells (⟨k, n, true, true, x.rvalue, 0⟩ : Kall)) (by simp)).below hb2 (by simp)
          have HB2 := Lib.hid (((HB.out.alloc HB.out.size (nbox x)).alloc (by have := HB.out.size; simp; omega) (rkb (⟨k, n, true, true, x.rvalue, 0⟩ : Kall))).trans (hb2.mono (by have := HB.out.size; simp; omega)))
          have HO2 := Lib.hid (own_below ((HOWN.out.alloc (nbox x)).alloc (rkb (⟨k, n, true, true, x.rvalue, 0⟩ : Kall))) hb2)
          have y0 : w2.cell? ⟨wr.heap.size + 1, 0, none⟩ = some (.int .i64 (k : Int)) := h2k.cell rfl
          have y1 : w2.cell? ⟨wr.heap.size + 1, 1, none⟩ = some (.int .i64 (n : Int)) := h2k.cell rfl
          have y2 : w2.cell? ⟨wr.heap.size + 1, 2, none⟩ = some (.bool true) := h2k.cell rfl
          have y3 : w2.cell? ⟨wr.heap.size + 1, 3, none⟩ = some (.bool true) := h2k.cell rfl
          have y4 : w2.cell? ⟨wr.heap.size + 1, 4, none⟩ = some (.int .i64 x.rvalue) := h2k.cell rfl
          have y5 : w2.cell? ⟨wr.heap.size + 1, 5, none⟩ = some (.int .i64 0) := h2k.cell rfl
          rcases HBD.out with hm | ⟨he0, he1⟩
          · rw [hm]
            have HRC := Lib.hid (show rcall l k = (⟨k, n, true, true, x.rvalue, 0⟩ : Kall) by rw [rcall_open hm, HX.out, HN.out]; exact HBEG.out)
            clear hm hb2
            go_wp2_with (at_builtin; refine wpList_app rfl (.tmp 66) (.tmp 68) 85 88 rfl w.heap.size (kallV Kall.none) 6 40 Try.underlying85 rKall_info rfl (by decide) V fn cv (rows rl) rfl (HO2.out.alloc _) (some ⟨_, 0, none⟩) 1 1 (rows [(⟨k, n, true, true, x.rvalue, 0⟩ : Kall)]) rfl (by simp) rfl (blk_new (by simp)).rd (rows_one _) (fn + 1) rfl (rows (rl ++ [(⟨k, n, true, true, x.rvalue, 0⟩ : Kall)])) (rows_append _ _).symm (by unfold maxLen; omega) (by omega) (Nat.le_trans HB2.out.size (by simp)) ?_; intro V3 cv3 w6 hown3 hg3 hb6)
            go_roundg (n - (k + 1))
            case measure => rw [HG.out]; omega
            case rel =>
              refine ⟨k + 1, V3, cv3, by omega, rfl, by go_num, ?_, ?_, (HB2.out.alloc HB2.out.size _).trans hb6⟩
              · rw [HE.out, HRC.out]; simp [HFN.out]
              · rw [HE.out, HRC.out]
                simp only [List.length_append, List.length_cons, List.length_nil, HFN.out]
                exact hown3
          · obtain ⟨e, hee⟩ := Int.eq_ofNat_of_zero_le he0
            rw [hee]
            rw [hee] at he1
            generalize hy : l.getD e Nte.none = y
            have hcr2 : ∀ j v, (rows l)[j]? = some v → w2.cell? ⟨b, o + j, none⟩ = some v := fun j v hj => by
              rw [HB2.out.cell (p := ⟨b, o + j, none⟩) hbl]; exact HCC.out j v hj
            obtain ⟨_, _, _, _, _, _, _, _, _, _, _, g11, g12⟩ := note_cells hcr2 (by rw [HN.out]; omega) hy
            have HRC := Lib.hid (show rcall l k = (⟨k, e, false, true, x.rvalue, y.qcode⟩ : Kall) by rw [rcall_end hee, HX.out, HN.out, HBEG.out, hy]; rfl)
            have z1 := h2k.frozen 1
            have z2 := h2k.frozen 2
            have z4 := h2k.frozen 4
            have z5 := h2k.frozen 5
            have hbne : ¬ b = wr.heap.size + 1 := by have := HB.out.size; omega
            have q5 : (0 : Int) ≤ (e : Int) := by omega
            have q6 : (e : Int) < (n : Int) := by omega
            have HON := Lib.hid (show Only (wr.heap.size + 1) w2 (((w2.setCell ⟨wr.heap.size + 1, 1, none⟩ (.int .i64 (e : Int))).setCell ⟨wr.heap.size + 1, 2, none⟩ (.bool false)).setCell ⟨wr.heap.size + 1, 5, none⟩ (.int .i64 y.qcode)) from ((((Only.refl (wr.heap.size + 1) w2).set_ 1 (.int .i64 (e : Int))).set_ 2 (.bool false)).set_ 5 (.int .i64 y.qcode)))
            have HO3 := Lib.hid (own_only HO2.out HON.out (by intro h; have := (HLT.out _ h).2; omega))
            have HB3 := Lib.hid (HB2.out.trans (HON.out.below (B := w.heap.size) (by have := HB.out.size; omega) HB2.out.size))
            clear hcr2 hy hee he0 he1 hb2 h2k
            go_wp2_with (at_builtin; refine wpList_app rfl (.tmp 66) (.tmp 68) 85 88 rfl w.heap.size (kallV Kall.none) 6 40 Try.underlying85 rKall_info rfl (by decide) V fn cv (rows rl) rfl (HO3.out.alloc _) (some ⟨_, 0, none⟩) 1 1 (rows [(⟨k, e, false, true, x.rvalue, y.qcode⟩ : Kall)]) rfl (by simp) rfl (blk_new (by simp)).rd (rows_one _) (fn + 1) rfl (rows (rl ++ [(⟨k, e, false, true, x.rvalue, y.qcode⟩ : Kall)])) (rows_append _ _).symm (by unfold maxLen; omega) (by omega) (Nat.le_trans HB3.out.size (by simp)) ?_; intro V3 cv3 w6 hown3 hg3 hb6)
            go_roundg (n - (k + 1))
            case measure => rw [HG.out]; omega
            case rel =>
              refine ⟨k + 1, V3, cv3, by omega, rfl, by go_num, ?_, ?_, (HB3.out.alloc HB3.out.size _).trans hb6⟩
              · rw [HE.out, HRC.out]; simp [HFN.out]
              · rw [HE.out, HRC.out]
                simp only [List.length_append, List.length_cons, List.length_nil, HFN.out]
                exact hown3
    · obtain rfl : k = n := by omega
      generalize hfn : (rcallsTo l k).length = fn at *
      have hle2 := own_le HOWN.out
      have HNO := Lib.hid (fun h => (own_none HOWN.out h).2.1)
      go_wp2
      go_ret
      refine ⟨V, cv, ?_, ?_, ?_, HNO.out, HB.out⟩
      · rw [HRS.out, hfn]; rfl
      · rw [HRS.out]; exact own_rd HOWN.out
      · rw [HRS.out, hfn]; exact hle2

end Go.Proofs.Ytmllbailfbjoeaa

/- The calls that the program gathers are the document's. -/
import Derived.Test.YtieglgahfeecbaaGreatDoorA10
namespace Go.Proofs.YtieglgahfeecbaaGreatDoor
open Go.RowKit Go.Sort Go.Maps

theorem note_cells {w : World} {b o : Nat} {l : List Nte} (hc : ∀ k v, (rows l)[k]? = some v → w.cell? ⟨b, o + k, none⟩ = some v) {k : Nat} (hk : k < l.length) {x : Nte} (hx : l.getD k Nte.none = x) :
    w.cell? ⟨b, o + k * 13, none⟩ = some (.int .i64 x.kind) ∧ w.cell? ⟨b, o + k * 13 + 1, none⟩ = some (.int .i64 x.thread) ∧ w.cell? ⟨b, o + k * 13 + 2, none⟩ = some (.int .i64 x.seq) ∧ w.cell? ⟨b, o + k * 13 + 3, none⟩ = some (.int .i64 x.time) ∧
    w.cell? ⟨b, o + k * 13 + 4, none⟩ = some (.int .i64 x.rkind) ∧ w.cell? ⟨b, o + k * 13 + 5, none⟩ = some (.int .i64 x.rarg) ∧ w.cell? ⟨b, o + k * 13 + 6, none⟩ = some (.int .i64 x.rvalue) ∧ w.cell? ⟨b, o + k * 13 + 7, none⟩ = some (.bool x.rdef) ∧
    w.cell? ⟨b, o + k * 13 + 8, none⟩ = some (.slice x.ca x.cl x.cc) ∧ w.cell? ⟨b, o + k * 13 + 9, none⟩ = some (.int .i64 x.qseq) ∧ w.cell? ⟨b, o + k * 13 + 10, none⟩ = some (.int .i64 x.qcase) ∧ w.cell? ⟨b, o + k * 13 + 11, none⟩ = some (.int .i64 x.qcode) ∧ w.cell? ⟨b, o + k * 13 + 12, none⟩ = some (.int .i64 x.qvalue) := by
  have h := rec_cell hc hk hx
  exact ⟨h 0 _ rfl, h 1 _ rfl, h 2 _ rfl, h 3 _ rfl, h 4 _ rfl, h 5 _ rfl, h 6 _ rfl, h 7 _ rfl, h 8 _ rfl, h 9 _ rfl, h 10 _ rfl, h 11 _ rfl, h 12 _ rfl⟩

theorem own_upd {W : World} {base n g c : Nat} {l : List Kall} (h : W.ownsRow base 105 6 (.slice (some ⟨g, 0, none⟩) n c) n (rows l)) (hl : l.length = n) {j : Nat} (hj : j < n) (i : Nat) (hi : i < 6) (v : Value) (y : Kall) (hy : y.cells = (l.getD j Kall.none).cells.set i v) :
    (W.setCell ⟨g, j * 6 + i, none⟩ v).ownsRow base 105 6 (.slice (some ⟨g, 0, none⟩) n c) n (rows (l.set j y)) := by
  rw [← rows_set (by rw [hl]; exact hj) i v y hi hy]
  exact own_set h (by omega) _ _ (by show j * 6 + i < n * 6; omega)

theorem set_getD (l : List Kall) (j : Nat) (y : Kall) (h : j < l.length) : (l.set j y).getD j Kall.none = y := by simp [List.getD, h]

/-- Where a call ends: three cells are written, in whatever order. -/
theorem own_end {W : World} {base n g c : Nat} {l : List Kall} (h : W.ownsRow base 105 6 (.slice (some ⟨g, 0, none⟩) n c) n (rows l)) (hl : l.length = n) {j : Nat} (hj : j < n) (x : Kall) (hx : l.getD j Kall.none = x) (k q : Int) :
    (((W.setCell ⟨g, j * 6 + 1, none⟩ (.int .i64 k)).setCell ⟨g, j * 6 + 2, none⟩ (.bool false)).setCell ⟨g, j * 6 + 5, none⟩ (.int .i64 q)).ownsRow base 105 6 (.slice (some ⟨g, 0, none⟩) n c) n (rows (l.set j ⟨x.beg, k, false, x.put, x.value, q⟩)) ∧
    (((W.setCell ⟨g, j * 6 + 1, none⟩ (.int .i64 k)).setCell ⟨g, j * 6 + 5, none⟩ (.int .i64 q)).setCell ⟨g, j * 6 + 2, none⟩ (.bool false)).ownsRow base 105 6 (.slice (some ⟨g, 0, none⟩) n c) n (rows (l.set j ⟨x.beg, k, false, x.put, x.value, q⟩)) ∧
    (((W.setCell ⟨g, j * 6 + 2, none⟩ (.bool false)).setCell ⟨g, j * 6 + 1, none⟩ (.int .i64 k)).setCell ⟨g, j * 6 + 5, none⟩ (.int .i64 q)).ownsRow base 105 6 (.slice (some ⟨g, 0, none⟩) n c) n (rows (l.set j ⟨x.beg, k, false, x.put, x.value, q⟩)) ∧
    (((W.setCell ⟨g, j * 6 + 2, none⟩ (.bool false)).setCell ⟨g, j * 6 + 5, none⟩ (.int .i64 q)).setCell ⟨g, j * 6 + 1, none⟩ (.int .i64 k)).ownsRow base 105 6 (.slice (some ⟨g, 0, none⟩) n c) n (rows (l.set j ⟨x.beg, k, false, x.put, x.value, q⟩)) ∧
    (((W.setCell ⟨g, j * 6 + 5, none⟩ (.int .i64 q)).setCell ⟨g, j * 6 + 1, none⟩ (.int .i64 k)).setCell ⟨g, j * 6 + 2, none⟩ (.bool false)).ownsRow base 105 6 (.slice (some ⟨g, 0, none⟩) n c) n (rows (l.set j ⟨x.beg, k, false, x.put, x.value, q⟩)) ∧
    (((W.setCell ⟨g, j * 6 + 5, none⟩ (.int .i64 q)).setCell ⟨g, j * 6 + 2, none⟩ (.bool false)).setCell ⟨g, j * 6 + 1, none⟩ (.int .i64 k)).ownsRow base 105 6 (.slice (some ⟨g, 0, none⟩) n c) n (rows (l.set j ⟨x.beg, k, false, x.put, x.value, q⟩)) := by
  have hlj : j < l.length := by omega
  have chain : ∀ (i1 i2 i3 : Nat) (v1 v2 v3 : Value) (y1 y2 : Kall), i1 < 6 → i2 < 6 → i3 < 6 → y1.cells = x.cells.set i1 v1 → y2.cells = y1.cells.set i2 v2 → Kall.cells ⟨x.beg, k, false, x.put, x.value, q⟩ = y2.cells.set i3 v3 →
      (((W.setCell ⟨g, j * 6 + i1, none⟩ v1).setCell ⟨g, j * 6 + i2, none⟩ v2).setCell ⟨g, j * 6 + i3, none⟩ v3).ownsRow base 105 6 (.slice (some ⟨g, 0, none⟩) n c) n (rows (l.set j ⟨x.beg, k, false, x.put, x.value, q⟩)) := by
    intro i1 i2 i3 v1 v2 v3 y1 y2 h1 h2 h3 e1 e2 e3
    have a1 := own_upd h hl hj i1 h1 v1 y1 (by rw [hx]; exact e1)
    have a2 := own_upd a1 (by simp [hl]) hj i2 h2 v2 y2 (by rw [set_getD l j y1 hlj]; exact e2)
    have a3 := own_upd a2 (by simp [hl]) hj i3 h3 v3 ⟨x.beg, k, false, x.put, x.value, q⟩ (by rw [set_getD _ j y2 (by simp; exact hlj)]; exact e3)
    simpa using a3
  exact ⟨chain 1 2 5 _ _ _ ⟨x.beg, k, x.opn, x.put, x.value, x.code⟩ ⟨x.beg, k, false, x.put, x.value, x.code⟩ (by omega) (by omega) (by omega) rfl rfl rfl,
    chain 1 5 2 _ _ _ ⟨x.beg, k, x.opn, x.put, x.value, x.code⟩ ⟨x.beg, k, x.opn, x.put, x.value, q⟩ (by omega) (by omega) (by omega) rfl rfl rfl,
    chain 2 1 5 _ _ _ ⟨x.beg, x.fin, false, x.put, x.value, x.code⟩ ⟨x.beg, k, false, x.put, x.value, x.code⟩ (by omega) (by omega) (by omega) rfl rfl rfl,
    chain 2 5 1 _ _ _ ⟨x.beg, x.fin, false, x.put, x.value, x.code⟩ ⟨x.beg, x.fin, false, x.put, x.value, q⟩ (by omega) (by omega) (by omega) rfl rfl rfl,
    chain 5 1 2 _ _ _ ⟨x.beg, x.fin, x.opn, x.put, x.value, q⟩ ⟨x.beg, k, x.opn, x.put, x.value, q⟩ (by omega) (by omega) (by omega) rfl rfl rfl,
    chain 5 2 1 _ _ _ ⟨x.beg, x.fin, x.opn, x.put, x.value, q⟩ ⟨x.beg, x.fin, false, x.put, x.value, q⟩ (by omega) (by omega) (by omega) rfl rfl rfl⟩

abbrev kbx (x : Kall) : Obj := .cells #[.int .i64 x.beg, .int .i64 x.fin, .bool x.opn, .bool x.put, .int .i64 x.value, .int .i64 x.code] 105

theorem grown_cell {w w' : World} {row : Option Nat} (hg : w.grownBy w' row) {p : Addr} (hlt : p.block < w.heap.size) (hne : some p.block ≠ row) : w'.cell? p = w.cell? p := World.cell?_of_block (hg.block _ hlt hne)

theorem own_ne {w : World} {base : Nat} {e : TypeId} {s n b : Nat} {v : Value} {xs : List Value} (h : w.ownsRow base e s v n xs) (hb : b < base) : v.ownBlock ≠ some b := fun he => by
  have := own_block h b he
  omega

/-- The map has turned: all else stands. -/
theorem map_turned {w W W' : World} {b : Nat} (hg : W.grownBy W' (some b)) (hB : Below w.heap.size w W) (hb : w.heap.size = b) : Below w.heap.size w W' :=
  hB.trans ((Below.refl _ _).grown hg hB.size (fun k hk => by injection hk with hk; omega))

set_option maxHeartbeats 8000000 in
set_option maxRecDepth 100000 in
theorem calls_any (A : Option Addr) (c : Nat) (l : List Nte) (w : World) (hl : l.length ≤ 1048576) (hok : ThreadsOk l) (hR : Rd w A (rows l)) :
    Calls Tryz.prog 52 #[.slice A l.length c] w (RetRows (callsS l) w) := by
  have HR := Lib.hid hR
  have HOK := Lib.hid hok
  clear hR hok
  generalize hn : l.length = n at *
  have HN := Lib.hid hn
  clear hn
  have hmm := @run_makeMap Tryz.prog
  go_enter Tryz.func52, Tryz.ntmps52
  go_wp2
  clear hmm
  go_loopg [3, 13] n (fun g v i wr => ∃ (k : Nat) (V : Option Addr) (cv m : Nat) (D : DataW Unit), k ≤ n ∧ g = n - k ∧ i = .int .i64 k ∧ v = .slice V (runC l k).out.length cv ∧ m ≤ k ∧ MapIs D (runC l k).last ∧
      wr.ownsMap Tryz.prog 3 (plainElem Tryz.prog 3) w.heap.size m D ∧ wr.ownsRow (w.heap.size + 1) 105 6 (.slice V (runC l k).out.length cv) (runC l k).out.length (rows (runC l k).out) ∧ w.heap.size < wr.heap.size ∧ Below w.heap.size w wr)
  case atStart => exact ⟨0, none, 0, 0, .map [], Nat.zero_le _, rfl, rfl, rfl, Nat.le_refl _, mapIs_empty, World.ownsMap_made _ _ _ _, own_nil _ _ _ _, by simp, (Below.refl _ _).alloc (Nat.le_refl _) _⟩
  case round =>
    obtain ⟨k, V, cv, m, D, hk, hg, rfl, rfl, hm, hmap, hown, hrow, hsz, hb⟩ := hrel
    have HG := Lib.hid hg
    have HMAP := Lib.hid hmap
    have HB := Lib.hid hb
    have hlen := runC_len l k
    have HLEN := Lib.hid hlen
    have hlen1 := hlen.1
    clear hg hmap hb hlen
    by_cases hlt : k < n
    · have hkl : k < l.length := by rw [HN.out]; exact hlt
      obtain ⟨b, o, rfl, hbl, hc⟩ := HR.out.at_ (by rw [rows_length]; exact Nat.mul_pos (by omega) (by decide))
      have hcr : ∀ j v, (rows l)[j]? = some v → wr.cell? ⟨b, o + j, none⟩ = some v := fun j v hj => by
        rw [HB.out.cell (p := ⟨b, o + j, none⟩) hbl]; exact hc j v hj
      generalize hx : l.getD k Nte.none = x
      obtain ⟨c0, c1, c2, c3, c4, c5, c6, c7, c8, c9, c10, c11, c12⟩ := note_cells hcr hkl hx
      have hxl : x ∈ l := by rw [← hx]; simp [List.getD, hkl]
      have hwf := HOK.out x hxl
      have hrun : runC l (k + 1) = stepC n (runC l k) k x := by rw [runC, hx, HN.out]
      have HRUN := Lib.hid hrun
      have HKEY := Lib.hid (keyOf_int_mk Tryz.underlying3 hwf)
      have HHAS := Lib.hid (HMAP.out.has x.thread)
      clear hc hcr hx hxl hkl hwf hrun
      generalize runC l k = s at *
      have q1 : (0 : Int) ≤ (k : Int) := by omega
      have q2 : (k : Int) < (n : Int) := by omega
      have hownA := hown.alloc (nbox x)
      have hrowA := hrow.alloc (nbox x)
      have hbA := HB.out.alloc HB.out.size (nbox x)
      have HLT := Lib.hid hrow.lt
      have HOWN := Lib.hid hownA
      have HROW := Lib.hid hrowA
      have HBA := Lib.hid hbA
      clear hown hrow hownA hrowA hbA HB
      generalize hno : s.out.length = no at *
      have HNO := Lib.hid hno
      clear hno
      go_upto_region 6 with (fail)
      have hbox : ∀ j v, x.cells[j]? = some v → (wr.alloc (nbox x)).cell? ⟨wr.heap.size, j, none⟩ = some v := fun j v hj => by
        rw [World.cell?_alloc_at (hn := rfl), ← hj]; simp [Nte.cells]
      have hgo : wr.heap.size < (wr.alloc (nbox x)).heap.size := by simp
      have HBOX := Lib.hid hbox
      clear hbox c0 c1 c2 c3 c4 c5 c6 c7 c8 c9 c10 c11 c12
      generalize wr.alloc (nbox x) = wo at *
      generalize wr.heap.size = gb at *
      have b0 := HBOX.out 0 _ rfl
      have b1 := HBOX.out 1 _ rfl
      have b4 := HBOX.out 4 _ rfl
      have b6 := HBOX.out 6 _ rfl
      have b11 := HBOX.out 11 _ rfl
      have b12 := HBOX.out 12 _ rfl
      have hgne : ¬ gb = w.heap.size := by omega
      have HWF := Lib.hid (show (Lit.int .i64 (no : Int)).wf = true from WalkArith.wf_i64 (by omega))
      by_cases hk1 : x.kind = 1
      · have t1 : (x.kind == 1) = true := by simp [hk1]
        have t3 : (x.kind == 3) = false := by simp [hk1]
        have HK := Lib.hid hk1
        clear hk1
        by_cases hr8 : x.rkind = 8
        · have t8 : (x.rkind == 8) = true := by simp [hr8]
          have HR89 := Lib.hid (show x.rkind = 8 ∨ x.rkind = 9 from .inl hr8)
          clear hr8
          go_wp2_with (first
            | (at_lookup; refine wpList_lookup_own_ok_int _ rfl _ _ 138 rfl 3 3 .i64 int_law Tryz.underlying138 Tryz.underlying3 (int_zero _) w.heap.size m D rfl HOWN.out _ _ rfl HKEY.out ?_; intro cc hat hwc; clear hat hwc)
            | (at_delete; refine wpList_delete_own _ rfl _ _ 138 3 rfl 3 int_law Tryz.underlying138 _ w.heap.size m D rfl HOWN.out _ _ rfl HKEY.out ?_; intro w1 hown1 hturn1; have HG1 := Lib.hid hturn1.grown; have HOWN1 := Lib.hid hown1; have hkp := fun o => grown_cell HG1.out (p := ⟨gb, o, none⟩) hgo (by simp; omega); clear hown1 hturn1)
            | (at_mapUpdate; refine wpList_mapUpdate_own _ rfl _ _ _ 138 rfl 3 3 int_law Tryz.underlying138 _ w.heap.size m _ rfl HOWN1.out (by unfold maxLen; omega) _ _ _ rfl rfl HKEY.out _ [] (plainElem_int Tryz.underlying3 HWF.out) ?_; intro w2 hown2 hgrow2; have HG2 := Lib.hid hgrow2; have HOWN2 := Lib.hid hown2; have hkp2 := fun o => grown_cell HG2.out (p := ⟨gb, o, none⟩) (Nat.lt_of_lt_of_le hgo HG1.out.size) (by simp; omega); have HR2 := Lib.hid ((HROW.out.kept HG1.out (.inr (own_ne HROW.out (by omega)))).kept HG2.out (.inr (own_ne HROW.out (by omega)))); have hs2 : w.heap.size + 1 ≤ w2.heap.size := (by have := HG1.out.size; have := HG2.out.size; omega); clear hown2 hgrow2)
            | (at_builtin; refine wpList_app rfl (.tmp 47) (.tmp 59) 101 105 rfl (w.heap.size + 1) (kallV Kall.none) 6 40 Tryz.underlying101 Kall_info rfl (by decide) V no cv (rows s.out) rfl (HR2.out.alloc _) (some ⟨w2.heap.size, 0, none⟩) 1 1 (rows [(⟨k, n, true, true, x.rvalue, 0⟩ : Kall)]) rfl (by simp) rfl (blk_new rfl).rd (rows_one _) (no + 1) rfl (rows (s.out ++ [(⟨k, n, true, true, x.rvalue, 0⟩ : Kall)])) (rows_append _ _).symm (by unfold maxLen; omega) (by omega) (by simp; omega) ?_; intro V3 cv3 w3 hown3 hg3 hb3; have HOWN3 := Lib.hid hown3; have HG3 := Lib.hid hg3; have HB3 := Lib.hid hb3; clear hown3 hg3 hb3))
          go_roundg (n - (k + 1))
          case measure => rw [HG.out]; omega
          case rel =>
            have hstep : stepC n s k x = ⟨s.out ++ [(⟨k, n, true, true, x.rvalue, 0⟩ : Kall)], fun t => if t = x.thread then some no else s.last t⟩ := by
              rw [stepC, if_pos HK.out, if_pos HR89.out, HNO.out]; unfold begK; rw [t8]
            have hall := (World.grownBy_alloc w2 (kbx ⟨k, n, true, true, x.rvalue, 0⟩) (Value.ownBlock (.slice V no cv))).trans HG3.out
            refine ⟨k + 1, V3, cv3, m + 1, _, by omega, rfl, by go_num, ?_, by omega, ?_, (HOWN2.out.kept hall (Ne.symm (own_ne HROW.out (by omega)))), ?_, ?_, ?_⟩
            · rw [HRUN.out, hstep]; simp [HNO.out]
            · rw [HRUN.out, hstep]
              have h := (HMAP.out.del x.thread).put x.thread no
              have e : (fun u => if u = x.thread then some no else (fun u => if u = x.thread then none else s.last u) u) = (fun t => if t = x.thread then some no else s.last t) := by
                funext u; by_cases hu : u = x.thread <;> simp [hu]
              rw [e] at h
              exact h
            · rw [HRUN.out, hstep]
              simp only [List.length_append, List.length_cons, List.length_nil, HNO.out]
              exact HOWN3.out
            · have := HB3.out.size; simp at this; omega
            · exact (((map_turned HG2.out (map_turned HG1.out HBA.out rfl) rfl).alloc (by omega) _).trans (HB3.out.mono (by omega)))
        · have t8 : (x.rkind == 8) = false := by simpa using hr8
          by_cases hr9 : x.rkind = 9
          · have t9 : (x.rkind == 9) = true := by simp [hr9]
            have HR89 := Lib.hid (show x.rkind = 8 ∨ x.rkind = 9 from .inr hr9)
            clear hr9 hr8
            go_wp2_with (first
              | (at_lookup; refine wpList_lookup_own_ok_int _ rfl _ _ 138 rfl 3 3 .i64 int_law Tryz.underlying138 Tryz.underlying3 (int_zero _) w.heap.size m D rfl HOWN.out _ _ rfl HKEY.out ?_; intro cc hat hwc; clear hat hwc)
              | (at_delete; refine wpList_delete_own _ rfl _ _ 138 3 rfl 3 int_law Tryz.underlying138 _ w.heap.size m D rfl HOWN.out _ _ rfl HKEY.out ?_; intro w1 hown1 hturn1; have HG1 := Lib.hid hturn1.grown; have HOWN1 := Lib.hid hown1; have hkp := fun o => grown_cell HG1.out (p := ⟨gb, o, none⟩) hgo (by simp; omega); clear hown1 hturn1)
              | (at_mapUpdate; refine wpList_mapUpdate_own _ rfl _ _ _ 138 rfl 3 3 int_law Tryz.underlying138 _ w.heap.size m _ rfl HOWN1.out (by unfold maxLen; omega) _ _ _ rfl rfl HKEY.out _ [] (plainElem_int Tryz.underlying3 HWF.out) ?_; intro w2 hown2 hgrow2; have HG2 := Lib.hid hgrow2; have HOWN2 := Lib.hid hown2; have hkp2 := fun o => grown_cell HG2.out (p := ⟨gb, o, none⟩) (Nat.lt_of_lt_of_le hgo HG1.out.size) (by simp; omega); have HR2 := Lib.hid ((HROW.out.kept HG1.out (.inr (own_ne HROW.out (by omega)))).kept HG2.out (.inr (own_ne HROW.out (by omega)))); have hs2 : w.heap.size + 1 ≤ w2.heap.size := (by have := HG1.out.size; have := HG2.out.size; omega); clear hown2 hgrow2)
              | (at_builtin; refine wpList_app rfl (.tmp 47) (.tmp 59) 101 105 rfl (w.heap.size + 1) (kallV Kall.none) 6 40 Tryz.underlying101 Kall_info rfl (by decide) V no cv (rows s.out) rfl (HR2.out.alloc _) (some ⟨w2.heap.size, 0, none⟩) 1 1 (rows [(⟨k, n, true, false, x.rvalue, 0⟩ : Kall)]) rfl (by simp) rfl (blk_new rfl).rd (rows_one _) (no + 1) rfl (rows (s.out ++ [(⟨k, n, true, false, x.rvalue, 0⟩ : Kall)])) (rows_append _ _).symm (by unfold maxLen; omega) (by omega) (by simp; omega) ?_; intro V3 cv3 w3 hown3 hg3 hb3; have HOWN3 := Lib.hid hown3; have HG3 := Lib.hid hg3; have HB3 := Lib.hid hb3; clear hown3 hg3 hb3))
            go_roundg (n - (k + 1))
            case measure => rw [HG.out]; omega
            case rel =>
              have hstep : stepC n s k x = ⟨s.out ++ [(⟨k, n, true, false, x.rvalue, 0⟩ : Kall)], fun t => if t = x.thread then some no else s.last t⟩ := by
                rw [stepC, if_pos HK.out, if_pos HR89.out, HNO.out]; unfold begK; rw [t8]
              have hall := (World.grownBy_alloc w2 (kbx ⟨k, n, true, false, x.rvalue, 0⟩) (Value.ownBlock (.slice V no cv))).trans HG3.out
              refine ⟨k + 1, V3, cv3, m + 1, _, by omega, rfl, by go_num, ?_, by omega, ?_, (HOWN2.out.kept hall (Ne.symm (own_ne HROW.out (by omega)))), ?_, ?_, ?_⟩
              · rw [HRUN.out, hstep]; simp [HNO.out]
              · rw [HRUN.out, hstep]
                have h := (HMAP.out.del x.thread).put x.thread no
                have e : (fun u => if u = x.thread then some no else (fun u => if u = x.thread then none else s.last u) u) = (fun t => if t = x.thread then some no else s.last t) := by
                  funext u; by_cases hu : u = x.thread <;> simp [hu]
                rw [e] at h
                exact h
              · rw [HRUN.out, hstep]
                simp only [List.length_append, List.length_cons, List.length_nil, HNO.out]
                exact HOWN3.out
              · have := HB3.out.size; simp at this; omega
              · exact (((map_turned HG2.out (map_turned HG1.out HBA.out rfl) rfl).alloc (by omega) _).trans (HB3.out.mono (by omega)))
          · have t9 : (x.rkind == 9) = false := by simpa using hr9
            have HR89 := Lib.hid (show ¬ (x.rkind = 8 ∨ x.rkind = 9) from fun h => h.elim hr8 hr9)
            clear hr8 hr9
            go_wp2_with (first
              | (at_lookup; refine wpList_lookup_own_ok_int _ rfl _ _ 138 rfl 3 3 .i64 int_law Tryz.underlying138 Tryz.underlying3 (int_zero _) w.heap.size m D rfl HOWN.out _ _ rfl HKEY.out ?_; intro cc hat hwc; clear hat hwc)
              | (at_delete; refine wpList_delete_own _ rfl _ _ 138 3 rfl 3 int_law Tryz.underlying138 _ w.heap.size m D rfl HOWN.out _ _ rfl HKEY.out ?_; intro w1 hown1 hturn1; have HG1 := Lib.hid hturn1.grown; have HOWN1 := Lib.hid hown1; have hkp := fun o => grown_cell HG1.out (p := ⟨gb, o, none⟩) hgo (by simp; omega); clear hown1 hturn1))
            go_roundg (n - (k + 1))
            case measure => rw [HG.out]; omega
            case rel =>
              have hstep : stepC n s k x = ⟨s.out, fun t => if t = x.thread then none else s.last t⟩ := by
                rw [stepC, if_pos HK.out, if_neg HR89.out]
              refine ⟨k + 1, V, cv, m, _, by omega, rfl, by go_num, ?_, by omega, ?_, HOWN1.out, ?_, ?_, ?_⟩
              · rw [HRUN.out, hstep]; simp [HNO.out]
              · rw [HRUN.out, hstep]; exact HMAP.out.del x.thread
              · rw [HRUN.out, hstep]
                simp only [HNO.out]
                exact HROW.out.kept HG1.out (.inr (own_ne HROW.out (by omega)))
              · have := HG1.out.size; omega
              · exact map_turned HG1.out HBA.out rfl
      · have t1 : (x.kind == 1) = false := by simpa using hk1
        by_cases hk3 : x.kind = 3
        · have t3 : (x.kind == 3) = true := by simp [hk3]
          have HK := Lib.hid (And.intro hk1 hk3)
          clear hk1 hk3
          cases hla : s.last x.thread with
          | none =>
            have hh := HHAS.out
            rw [hla] at hh
            have HH := Lib.hid hh
            have HLA := Lib.hid hla
            clear hh hla
            go_wp2_with (first
              | (at_lookup; refine wpList_lookup_own_ok_int _ rfl _ _ 138 rfl 3 3 .i64 int_law Tryz.underlying138 Tryz.underlying3 (int_zero _) w.heap.size m D rfl HOWN.out _ _ rfl HKEY.out ?_; intro cc hat hwc; clear hat hwc; rw [show Maps.has D (Lit.int .i64 x.thread) = false from HH.out]))
            go_roundg (n - (k + 1))
            case measure => rw [HG.out]; omega
            case rel =>
              have hstep : stepC n s k x = s := by
                rw [stepC, if_neg HK.out.1, if_pos HK.out.2, HLA.out]
              refine ⟨k + 1, V, cv, m, D, by omega, rfl, by go_num, ?_, by omega, ?_, HOWN.out, ?_, ?_, HBA.out⟩
              · rw [HRUN.out, hstep, HNO.out]
              · rw [HRUN.out, hstep]; exact HMAP.out
              · rw [HRUN.out, hstep, HNO.out]; exact HROW.out
              · omega
          | some j =>
            have hh := HHAS.out
            rw [hla] at hh
            have HH := Lib.hid hh
            have HLA := Lib.hid hla
            have HAT := Lib.hid (HMAP.out.at_ x.thread j hla)
            have hj : j < no := HLEN.out.2 _ _ hla
            clear hh hla
            obtain ⟨g, rfl, hg1, hg2⟩ := own_some HROW.out (by omega)
            have jq1 : (0 : Int) ≤ (j : Int) := by omega
            have jq2 : (j : Int) < (no : Int) := by omega
            go_wp2_with (first
              | (at_lookup; refine wpList_lookup_own_ok_int _ rfl _ _ 138 rfl 3 3 .i64 int_law Tryz.underlying138 Tryz.underlying3 (int_zero _) w.heap.size m D rfl HOWN.out _ _ rfl HKEY.out ?_; intro cc hat hwc; rw [show Maps.has D (Lit.int .i64 x.thread) = true from HH.out]; have hcc : cc = (j : Int) := (by have h := HAT.out; rw [hat] at h; injection h with h; injection h with _ h); clear hat hwc; subst hcc)
              | (at_delete; refine wpList_delete_own _ rfl _ _ 138 3 rfl 3 int_law Tryz.underlying138 _ w.heap.size m D rfl HOWN.out _ _ rfl HKEY.out ?_; intro w1 hown1 hturn1; have HG1 := Lib.hid hturn1.grown; have HOWN1 := Lib.hid hown1; have hkp := fun o => grown_cell HG1.out (p := ⟨gb, o, none⟩) hgo (by simp; omega); clear hown1 hturn1))
            have hgb : g < gb := (HLT.out g rfl).2
            have hW1 := HROW.out.kept HG1.out (.inr (own_ne HROW.out (by omega)))
            generalize hy : s.out.getD j Kall.none = y
            obtain ⟨_, _, he, _, hcw⟩ := (own_rd hW1).at_ (by rw [rows_length, HNO.out]; exact Nat.mul_pos (by omega) (by decide))
            simp only [Option.some.injEq, Addr.mk.injEq, and_true] at he
            obtain ⟨rfl, rfl⟩ := he
            obtain ⟨d0, d1, d2, d3, d4, d5⟩ := kall_cells hcw (k := j) (x := y) (by rw [HNO.out]; exact hj) hy
            simp only [Nat.zero_add] at d0 d1 d2 d3 d4 d5
            obtain ⟨_, hge, _, _, hfz, _⟩ := own_form hW1 (by omega)
            injection hge with hge
            injection hge with hge
            subst hge
            have f1 := hfz (j * 6 + 1)
            have f2 := hfz (j * 6 + 2)
            have f4 := hfz (j * 6 + 4)
            have f5 := hfz (j * 6 + 5)
            have b11' : w1.cell? ⟨gb, 11, none⟩ = some (.int .i64 x.qcode) := by rw [hkp]; exact b11
            have b12' : w1.cell? ⟨gb, 12, none⟩ = some (.int .i64 x.qvalue) := by rw [hkp]; exact b12
            have HY := Lib.hid hy
            have HE := Lib.hid (own_end hW1 HNO.out hj y hy k x.qcode)
            have HW1 := Lib.hid hW1
            have hgne3 : ¬ gb = g := by omega
            have hgne4 : ¬ g = gb := by omega
            clear hW1 hcw hfz hy hkp b0 b1 b4 b6 b11 b12
            go_region_held3 (fun w' => w'.cell? ⟨gb, 11, none⟩ = some (.int .i64 x.qcode)) (go_keep) (fail)
            have hO5 : Only g w1 (((w1.setCell ⟨g, j * 6 + 1, none⟩ (.int .i64 k)).setCell ⟨g, j * 6 + 2, none⟩ (.bool false)).setCell ⟨g, j * 6 + 5, none⟩ (.int .i64 x.qcode)) := (((Only.refl g w1).set_ _ _).set_ _ _).set_ _ _
            have hW5 := HE.out.1
            have b12'' : (((w1.setCell ⟨g, j * 6 + 1, none⟩ (.int .i64 k)).setCell ⟨g, j * 6 + 2, none⟩ (.bool false)).setCell ⟨g, j * 6 + 5, none⟩ (.int .i64 x.qcode)).cell? ⟨gb, 12, none⟩ = some (.int .i64 x.qvalue) := by
              rw [hO5.cell (p := ⟨gb, 12, none⟩) (Nat.lt_of_lt_of_le hgo HG1.out.size) hgne3]; exact b12'
            clear HE d0 d1 d2 d3 d4 d5 f1 f2 f4 f5 b11' b12'
            generalize (((w1.setCell ⟨g, j * 6 + 1, none⟩ (.int .i64 k)).setCell ⟨g, j * 6 + 2, none⟩ (.bool false)).setCell ⟨g, j * 6 + 5, none⟩ (.int .i64 x.qcode)) = w5 at *
            have hl5 : (s.out.set j ⟨y.beg, k, false, y.put, y.value, x.qcode⟩).length = no := by rw [List.length_set]; exact HNO.out
            obtain ⟨_, _, he, _, hcw⟩ := (own_rd hW5).at_ (by rw [rows_length, hl5]; exact Nat.mul_pos (by omega) (by decide))
            simp only [Option.some.injEq, Addr.mk.injEq, and_true] at he
            obtain ⟨rfl, rfl⟩ := he
            obtain ⟨_, _, _, d3, d4, _⟩ := kall_cells hcw (k := j) (x := ⟨y.beg, k, false, y.put, y.value, x.qcode⟩) (by rw [hl5]; exact hj) (set_getD _ _ _ (by rw [HNO.out]; exact hj))
            simp only [Nat.zero_add] at d3 d4
            obtain ⟨_, hge, _, _, hfz, _⟩ := own_form hW5 (by omega)
            injection hge with hge
            injection hge with hge
            subst hge
            have f4 := hfz (j * 6 + 4)
            have HW5 := Lib.hid hW5
            have HO5 := Lib.hid hO5
            have HW6 := Lib.hid (own_upd hW5 hl5 hj 4 (by omega) (.int .i64 x.qvalue) ⟨y.beg, k, false, y.put, x.qvalue, x.qcode⟩ (by rw [set_getD _ _ _ (by rw [HNO.out]; exact hj)]; rfl))
            have HRST : RowKit.Hid (∀ (v : Int) (w6 : World), (if y.put = true then y.value else x.qvalue) = v → w6.ownsRow (w.heap.size + 1) 105 6 (.slice (some ⟨g, 0, none⟩) no cv) no (rows (s.out.set j ⟨y.beg, k, false, y.put, v, x.qcode⟩)) → Only g w1 w6 →
                ∃ (k' : Nat) (V' : Option Addr) (cv' m' : Nat) (D' : DataW Unit), k' ≤ n ∧ n - (k + 1) = n - k' ∧ Value.int .i64 ((k : Int) + 1) = .int .i64 k' ∧ Value.slice (some ⟨g, 0, none⟩) no cv = .slice V' (runC l k').out.length cv' ∧ m' ≤ k' ∧ MapIs D' (runC l k').last ∧
                w6.ownsMap Tryz.prog 3 (plainElem Tryz.prog 3) w.heap.size m' D' ∧ w6.ownsRow (w.heap.size + 1) 105 6 (.slice V' (runC l k').out.length cv') (runC l k').out.length (rows (runC l k').out) ∧ w.heap.size < w6.heap.size ∧ Below w.heap.size w w6) := Lib.hid (by
              intro v w6 hv hrow6 hO6
              have hstep : stepC n s k x = ⟨s.out.set j ⟨y.beg, k, false, y.put, v, x.qcode⟩, fun t => if t = x.thread then none else s.last t⟩ := by
                rw [stepC, if_neg HK.out.1, if_pos HK.out.2, HLA.out]
                show (⟨s.out.set j (endK (s.out.getD j Kall.none) k x), _⟩ : CSt) = _
                rw [HY.out, endK, hv]
              have hg6 : w1.grownBy w6 (some g) := ⟨hO6.os, hO6.tape, hO6.output, hO6.size, fun i hi hn => hO6.block i hi (fun e => hn (by rw [e]))⟩
              refine ⟨k + 1, some ⟨g, 0, none⟩, cv, m, _, by omega, rfl, by go_num, ?_, by omega, ?_, HOWN1.out.kept hg6 (by simp; omega), ?_, ?_, ?_⟩
              · rw [HRUN.out, hstep]; simp [HNO.out]
              · rw [HRUN.out, hstep]; exact HMAP.out.del x.thread
              · rw [HRUN.out, hstep]
                simp only [List.length_set, HNO.out]
                exact hrow6
              · have := HG1.out.size; have := hO6.size; omega
              · exact (map_turned HG1.out HBA.out rfl).trans ((hO6.below (B := w.heap.size) (by omega) (by have := HG1.out.size; omega))))
            clear hW5 hcw hfz hl5 hO5
            cases hyp : y.put
            · rw [hyp] at d3
              go_wp2
              go_roundg (n - (k + 1))
              case measure => rw [HG.out]; omega
              case rel =>
                refine HRST.out x.qvalue _ (by rw [hyp]; rfl) ?_ ?_
                · have h := HW6.out
                  rw [List.set_set] at h
                  exact h
                · exact (HO5.out.set_ _ _).drew
            · rw [hyp] at d3
              go_wp2
              go_roundg (n - (k + 1))
              case measure => rw [HG.out]; omega
              case rel =>
                refine HRST.out y.value _ (by rw [hyp]; rfl) ?_ ?_
                · exact HW5.out
                · exact HO5.out.drew
        · have t3 : (x.kind == 3) = false := by simpa using hk3
          have HK := Lib.hid (And.intro hk1 hk3)
          clear hk1 hk3
          go_wp2_with (first
            | (at_lookup; refine wpList_lookup_own_ok_int _ rfl _ _ 138 rfl 3 3 .i64 int_law Tryz.underlying138 Tryz.underlying3 (int_zero _) w.heap.size m D rfl HOWN.out _ _ rfl HKEY.out ?_; intro cc hat hwc; clear hat hwc))
          go_roundg (n - (k + 1))
          case measure => rw [HG.out]; omega
          case rel =>
            have hstep : stepC n s k x = s := by
              rw [stepC, if_neg HK.out.1, if_neg HK.out.2]
            refine ⟨k + 1, V, cv, m, D, by omega, rfl, by go_num, ?_, by omega, ?_, HOWN.out, ?_, ?_, HBA.out⟩
            · rw [HRUN.out, hstep, HNO.out]
            · rw [HRUN.out, hstep]; exact HMAP.out
            · rw [HRUN.out, hstep, HNO.out]; exact HROW.out
            · omega
    · obtain rfl : k = n := by omega
      have HROW := Lib.hid hrow
      clear hown hrow
      have HE := Lib.hid (show callsS l = (runC l k).out by rw [callsS, HN.out])
      generalize hno : (runC l k).out.length = no at *
      have HNO := Lib.hid hno
      clear hno
      go_wp2
      go_ret
      refine ⟨V, cv, ?_, ?_, ?_, fun h => (own_none HROW.out h).2.1, HB.out⟩
      · rw [HE.out, HNO.out]; rfl
      · rw [HE.out]; exact own_rd HROW.out
      · rw [HE.out, HNO.out]; exact own_le HROW.out

end Go.Proofs.YtieglgahfeecbaaGreatDoor

namespace Go.Proofs.YtieglgahfeecbaaGreatDoor
open Go.RowKit Go.Sort

/-- The place of the note that ends a thread's call; -1: none. -/
def endL (th : Int) : List Nte → Nat → Int
  | [], _ => -1
  | n :: r, j => if n.thread = th then (if n.kind = 1 then -1 else if n.kind = 3 then (j : Int) else endL th r (j + 1)) else endL th r (j + 1)
def endS (ns : List Nte) (i : Nat) : Int := endL (ns.getD i Nte.none).thread (ns.drop (i + 1)) (i + 1)

theorem endL_step {ns : List Nte} {th : Int} {k : Nat} (h : k < ns.length) : endL th (ns.drop k) k = if (ns.getD k Nte.none).thread = th then (if (ns.getD k Nte.none).kind = 1 then -1 else if (ns.getD k Nte.none).kind = 3 then (k : Int) else endL th (ns.drop (k + 1)) (k + 1)) else endL th (ns.drop (k + 1)) (k + 1) := by
  rw [List.drop_eq_getElem_cons h, endL]
  simp [List.getD, h]

end Go.Proofs.YtieglgahfeecbaaGreatDoor

namespace Go.Proofs.YtieglgahfeecbaaGreatDoor
open Go.RowKit Go.Sort

def isCall (n : Nte) : Bool := n.kind == 1 && (n.rkind == 8 || n.rkind == 9)
/-- The call that begins at a place. -/
def rcall (ns : List Nte) (i : Nat) : Kall :=
  if endS ns i < 0 then begK ns.length i (ns.getD i Nte.none)
  else endK (begK ns.length i (ns.getD i Nte.none)) (endS ns i).toNat (ns.getD (endS ns i).toNat Nte.none)
def rcallsTo (ns : List Nte) : Nat → List Kall
  | 0 => []
  | k + 1 => if isCall (ns.getD k Nte.none) = true then rcallsTo ns k ++ [rcall ns k] else rcallsTo ns k
def rcallsS (ns : List Nte) : List Kall := rcallsTo ns ns.length

theorem rcalls_len (ns : List Nte) : ∀ k, (rcallsTo ns k).length ≤ k
  | 0 => by simp [rcallsTo]
  | k + 1 => by
    have := rcalls_len ns k
    rw [rcallsTo]
    split
    · simp; omega
    · omega

theorem endL_bd (th : Int) : ∀ (r : List Nte) (j : Nat), endL th r j = -1 ∨ ((j : Int) ≤ endL th r j ∧ endL th r j < (j + r.length : Nat))
  | [], j => .inl rfl
  | n :: r, j => by
    have ih := endL_bd th r (j + 1)
    simp only [endL, List.length_cons]
    split
    · split
      · exact .inl rfl
      · split
        · right; omega
        · omega
    · omega

theorem endS_bd (ns : List Nte) (i : Nat) (h : i < ns.length) : endS ns i = -1 ∨ (0 ≤ endS ns i ∧ endS ns i < ns.length) := by
  have := endL_bd (ns.getD i Nte.none).thread (ns.drop (i + 1)) (i + 1)
  unfold endS
  simp only [List.length_drop] at this
  omega

theorem own_only {g : Nat} {a w : World} {base : Nat} {e : TypeId} {s n : Nat} {v : Value} {xs : List Value} (h : a.ownsRow base e s v n xs) (ho : Only g a w) (hn : v.ownBlock = some g → False) : w.ownsRow base e s v n xs :=
  h.kept (row := some g) ⟨ho.os, ho.tape, ho.output, ho.size, fun i hi hne => ho.block i hi (fun e => hne (by rw [e]))⟩ (.inr (fun h' => hn h'))

theorem rcall_open {ns : List Nte} {i : Nat} (h : endS ns i = -1) : rcall ns i = begK ns.length i (ns.getD i Nte.none) := by
  unfold rcall; rw [h]; rfl
theorem rcall_end {ns : List Nte} {i e : Nat} (h : endS ns i = (e : Int)) : rcall ns i = endK (begK ns.length i (ns.getD i Nte.none)) e (ns.getD e Nte.none) := by
  unfold rcall; rw [h, if_neg (by omega)]; rfl

end Go.Proofs.YtieglgahfeecbaaGreatDoor

namespace Go.Proofs.YtieglgahfeecbaaGreatDoor

/-- A call that is open, ended by what is still to come. -/
def finK (ns : List Nte) (t : Int) (k : Nat) (x : Kall) : Kall :=
  if endL t (ns.drop k) k < 0 then x else endK x (endL t (ns.drop k) k).toNat (ns.getD (endL t (ns.drop k) k).toNat Nte.none)

def runFrom (ns : List Nte) : Nat → Nat → CSt → CSt
  | 0, _, s => s
  | m + 1, k, s => runFrom ns m (k + 1) (stepC ns.length s k (ns.getD k Nte.none))

theorem runC_from (ns : List Nte) : ∀ m k, runC ns (k + m) = runFrom ns m k (runC ns k)
  | 0, k => rfl
  | m + 1, k => by
    rw [runFrom, ← runC, ← runC_from ns m (k + 1)]
    congr 1
    omega

def tailC (ns : List Nte) : Nat → Nat → List Kall
  | 0, _ => []
  | m + 1, k => (if isCall (ns.getD k Nte.none) = true then [rcall ns k] else []) ++ tailC ns m (k + 1)

theorem rcalls_tail (ns : List Nte) : ∀ m k, rcallsTo ns (k + m) = rcallsTo ns k ++ tailC ns m k
  | 0, k => by simp [tailC]
  | m + 1, k => by
    rw [show k + (m + 1) = (k + 1) + m by omega, rcalls_tail ns m (k + 1), rcallsTo, tailC]
    split <;> simp

/-- Whose open call number j is. -/
def Owns (s : CSt) (own : Nat → Option Int) : Prop := ∀ t j, s.last t = some j ↔ (own j = some t ∧ j < s.out.length)

def closeK (ns : List Nte) (own : Nat → Option Int) (k : Nat) (out : List Kall) : List Kall := out.mapIdx fun j x => match own j with
  | some t => finK ns t k x
  | none => x

theorem fin_step {ns : List Nte} {t : Int} {k : Nat} (h : k < ns.length) (x : Kall) : finK ns t k x =
    if (ns.getD k Nte.none).thread = t then (if (ns.getD k Nte.none).kind = 1 then x else if (ns.getD k Nte.none).kind = 3 then endK x k (ns.getD k Nte.none) else finK ns t (k + 1) x) else finK ns t (k + 1) x := by
  unfold finK
  rw [endL_step h]
  by_cases h1 : (ns.getD k Nte.none).thread = t
  · rw [if_pos h1, if_pos h1]
    by_cases h2 : (ns.getD k Nte.none).kind = 1
    · rw [if_pos h2, if_pos h2]; rfl
    · rw [if_neg h2, if_neg h2]
      by_cases h3 : (ns.getD k Nte.none).kind = 3
      · rw [if_pos h3, if_pos h3, if_neg (by omega)]; rfl
      · rw [if_neg h3, if_neg h3]
  · rw [if_neg h1, if_neg h1]

theorem rcall_fin {ns : List Nte} {k : Nat} : rcall ns k = finK ns (ns.getD k Nte.none).thread (k + 1) (begK ns.length k (ns.getD k Nte.none)) := rfl

theorem close_congr {ns : List Nte} {own own' : Nat → Option Int} {k k' : Nat} {out out' : List Kall} (hl : out.length = out'.length)
    (h : ∀ j, j < out.length → (match own j with | some t => finK ns t k (out.getD j Kall.none) | none => out.getD j Kall.none) = (match own' j with | some t => finK ns t k' (out'.getD j Kall.none) | none => out'.getD j Kall.none)) :
    closeK ns own k out = closeK ns own' k' out' := by
  unfold closeK
  apply List.ext_getElem
  · simp [hl]
  · intro j h1 h2
    simp only [List.length_mapIdx] at h1 h2
    have := h j h1
    simp only [List.getElem_mapIdx]
    simpa [List.getD, h1, h2] using this

theorem close_end {ns : List Nte} {own : Nat → Option Int} {k : Nat} (h : ns.length ≤ k) (out : List Kall) : closeK ns own k out = out := by
  unfold closeK
  apply List.ext_getElem
  · simp
  · intro j h1 h2
    simp only [List.getElem_mapIdx]
    cases own j with
    | none => rfl
    | some t =>
      simp only [finK]
      rw [List.drop_of_length_le h]
      rfl

theorem close_append (ns : List Nte) (own : Nat → Option Int) (k : Nat) (out : List Kall) (x : Kall) : closeK ns own k (out ++ [x]) = closeK ns own k out ++ [match own out.length with | some t => finK ns t k x | none => x] := by
  unfold closeK
  rw [List.mapIdx_append]
  simp

theorem run_close (ns : List Nte) : ∀ (m k : Nat) (s : CSt) (own : Nat → Option Int), k + m = ns.length → Owns s own → (runFrom ns m k s).out = closeK ns own k s.out ++ tailC ns m k
  | 0, k, s, own, hk, _ => by
    rw [runFrom, tailC, close_end (by omega), List.append_nil]
  | m + 1, k, s, own, hk, ho => by
    have hkl : k < ns.length := by omega
    rw [runFrom, tailC]
    have hfs := fun t x => fin_step (ns := ns) (t := t) hkl x
    have hrf := rcall_fin (ns := ns) (k := k)
    generalize hx : ns.getD k Nte.none = x at *
    unfold stepC isCall
    by_cases h1 : x.kind = 1
    · rw [if_pos h1]
      by_cases h2 : x.rkind = 8 ∨ x.rkind = 9
      · rw [if_pos h2]
        have hb : (x.kind == 1 && (x.rkind == 8 || x.rkind == 9)) = true := by simpa [h1] using h2
        rw [hb, if_pos rfl]
        -- the new call is the thread's
        have hown : Owns ⟨s.out ++ [begK ns.length k x], fun t => if t = x.thread then some s.out.length else s.last t⟩ (fun j => if j = s.out.length then some x.thread else if own j = some x.thread then none else own j) := by
          intro t j
          simp only [List.length_append, List.length_cons, List.length_nil]
          by_cases ht : t = x.thread
          · subst ht
            rw [if_pos rfl]
            constructor
            · intro h; injection h with h; subst h; simp
            · rintro ⟨h, hj⟩
              by_cases hjo : j = s.out.length
              · rw [hjo]
              · rw [if_neg hjo] at h
                split at h
                · cases h
                · rename_i hne; exact absurd h hne
          · rw [if_neg ht, ho t j]
            constructor
            · rintro ⟨h, hj⟩
              rw [if_neg (by omega), if_neg (by rw [h]; intro e; injection e with e; exact ht e)]
              exact ⟨h, by omega⟩
            · rintro ⟨h, hj⟩
              by_cases hjo : j = s.out.length
              · rw [if_pos hjo] at h; injection h with h; exact absurd h.symm ht
              · rw [if_neg hjo] at h
                split at h
                · cases h
                · exact ⟨h, by omega⟩
        rw [run_close ns m (k + 1) _ _ (by omega) hown, close_append, if_pos rfl, List.append_assoc]
        congr 1
        · refine close_congr rfl fun j hj => ?_
          rw [if_neg (by omega)]
          cases hoj : own j with
          | none => simp
          | some t =>
            by_cases ht : t = x.thread
            · subst ht
              simp only [if_true]
              rw [hfs, if_pos rfl, if_pos h1]
            · rw [if_neg (by intro e; injection e with e; exact ht e)]
              simp only
              rw [hfs, if_neg (fun e => ht e.symm)]
        · rw [hrf]
      · rw [if_neg h2]
        have hb : (x.kind == 1 && (x.rkind == 8 || x.rkind == 9)) = false := by simpa [h1] using h2
        rw [hb, if_neg (by simp), List.nil_append]
        have hown : Owns ⟨s.out, fun t => if t = x.thread then none else s.last t⟩ (fun j => if own j = some x.thread then none else own j) := by
          intro t j
          simp only
          by_cases ht : t = x.thread
          · subst ht
            rw [if_pos rfl]
            constructor
            · intro h; cases h
            · rintro ⟨h, _⟩
              split at h
              · cases h
              · rename_i hne; exact absurd h hne
          · rw [if_neg ht, ho t j]
            constructor
            · rintro ⟨h, hj⟩
              rw [if_neg (by rw [h]; intro e; injection e with e; exact ht e)]
              exact ⟨h, hj⟩
            · rintro ⟨h, hj⟩
              split at h
              · cases h
              · exact ⟨h, hj⟩
        rw [run_close ns m (k + 1) _ _ (by omega) hown]
        congr 1
        refine close_congr rfl fun j hj => ?_
        cases hoj : own j with
        | none => simp
        | some t =>
          by_cases ht : t = x.thread
          · subst ht
            simp only [if_true]
            rw [hfs, if_pos rfl, if_pos h1]
          · rw [if_neg (by intro e; injection e with e; exact ht e)]
            simp only
            rw [hfs, if_neg (fun e => ht e.symm)]
    · rw [if_neg h1]
      have hb : (x.kind == 1 && (x.rkind == 8 || x.rkind == 9)) = false := by simp [h1]
      rw [hb, if_neg (show ¬ (false = true) by simp), List.nil_append]
      by_cases h3 : x.kind = 3
      · rw [if_pos h3]
        cases hla : s.last x.thread with
        | none =>
          simp only
          rw [run_close ns m (k + 1) s own (by omega) ho]
          congr 1
          refine close_congr rfl fun j hj => ?_
          cases hoj : own j with
          | none => rfl
          | some t =>
            simp only
            rw [hfs]
            by_cases ht : x.thread = t
            · have := (ho t j).2 ⟨hoj, hj⟩
              rw [← ht, hla] at this
              cases this
            · rw [if_neg ht]
        | some j0 =>
          simp only
          obtain ⟨hj0, hj0l⟩ := (ho x.thread j0).1 hla
          have hown : Owns ⟨s.out.set j0 (endK (s.out.getD j0 Kall.none) k x), fun t => if t = x.thread then none else s.last t⟩ (fun j => if own j = some x.thread then none else own j) := by
            intro t j
            simp only [List.length_set]
            by_cases ht : t = x.thread
            · subst ht
              rw [if_pos rfl]
              constructor
              · intro h; cases h
              · rintro ⟨h, _⟩
                split at h
                · cases h
                · rename_i hne; exact absurd h hne
            · rw [if_neg ht, ho t j]
              constructor
              · rintro ⟨h, hj⟩
                rw [if_neg (by rw [h]; intro e; injection e with e; exact ht e)]
                exact ⟨h, hj⟩
              · rintro ⟨h, hj⟩
                split at h
                · cases h
                · exact ⟨h, hj⟩
          rw [run_close ns m (k + 1) _ _ (by omega) hown]
          congr 1
          refine close_congr (by simp) fun j hj => ?_
          simp only [List.length_set] at hj
          by_cases hjj : j = j0
          · subst hjj
            rw [hj0, if_pos rfl, set_getD _ _ _ hj]
            simp only
            rw [hfs, if_pos rfl, if_neg h1, if_pos h3]
          · have hg : (s.out.set j0 (endK (s.out.getD j0 Kall.none) k x)).getD j Kall.none = s.out.getD j Kall.none := by
              simp only [List.getD]
              rw [List.getElem?_set_ne (fun e => hjj e.symm)]
            rw [hg]
            cases hoj : own j with
            | none => simp
            | some t =>
              by_cases ht : t = x.thread
              · subst ht
                have h2 := (ho x.thread j).2 ⟨hoj, hj⟩
                rw [hla] at h2
                injection h2 with h2
                exact absurd h2.symm hjj
              · rw [if_neg (by intro e; injection e with e; exact ht e)]
                simp only
                rw [hfs, if_neg (fun e => ht e.symm)]
      · rw [if_neg h3, run_close ns m (k + 1) s own (by omega) ho]
        congr 1
        refine close_congr rfl fun j hj => ?_
        cases own j with
        | none => rfl
        | some t =>
          simp only
          rw [hfs]
          split
          · first | rfl | rw [if_neg h1, if_neg h3]
          · rfl

/-- The calls are the document's. -/
theorem calls_same (ns : List Nte) : callsS ns = rcallsS ns := by
  have h := run_close ns ns.length 0 ⟨[], fun _ => none⟩ (fun _ => none) (by omega) (fun t j => by simp)
  have h2 := runC_from ns ns.length 0
  have h3 := rcalls_tail ns ns.length 0
  simp only [Nat.zero_add] at h2 h3
  unfold callsS rcallsS
  rw [h2, h3]
  show (runFrom ns ns.length 0 ⟨[], fun _ => none⟩).out = _
  rw [h]
  rfl

end Go.Proofs.YtieglgahfeecbaaGreatDoor

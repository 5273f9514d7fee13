/- slices.IndexFunc and DeleteFunc over rows of accesses. -/
import Derived.Test.YtiioedgdhkndgaaDoorAcc
import Derived.Test.YtiioedgdhkndgaaDoorEq
import Derived.Test.YtiioedgdhkndgaaDoorDelG
import Derived.Test.YtiioedgdhkndgaaDoorFnG
import Derived.Test.YtiioedgdhkndgaaDoorTrcOpen
namespace Go.Proofs.YtiioedgdhkndgaaDoor
open Go.RowKit Go.Sort

theorem accs_rows (l : List Acc) : accs l = rows l := rfl

theorem acc7_cells {w : World} {b o : Nat} {l : List Acc} (hc : ∀ k v, (rows l)[k]? = some v → w.cell? ⟨b, o + k, none⟩ = some v) {k : Nat} (hk : k < l.length) {x : Acc} (hx : l.getD k Acc.none = x) :
    w.cell? ⟨b, o + k * 7, none⟩ = some (.int .i64 x.thread) ∧ w.cell? ⟨b, o + k * 7 + 1, none⟩ = some (.int .i64 x.kind) ∧ w.cell? ⟨b, o + k * 7 + 2, none⟩ = some (.int .i64 x.addr) ∧ w.cell? ⟨b, o + k * 7 + 3, none⟩ = some (.int .u64 x.want) ∧
    w.cell? ⟨b, o + k * 7 + 4, none⟩ = some (.int .u64 x.old) ∧ w.cell? ⟨b, o + k * 7 + 5, none⟩ = some (.int .u64 x.now) ∧ w.cell? ⟨b, o + k * 7 + 6, none⟩ = some (.bool x.ok) := acc_cells hc hk hx

set_option maxHeartbeats 400000 in
set_option maxRecDepth 100000 in
theorem IndexA_any (A : Option Addr) (c : Nat) (l : List Acc) (f : FuncId) (caps : Array Value) (p : Acc → Bool) (w : World) (hl : l.length ≤ maxLen)
    (hR : Rd w A (rows l)) (hf : Enters f) (hp : AsksV accV w f caps p l) :
    Calls Tryd.prog 134 #[.slice A l.length c, .func (.func f) #[] caps] w fun e w' => e = .returned (.int .i64 (firstV p l 0)) ∧ Below w.heap.size w w' := by
  unfold maxLen at hl
  have HR := Lib.hid hR
  have HP := Lib.hid hp
  clear hR hp
  generalize hn : l.length = n at hl ⊢
  have HN := Lib.hid hn
  clear hn
  go_enter Tryd.func134, Tryd.ntmps134
  go_wp2
  go_loopw [8] (fun i wr => ∃ k : Nat, k ≤ n ∧ i = .int .i64 k ∧ Below w.heap.size w wr ∧ ∀ j, j < k → p (l.getD j Acc.none) = false) (fun i _ => n - (intOf i).toNat)
  case atStart => exact ⟨0, Nat.zero_le _, rfl, Below.refl _ _, fun j hj => absurd hj (by omega)⟩
  case round =>
    obtain ⟨k, hk, rfl, hb, hno⟩ := hrel
    have HNO := Lib.hid hno
    clear hno
    by_cases hlt : k < n
    · have hkl : k < l.length := by rw [HN.out]; exact hlt
      obtain ⟨b, o, rfl, hbl, hc⟩ := HR.out.at_ (by rw [rows_length]; simp only [Cellful.s]; omega)
      have hcr : ∀ j v, (rows l)[j]? = some v → wr.cell? ⟨b, o + j, none⟩ = some v := fun j v hj => by
        rw [hb.cell (p := ⟨b, o + j, none⟩) hbl]; exact hc j v hj
      have HC := Lib.hid hc
      clear hc
      have hmem : l.getD k Acc.none ∈ l := by simp [hkl]
      generalize hx : l.getD k Acc.none = x at hmem
      obtain ⟨c0, c1, c2, c3, c4, c5, c6⟩ := acc7_cells hcr hkl hx
      have HX := Lib.hid hx
      clear hx hkl hcr
      have hcall := HP.out x hmem wr hb
      have HCALL := Lib.hid hcall
      clear hcall hmem
      have hrun := hf (#[accV x] ++ caps) wr
      unfold accV at hrun
      by_cases hpx : p x = true
      · go_wp2_with (first | (refine HCALL.out.mono ?_; rintro e w1 ⟨rfl, hb1⟩))
        go_ret
        exact ⟨ret_int (by rw [firstV_hit Acc.none l 0 k (by rw [HN.out]; exact hlt) HNO.out (by rw [HX.out]; exact hpx)]; simp), hb.trans (hb1.mono hb.size)⟩
      · simp only [Bool.not_eq_true] at hpx
        go_wp2_with (first | (refine HCALL.out.mono ?_; rintro e w1 ⟨rfl, hb1⟩))
        go_roundw
        case rel =>
          refine ⟨k + 1, by omega, by go_num, hb.trans (hb1.mono hb.size), fun j hj => ?_⟩
          by_cases hjk : j = k
          · subst hjk; rw [HX.out]; exact hpx
          · exact HNO.out j (by omega)
        case measure => simp [intOf]; omega
    · go_wp2
      go_ret
      refine ⟨ret_int ?_, hb⟩
      rw [firstV_none l 0 (fun x hx => ?_)]
      obtain ⟨j, hj, rfl⟩ := List.getElem_of_mem hx
      have := HNO.out j (by have := HN.out; omega)
      simpa [List.getD, hj] using this

theorem acc_zero (w : World) : (zeroValue 74).run Tryd.prog w = .ok (accV Acc.none) w := by kernel_rfl

theorem accs_set7 : ∀ (l : List Acc) (k : Nat) (y : Acc), k < l.length →
    (((((((rows l).set (k * 7) (.int .i64 y.thread)).set (k * 7 + 1) (.int .i64 y.kind)).set (k * 7 + 2) (.int .i64 y.addr)).set (k * 7 + 3) (.int .u64 y.want)).set (k * 7 + 4) (.int .u64 y.old)).set (k * 7 + 5) (.int .u64 y.now)).set (k * 7 + 6) (.bool y.ok) = rows (l.set k y)
  | a :: l, 0, y, _ => by simp [rows, Cellful.cells, Acc.cells]
  | a :: l, k + 1, y, h => by
    have ih := accs_set7 l k y (by simpa using h)
    have e0 : (k + 1) * 7 = (Acc.cells a).length + k * 7 := by simp [Acc.cells]; omega
    simp only [rows, Cellful.cells, List.flatMap_cons, List.set_cons_succ] at *
    rw [e0]
    simp only [Nat.add_assoc]
    rw [← ih]
    simp only [List.set_append_right _ _ (Nat.le_add_right _ _), Nat.add_sub_cancel_left]

theorem own_acc7 {w : World} {base : Nat} {n g c : Nat} {l : List Acc} (h : w.ownsRow base 74 7 (.slice (some ⟨g, 0, none⟩) n c) n (rows l)) (hl : l.length = n) (k : Nat) (hk : k < n) (y : Acc) :
    ((((((((w).setCell ⟨g, k * 7, none⟩ (.int .i64 y.thread)).setCell ⟨g, k * 7 + 1, none⟩ (.int .i64 y.kind)).setCell ⟨g, k * 7 + 2, none⟩ (.int .i64 y.addr)).setCell ⟨g, k * 7 + 3, none⟩ (.int .u64 y.want)).setCell ⟨g, k * 7 + 4, none⟩ (.int .u64 y.old)).setCell ⟨g, k * 7 + 5, none⟩ (.int .u64 y.now)).setCell ⟨g, k * 7 + 6, none⟩ (.bool y.ok)).ownsRow base 74 7 (.slice (some ⟨g, 0, none⟩) n c) n (rows (l.set k y)) := by
  rw [← accs_set7 l k y (by omega)]
  exact (own_set (own_set (own_set (own_set (own_set (own_set (own_set h (by omega) _ _ (by omega)) (by omega) _ _ (by omega)) (by omega) _ _ (by omega)) (by omega) _ _ (by omega)) (by omega) _ _ (by omega)) (by omega) _ _ (by omega)) (by omega) _ _ (by omega))

set_option maxHeartbeats 4000000 in
set_option maxRecDepth 100000 in
theorem DelA_any (g c base : Nat) (l : List Acc) (f : FuncId) (caps : Array Value) (p : Acc → Bool) (w : World) (hl : l.length ≤ 1048576)
    (hown : w.ownsRow base 74 7 (.slice (some ⟨g, 0, none⟩) l.length c) l.length (rows l)) (hf : Enters f) (hp : AsksO accV w g f caps p l) :
    Calls Tryd.prog 99 #[.slice (some ⟨g, 0, none⟩) l.length c, .func (.func f) #[] caps] w (RetDel (some ⟨g, 0, none⟩) c g (l.filter fun x => !p x) w) := by
  have HO := Lib.hid hown
  have HP := Lib.hid hp
  have HI := Lib.hid (IndexA_any (some ⟨g, 0, none⟩) c l f caps p w (by unfold maxLen; omega) (own_rd hown) hf hp.toV)
  have hnc := own_le hown
  have HFS := Lib.hid (firstV_spec (p := p) Acc.none l 0)
  clear hown hp
  generalize hn : l.length = n at *
  have HN := Lib.hid hn
  clear hn
  go_enter Tryd.func99, Tryd.ntmps99
  go_wp2_with fail
  refine HI.out.mono ?_
  rintro e w1 ⟨rfl, hb1⟩
  have hO1 : Only g w w1 := .of_below hb1
  have HW1 := Lib.hid (own_below HO.out hb1)
  have HO1 := Lib.hid hO1
  clear hb1 hO1
  rcases HFS.out with ⟨h1, h2⟩ | ⟨j0, h1, h2, h3, h4⟩
  · rw [h1]
    have H2 := Lib.hid h2
    clear h1 h2
    go_wp2
    go_ret
    rw [H2.out]
    exact ⟨ret_slice HN.out.symm, own_rd HW1.out, HO1.out⟩
  · rw [h2, Nat.zero_add]
    have hne : ((j0 : Int) == -1) = false := by simp
    have H34 := Lib.hid (And.intro h3 h4)
    clear h2 h3 h4
    go_wp2
    go_loopg [5, 6] (n - (j0 + 1)) (fun q i j wr => ∃ k : Nat, j0 < k ∧ k ≤ n ∧ q = n - k ∧ j = .int .i64 k ∧ i = .int .i64 ((((l.take k).filter (fun x => !p x)).length : Nat) : Int) ∧ Only g w wr ∧ wr.ownsRow base 74 7 (.slice (some ⟨g, 0, none⟩) n c) n (rows (keptRow p l k)))
    case atStart =>
      have hj : j0 < l.length := by rw [HN.out]; exact h1
      have e1 : ((l.take (j0 + 1)).filter (fun x => !p x)) = l.take j0 := by
        rw [take_succ_getD l Acc.none j0 hj, List.filter_append, H34.out.2]
        simp only [List.filter_cons, H34.out.1, Bool.not_true, Bool.false_eq_true, if_false, List.filter_nil, List.append_nil]
      refine ⟨j0 + 1, by omega, by omega, rfl, by go_num, ?_, HO1.out, ?_⟩
      · rw [e1, List.length_take, Nat.min_eq_left (by omega)]
      · have e2 : keptRow p l (j0 + 1) = l := by
          unfold keptRow
          rw [e1, List.length_take, Nat.min_eq_left (by omega), List.take_append_drop]
        rw [e2]
        exact HW1.out
    case round =>
      obtain ⟨k, hk0, hk, hq, rfl, rfl, hOr, hWr⟩ := hrel
      have HOR := Lib.hid hOr
      have HWR := Lib.hid hWr
      have HQ := Lib.hid hq
      have hkl := kept_len p l k
      clear hOr hWr hq
      by_cases hlt : k < n
      · have hkn : k < l.length := by rw [HN.out]; exact hlt
        have hgl : g < wr.heap.size := by
          obtain ⟨g', hg', _, hlt'⟩ := own_some HWR.out (by omega)
          injection hg' with hg'
          injection hg' with hg'
          subst hg'
          exact hlt'
        obtain ⟨_, _, he, _, hc⟩ := (own_rd HWR.out).at_ (by rw [rows_length, kept_length p l k (by omega)]; exact Nat.mul_pos (by omega) (by decide))
        simp only [Option.some.injEq, Addr.mk.injEq, and_true] at he
        obtain ⟨rfl, rfl⟩ := he
        generalize hx : l.getD k Acc.none = x
        have hmem : x ∈ l := by rw [← hx]; simp [List.getD, hkn]
        obtain ⟨c0, c1, c2, c3, c4, c5, c6⟩ := acc7_cells hc (k := k) (x := x) (by rw [kept_length p l k (by omega)]; exact hkn) (by rw [kept_getD p l Acc.none k k (Nat.le_refl _)]; exact hx)
        simp only [Nat.zero_add] at c0 c1 c2 c3 c4 c5 c6
        have HX := Lib.hid hx
        have HM := Lib.hid hmem
        clear hc hx hmem
        generalize hi : ((l.take k).filter (fun x => !p x)).length = i at *
        have HI2 := Lib.hid hi
        clear hi
        have hrun := hf (#[accV x] ++ caps) (wr.alloc (.cells #[.int .i64 x.thread, .int .i64 x.kind, .int .i64 x.addr, .int .u64 x.want, .int .u64 x.old, .int .u64 x.now, .bool x.ok] 74))
        unfold accV at hrun
        have HBX : RowKit.Hid (Only g w (wr.alloc (.cells #[.int .i64 x.thread, .int .i64 x.kind, .int .i64 x.addr, .int .u64 x.want, .int .u64 x.old, .int .u64 x.now, .bool x.ok] 74))) := Lib.hid (HOR.out.alloc _)
        have HCALL := Lib.hid (HP.out x HM.out _ HBX.out)
        have q1 : (0 : Int) ≤ (k : Int) := by omega
        have q2 : (k : Int) < (n : Int) := by omega
        by_cases hpx : p x = true
        · rw [hpx] at HCALL
          go_wp2_with (first | (refine HCALL.out.mono ?_; rintro e w2 ⟨rfl, hb2⟩))
          go_roundg (n - (k + 1))
          case measure => rw [HQ.out]; omega
          case rel =>
            refine ⟨k + 1, by omega, by omega, rfl, by go_num, ?_, HBX.out.trans (.of_below hb2), ?_⟩
            · have e := take_succ_getD l Acc.none k hkn
              rw [e, List.filter_append, HX.out]
              simp only [List.filter_cons, hpx, Bool.not_true, Bool.false_eq_true, if_false, List.filter_nil, List.append_nil]
              rw [HI2.out]
            · rw [kept_drop hkn (by rw [HX.out]; exact hpx)]
              exact own_below (HWR.out.alloc _) hb2
        · simp only [Bool.not_eq_true] at hpx
          rw [hpx] at HCALL
          go_wp2_with fail
          refine HCALL.out.mono ?_
          rintro e w2 ⟨rfl, hb2⟩
          have hW2 := own_below (HWR.out.alloc (.cells #[.int .i64 x.thread, .int .i64 x.kind, .int .i64 x.addr, .int .u64 x.want, .int .u64 x.old, .int .u64 x.now, .bool x.ok] 74)) hb2
          have hO2 : Only g w w2 := HBX.out.trans (.of_below hb2)
          have hbox : ∀ j v, x.cells[j]? = some v → w2.cell? ⟨wr.heap.size, j, none⟩ = some v := fun j v hj => by
            rw [hb2.cell (p := ⟨wr.heap.size, j, none⟩) (by simp), World.cell?_alloc_at (hn := rfl), ← hj]; simp [Acc.cells]
          have x0 := hbox 0 _ rfl
          have x1 := hbox 1 _ rfl
          have x2 := hbox 2 _ rfl
          have x3 := hbox 3 _ rfl
          have x4 := hbox 4 _ rfl
          have x5 := hbox 5 _ rfl
          have x6 := hbox 6 _ rfl
          obtain ⟨_, _, he, _, hc⟩ := (own_rd hW2).at_ (by rw [rows_length, kept_length p l k (by omega)]; exact Nat.mul_pos (by omega) (by decide))
          simp only [Option.some.injEq, Addr.mk.injEq, and_true] at he
          obtain ⟨rfl, rfl⟩ := he
          obtain ⟨d0, d1, d2, d3, d4, d5, d6⟩ := acc7_cells hc (k := i) (x := (keptRow p l k).getD i Acc.none) (by rw [kept_length p l k (by omega)]; omega) rfl
          simp only [Nat.zero_add] at d0 d1 d2 d3 d4 d5 d6
          obtain ⟨_, hge, _, _, hfz, _⟩ := own_form hW2 (by omega)
          injection hge with hge
          injection hge with hge
          subst hge
          have f0 := hfz (i * 7)
          have f1 := hfz (i * 7 + 1)
          have f2 := hfz (i * 7 + 2)
          have f3 := hfz (i * 7 + 3)
          have f4 := hfz (i * 7 + 4)
          have f5 := hfz (i * 7 + 5)
          have f6 := hfz (i * 7 + 6)
          have hgw : g < wr.heap.size := hgl
          have HW3 := Lib.hid (own_acc7 hW2 (by rw [kept_length p l k (by omega)]; exact HN.out) i (by omega) x)
          have HO3 := Lib.hid (((((((hO2.set_ (i * 7) (.int .i64 x.thread)).set_ (i * 7 + 1) (.int .i64 x.kind)).set_ (i * 7 + 2) (.int .i64 x.addr)).set_ (i * 7 + 3) (.int .u64 x.want)).set_ (i * 7 + 4) (.int .u64 x.old)).set_ (i * 7 + 5) (.int .u64 x.now)).set_ (i * 7 + 6) (.bool x.ok))
          have q3 : (0 : Int) ≤ (i : Int) := by omega
          have q4 : (i : Int) < (n : Int) := by omega
          generalize (keptRow p l k).getD i Acc.none = y at *
          clear hbox hc hfz hb2 hW2 hO2
          go_wp2
          go_roundg (n - (k + 1))
          case measure => rw [HQ.out]; omega
          case rel =>
            have hst := kept_stay (p := p) (l := l) (d := Acc.none) hkn (by rw [HX.out]; exact hpx)
            rw [HX.out, HI2.out] at hst
            refine ⟨k + 1, by omega, by omega, rfl, by go_num, by rw [hst.2]; go_num, HO3.out, ?_⟩
            rw [hst.1]
            exact HW3.out
      · obtain rfl : k = n := by omega
        have hll : ((l.take k).filter (fun x => !p x)) = l.filter (fun x => !p x) := by rw [List.take_of_length_le (by rw [HN.out]; omega)]
        have hin : ((l.take k).filter (fun x => !p x)).length < k := by
          rw [hll]
          have h := List.length_filter_lt_length_iff_exists (p := fun x => !p x) (l := l) |>.2 ⟨l.getD j0 Acc.none, by simp [List.getD, (by rw [HN.out]; exact h1 : j0 < l.length)], by rw [H34.out.1]; simp⟩
          rw [HN.out] at h
          exact h
        obtain ⟨w3, hcl, hO3, hR3⟩ := clear_own (s := 7) Tryd.underlying72 acc_zero rfl (by simp [Value.cells, Value.oneCell']) HWR.out hin
        have HFIN := Lib.hid (show Rd w3 (some ⟨g, 0, none⟩) (rows (l.filter fun x => !p x)) by
          have e : (rows (keptRow p l k)).take (((l.take k).filter (fun x => !p x)).length * 7) = rows (l.filter fun x => !p x) := by
            have := rows_take (keptRow p l k) ((l.take k).filter (fun x => !p x)).length
            simp only [Cellful.s] at this
            rw [this]
            unfold keptRow
            rw [List.take_left, hll]
          rw [e] at hR3
          exact hR3)
        have HLE := Lib.hid (show ((l.take k).filter (fun x => !p x)).length = (l.filter fun x => !p x).length by rw [hll])
        clear hll hR3
        generalize ((l.take k).filter (fun x => !p x)).length = i at *
        have hci : ¬ c = i := by omega
        have q1 : (0 : Int) ≤ (i : Int) := by omega
        have q2 : (i : Int) ≤ (k : Int) := by omega
        have q3 : (i : Int) ≤ (c : Int) := by omega
        go_wp2
        go_ret
        exact ⟨ret_slice HLE.out, HFIN.out, HOR.out.trans hO3⟩

set_option maxHeartbeats 400000 in
theorem DelA_nil (c base : Nat) (f : FuncId) (caps : Array Value) (p : Acc → Bool) (w : World) (hbase : base ≤ w.heap.size) (hf : Enters f) :
    Calls Tryd.prog 99 #[.slice none 0 c, .func (.func f) #[] caps] w (RetDelB none c base ([] : List Acc) w) := by
  have HI := Lib.hid (IndexA_any none c [] f caps p w (by simp) (.inl rfl) hf (fun x hx => by cases hx))
  rw [show firstV p ([] : List Acc) 0 = -1 from rfl] at HI
  simp only [List.length_nil] at HI
  clear hf
  go_enter Tryd.func99, Tryd.ntmps99
  go_wp2_with fail
  refine HI.out.mono ?_
  rintro e w1 ⟨rfl, hb1⟩
  go_wp2
  go_ret
  exact ⟨rfl, .inl rfl, hb1.mono hbase⟩

set_option maxHeartbeats 1000000 in
set_option maxRecDepth 100000 in
theorem DelA_own (A : Option Addr) (c base : Nat) (l : List Acc) (f : FuncId) (caps : Array Value) (p : Acc → Bool) (w : World) (hl : l.length ≤ 1048576)
    (hown : w.ownsRow base 74 7 (.slice A l.length c) l.length (rows l)) (hbase : base ≤ w.heap.size) (hf : Enters f) (hp : AsksB accV base w f caps p l) :
    Calls Tryd.prog 99 #[.slice A l.length c, .func (.func f) #[] caps] w (RetDelB A c base (l.filter fun x => !p x) w) := by
  cases A with
  | some ad =>
    obtain ⟨g, c', cur, hv, hg, r⟩ := hown.2.resolve_left (by rintro ⟨h, _⟩; cases h)
    injection hv with hv _ hc
    injection hv with hv
    subst hv hc
    refine (DelA_any g c base l f caps p w hl hown hf (fun x hx w' ho => hp x hx w' (ho.below hg hbase))).mono ?_
    rintro e w' ⟨h1, h2, h3⟩
    exact ⟨h1, h2, h3.below hg hbase⟩
  | none =>
    obtain ⟨h0, _, _⟩ := own_none hown rfl
    obtain rfl : l = [] := List.eq_nil_of_length_eq_zero h0
    exact DelA_nil c base f caps p w hbase hf

end Go.Proofs.YtiioedgdhkndgaaDoor

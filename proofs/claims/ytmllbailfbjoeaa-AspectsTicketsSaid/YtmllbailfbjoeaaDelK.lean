/- slices.DeleteFunc over a row of calls that the caller owns. -/
import Derived.Test.YtmllbailfbjoeaaKall
import Derived.Test.YtmllbailfbjoeaaSwapL
import Derived.Lib.SliceRun
namespace Go.Proofs.Ytmllbailfbjoeaa
open Go.RowKit Go.Sort

/-- The closure (f, caps), asked at a record's value in a world that parts from w by new blocks and block g alone, answers p x and leaves alone what was there. -/
def AsksO {α : Type} (val : α → Value) (w : World) (g : Nat) (f : FuncId) (caps : Array Value) (p : α → Bool) (l : List α) : Prop :=
  ∀ x, x ∈ l → ∀ w', Only g w w' → Calls Try.prog f (#[val x] ++ caps) w' fun e w'' => e = .returned (.bool (p x)) ∧ Below w'.heap.size w' w''

theorem AsksO.toV {α : Type} {val : α → Value} {w : World} {g : Nat} {f : FuncId} {caps : Array Value} {p : α → Bool} {l : List α} (h : AsksO val w g f caps p l) : AsksV val w f caps p l :=
  fun x hx w' hb => h x hx w' (.of_below hb)

theorem only_setCells (g : Nat) : ∀ (vs : List Value) (o : Nat) (w : World), Only g w (w.setCells g o vs)
  | [], _, w => Only.refl g w
  | v :: r, o, w => ((Only.refl g w).set_ o v).trans (only_setCells g r (o + 1) _)

theorem zero_mem {z : Value} {n : Nat} {v : Value} (h : v ∈ (Builtin.zeroCells z.cells n).toList) : v ∈ z.cells.toList := by
  simp only [Builtin.zeroCells, Array.toList_range, Array.toList_map, List.mem_map, List.mem_range] at h
  obtain ⟨k, hk, rfl⟩ := h
  have hpos : 0 < z.cells.size := by
    rcases Nat.eq_zero_or_pos z.cells.size with h0 | h0
    · rw [h0] at hk; simp at hk
    · exact h0
  rw [getElem!_pos z.cells (k % z.cells.size) (Nat.mod_lt _ hpos)]
  simp

set_option maxRecDepth 100000 in
/-- clear(s[i:]) of a row that is owned. -/
theorem clear_own {w : World} {base g i n c s : Nat} {t e : TypeId} {z : Value} {xs : List Value} (ht : Try.prog.underlying t = some (.slice e)) (hz : ∀ w, (zeroValue e).run Try.prog w = .ok z w) (hzs : z.cells.size = s) (hz1 : ∀ u ∈ z.cells.toList, u.oneCell' = true)
    (hown : w.ownsRow base e s (.slice (some ⟨g, 0, none⟩) n c) n xs) (hi : i < n) :
    ∃ w', (∀ ty, (Builtin.clear_ #[t] ty #[.slice (some ⟨g, i * s, none⟩) (n - i) (c - i)]).run Try.prog w = .ok (.tuple #[]) w') ∧ Only g w w' ∧ Rd w' (some ⟨g, 0, none⟩) (xs.take (i * s)) := by
  have hl := hown.1
  rcases hown.2 with ⟨hv, _⟩ | ⟨g', cap, cur, hv, hb, hh, hnc, hm, hsz, hx⟩
  · cases hv
  · injection hv with hA _ hc
    injection hA with hA
    injection hA with hA
    subst hA hc
    have hlen : (Builtin.zeroCells z.cells (n - i)).toList.length = (n - i) * s := by rw [Array.length_toList, size_zeroCells, hzs]
    have hcell : ∀ j, j < (n - i) * s → (w.cell? ⟨g, i * s + j, none⟩).isSome = true := fun j hj => by
      have hlt : i * s + j < cur.size := by
        rw [hsz]
        have h1 : i * s + (n - i) * s = n * s := by rw [← Nat.add_mul]; congr 1; omega
        have h2 : n * s ≤ c * s := Nat.mul_le_mul_right _ hnc
        omega
      rw [cell_of_row w g _ cur e (0, 0) hh, Array.getElem?_eq_getElem hlt]
      rfl
    have hfr : ∀ j, j < (n - i) * s → w.frozen? ⟨g, i * s + j, none⟩ = false := fun j _ => by simp [World.frozen?, hh]
    have hst := run_storeCells_cells (P := Try.prog) g (i * s) (Builtin.zeroCells z.cells (n - i)).toList 0 w (by rw [hlen]; simpa using hcell) (by rw [hlen]; simpa using hfr) (by
      intro v hv'
      exact hz1 _ (zero_mem hv'))
    simp only [Nat.add_zero] at hst
    refine ⟨w.setCells g (i * s) (Builtin.zeroCells z.cells (n - i)).toList, fun ty => ?_, ?_, ?_⟩
    · obtain ⟨m, hm'⟩ : ∃ m, n - i = m + 1 := ⟨n - i - 1, by omega⟩
      simp only [hm'] at hst ⊢
      simp [Builtin.clear_, run_underlying ht, hz, hst]
    · exact only_setCells g _ _ w
    · refine .inr ⟨g, 0, rfl, Nat.lt_of_lt_of_le (by
        rcases Nat.lt_or_ge g w.heap.size with hlt | hge
        · exact hlt
        · rw [Array.getElem?_eq_none hge] at hh; cases hh) (only_setCells g _ _ w).size, fun k v hk => ?_⟩
      rw [List.getElem?_take] at hk
      split at hk
      · rename_i hlt
        rw [World.cell?_setCells_out g _ _ w ⟨g, 0 + k, none⟩ (fun _ _ => .inl (by show 0 + k < i * s; omega)), Nat.zero_add]
        rw [← hx, List.getElem?_take] at hk
        split at hk
        · rw [cell_of_row w g _ cur e (0, 0) hh]; simpa using hk
        · cases hk
      · cases hk

theorem kall_zero (w : World) : (zeroValue 82).run Try.prog w = .ok (kallV Kall.none) w := by kernel_rfl

theorem kalls_set : ∀ (l : List Kall) (k : Nat) (y : Kall), k < l.length →
    ((((((rows l).set (k * 6) (.int .i64 y.beg)).set (k * 6 + 1) (.int .i64 y.fin)).set (k * 6 + 2) (.bool y.opn)).set (k * 6 + 3) (.bool y.put)).set (k * 6 + 4) (.int .i64 y.value)).set (k * 6 + 5) (.int .i64 y.code) = rows (l.set k y)
  | a :: l, 0, y, _ => by simp [rows, Cellful.cells, Kall.cells]
  | a :: l, k + 1, y, h => by
    have ih := kalls_set l k y (by simpa using h)
    have e0 : (k + 1) * 6 = (Kall.cells a).length + k * 6 := by simp [Kall.cells]; omega
    simp only [rows, Cellful.cells, List.flatMap_cons, List.set_cons_succ] at *
    rw [e0]
    simp only [Nat.add_assoc]
    rw [← ih]
    simp only [List.set_append_right _ _ (Nat.le_add_right _ _), Nat.add_sub_cancel_left]

theorem own_kall {w : World} {base : Nat} {n g c : Nat} {l : List Kall} (h : w.ownsRow base 82 6 (.slice (some ⟨g, 0, none⟩) n c) n (rows l)) (hl : l.length = n) (k : Nat) (hk : k < n) (y : Kall) :
    ((((((w.setCell ⟨g, k * 6, none⟩ (.int .i64 y.beg)).setCell ⟨g, k * 6 + 1, none⟩ (.int .i64 y.fin)).setCell ⟨g, k * 6 + 2, none⟩ (.bool y.opn)).setCell ⟨g, k * 6 + 3, none⟩ (.bool y.put)).setCell ⟨g, k * 6 + 4, none⟩ (.int .i64 y.value)).setCell ⟨g, k * 6 + 5, none⟩ (.int .i64 y.code)).ownsRow base 82 6 (.slice (some ⟨g, 0, none⟩) n c) n (rows (l.set k y)) := by
  rw [← kalls_set l k y (by omega)]
  exact own_set (own_set (own_set (own_set (own_set (own_set h (by omega) _ _ (by omega)) (by omega) _ _ (by omega)) (by omega) _ _ (by omega)) (by omega) _ _ (by omega)) (by omega) _ _ (by omega)) (by omega) _ _ (by omega)

/-- Those that stay of the first j, and behind them the row as it was. -/
def keptRow {α : Type} (p : α → Bool) (l : List α) (j : Nat) : List α := (l.take j).filter (fun x => !p x) ++ l.drop ((l.take j).filter (fun x => !p x)).length

theorem kept_len {α : Type} (p : α → Bool) (l : List α) (j : Nat) : ((l.take j).filter (fun x => !p x)).length ≤ j := by
  have := List.length_filter_le (fun x => !p x) (l.take j)
  simp at this
  omega

theorem kept_length {α : Type} (p : α → Bool) (l : List α) (j : Nat) (h : j ≤ l.length) : (keptRow p l j).length = l.length := by
  have := kept_len p l j
  simp only [keptRow, List.length_append, List.length_drop]
  omega

theorem kept_getD {α : Type} (p : α → Bool) (l : List α) (d : α) (j k : Nat) (hk : j ≤ k) : (keptRow p l j).getD k d = l.getD k d := by
  have := kept_len p l j
  simp only [keptRow, List.getD]
  rw [List.getElem?_append_right (by omega), List.getElem?_drop]
  congr 2
  omega

theorem take_succ_getD {α : Type} (l : List α) (d : α) (j : Nat) (h : j < l.length) : l.take (j + 1) = l.take j ++ [l.getD j d] := by
  rw [List.take_succ_eq_append_getElem h]
  simp [List.getD, h]

theorem kept_drop {α : Type} {p : α → Bool} {l : List α} {d : α} {j : Nat} (h : j < l.length) (hp : p (l.getD j d) = true) : keptRow p l (j + 1) = keptRow p l j := by
  unfold keptRow
  rw [take_succ_getD l d j h, List.filter_append]
  simp only [List.filter_cons, hp, Bool.not_true, Bool.false_eq_true, if_false, List.filter_nil, List.append_nil]

theorem kept_stay {α : Type} {p : α → Bool} {l : List α} {d : α} {j : Nat} (h : j < l.length) (hp : p (l.getD j d) = false) :
    keptRow p l (j + 1) = (keptRow p l j).set ((l.take j).filter (fun x => !p x)).length (l.getD j d) ∧ ((l.take (j + 1)).filter (fun x => !p x)).length = ((l.take j).filter (fun x => !p x)).length + 1 := by
  have hk := kept_len p l j
  have e : (l.take (j + 1)).filter (fun x => !p x) = (l.take j).filter (fun x => !p x) ++ [l.getD j d] := by
    rw [take_succ_getD l d j h, List.filter_append]
    simp only [List.filter_cons, hp, Bool.not_false, if_true, List.filter_nil]
  constructor
  · unfold keptRow
    rw [e]
    have hlt : ((l.take j).filter (fun x => !p x)).length < l.length := by omega
    generalize (l.take j).filter (fun x => !p x) = K at hlt ⊢
    conv => rhs; rw [List.set_append_right _ _ (Nat.le_refl _), Nat.sub_self, List.drop_eq_getElem_cons hlt, List.set_cons_zero]
    simp
  · rw [e]; simp

theorem ret_slice {A : Option Addr} {n m c : Nat} (h : n = m) : Ending.returned (.slice A n c) = .returned (.slice A m c) := by rw [h]

/-- What is left of a row that the caller owns. -/
def RetDel {α : Type} [Cellful α] (A : Option Addr) (c g : Nat) (l : List α) (w : World) (e : Ending) (w' : World) : Prop :=
  e = .returned (.slice A l.length c) ∧ Rd w' A (rows l) ∧ Only g w w'

set_option maxHeartbeats 4000000 in
set_option maxRecDepth 100000 in
theorem DelK_any (g c base : Nat) (l : List Kall) (f : FuncId) (caps : Array Value) (p : Kall → Bool) (w : World) (hl : l.length ≤ 1048576)
    (hown : w.ownsRow base 82 6 (.slice (some ⟨g, 0, none⟩) l.length c) l.length (rows l)) (hf : Enters f) (hp : AsksO kallV w g f caps p l) :
    Calls Try.prog 106 #[.slice (some ⟨g, 0, none⟩) l.length c, .func (.func f) #[] caps] w (RetDel (some ⟨g, 0, none⟩) c g (l.filter fun x => !p x) w) := by
  have HO := Lib.hid hown
  have HP := Lib.hid hp
  have HI := Lib.hid (IndexK_any (some ⟨g, 0, none⟩) c l f caps p w (by unfold maxLen; omega) (own_rd hown) hf hp.toV)
  have hnc := own_le hown
  have HFS := Lib.hid (firstV_spec (p := p) Kall.none l 0)
  clear hown hp
  generalize hn : l.length = n at *
  have HN := Lib.hid hn
  clear hn
  go_enter Try.func106, Try.ntmps106
  go_wp2_with fail
  refine HI.out.mono ?_
  rintro e w1 ⟨rfl, hb1⟩
  have hO1 : Only g w w1 := .of_below hb1
  have HW1 := Lib.hid (own_below HO.out hb1)
  have HO1 := Lib.hid hO1
  clear hb1 hO1
  rcases HFS.out with ⟨h1, h2⟩ | ⟨j0, h1, h2, h3, h4⟩
  · rw [h1]
    have H2 := Lib.hid h2
    clear h1 h2
    go_wp2
    go_ret
    rw [H2.out]
    exact ⟨ret_slice HN.out.symm, own_rd HW1.out, HO1.out⟩
  · rw [h2, Nat.zero_add]
    have hne : ((j0 : Int) == -1) = false := by simp
    have H34 := Lib.hid (And.intro h3 h4)
    clear h2 h3 h4
    go_wp2
    go_loopg [5, 6] (n - (j0 + 1)) (fun q i j wr => ∃ k : Nat, j0 < k ∧ k ≤ n ∧ q = n - k ∧ j = .int .i64 k ∧ i = .int .i64 ((((l.take k).filter (fun x => !p x)).length : Nat) : Int) ∧ Only g w wr ∧ wr.ownsRow base 82 6 (.slice (some ⟨g, 0, none⟩) n c) n (rows (keptRow p l k)))
    case atStart =>
      have hj : j0 < l.length := by rw [HN.out]; exact h1
      have e1 : ((l.take (j0 + 1)).filter (fun x => !p x)) = l.take j0 := by
        rw [take_succ_getD l Kall.none j0 hj, List.filter_append, H34.out.2]
        simp only [List.filter_cons, H34.out.1, Bool.not_true, Bool.false_eq_true, if_false, List.filter_nil, List.append_nil]
      refine ⟨j0 + 1, by omega, by omega, rfl, by go_num, ?_, HO1.out, ?_⟩
      · rw [e1, List.length_take, Nat.min_eq_left (by omega)]
      · have e2 : keptRow p l (j0 + 1) = l := by
          unfold keptRow
          rw [e1, List.length_take, Nat.min_eq_left (by omega), List.take_append_drop]
        rw [e2]
        exact HW1.out
    case round =>
      obtain ⟨k, hk0, hk, hq, rfl, rfl, hOr, hWr⟩ := hrel
      have HOR := Lib.hid hOr
      have HWR := Lib.hid hWr
      have HQ := Lib.hid hq
      have hkl := kept_len p l k
      clear hOr hWr hq
      by_cases hlt : k < n
      · have hkn : k < l.length := by rw [HN.out]; exact hlt
        have hgl : g < wr.heap.size := by
          obtain ⟨g', hg', _, hlt'⟩ := own_some HWR.out (by omega)
          injection hg' with hg'
          injection hg' with hg'
          subst hg'
          exact hlt'
        obtain ⟨_, _, he, _, hc⟩ := (own_rd HWR.out).at_ (by rw [rows_length, kept_length p l k (by omega)]; exact Nat.mul_pos (by omega) (by decide))
        simp only [Option.some.injEq, Addr.mk.injEq, and_true] at he
        obtain ⟨rfl, rfl⟩ := he
        generalize hx : l.getD k Kall.none = x
        have hmem : x ∈ l := by rw [← hx]; simp [List.getD, hkn]
        obtain ⟨c0, c1, c2, c3, c4, c5⟩ := kall_cells hc (k := k) (x := x) (by rw [kept_length p l k (by omega)]; exact hkn) (by rw [kept_getD p l Kall.none k k (Nat.le_refl _)]; exact hx)
        simp only [Nat.zero_add] at c0 c1 c2 c3 c4 c5
        have HX := Lib.hid hx
        have HM := Lib.hid hmem
        clear hc hx hmem
        generalize hi : ((l.take k).filter (fun x => !p x)).length = i at *
        have HI2 := Lib.hid hi
        clear hi
        have hrun := hf (#[kallV x] ++ caps) (wr.alloc (.cells #[.int .i64 x.beg, .int .i64 x.fin, .bool x.opn, .bool x.put, .int .i64 x.value, .int .i64 x.code] 82))
        unfold kallV at hrun
        have HBX : RowKit.Hid (Only g w (wr.alloc (.cells #[.int .i64 x.beg, .int .i64 x.fin, .bool x.opn, .bool x.put, .int .i64 x.value, .int .i64 x.code] 82))) := Lib.hid (HOR.out.alloc _)
        have HCALL := Lib.hid (HP.out x HM.out _ HBX.out)
        have q1 : (0 : Int) ≤ (k : Int) := by omega
        have q2 : (k : Int) < (n : Int) := by omega
        by_cases hpx : p x = true
        · rw [hpx] at HCALL
          go_wp2_with (first | (refine HCALL.out.mono ?_; rintro e w2 ⟨rfl, hb2⟩))
          go_roundg (n - (k + 1))
          case measure => rw [HQ.out]; omega
          case rel =>
            refine ⟨k + 1, by omega, by omega, rfl, by go_num, ?_, HBX.out.trans (.of_below hb2), ?_⟩
            · have e := take_succ_getD l Kall.none k hkn
              rw [e, List.filter_append, HX.out]
              simp only [List.filter_cons, hpx, Bool.not_true, Bool.false_eq_true, if_false, List.filter_nil, List.append_nil]
              rw [HI2.out]
            · rw [kept_drop hkn (by rw [HX.out]; exact hpx)]
              exact own_below (HWR.out.alloc _) hb2
        · simp only [Bool.not_eq_true] at hpx
          rw [hpx] at HCALL
          go_wp2_with fail
          refine HCALL.out.mono ?_
          rintro e w2 ⟨rfl, hb2⟩
          have hW2 := own_below (HWR.out.alloc (.cells #[.int .i64 x.beg, .int .i64 x.fin, .bool x.opn, .bool x.put, .int .i64 x.value, .int .i64 x.code] 82)) hb2
          have hO2 : Only g w w2 := HBX.out.trans (.of_below hb2)
          have hbox : ∀ j v, x.cells[j]? = some v → w2.cell? ⟨wr.heap.size, j, none⟩ = some v := fun j v hj => by
            rw [hb2.cell (p := ⟨wr.heap.size, j, none⟩) (by simp), World.cell?_alloc_at (hn := rfl), ← hj]; simp [Kall.cells]
          have x0 := hbox 0 _ rfl
          have x1 := hbox 1 _ rfl
          have x2 := hbox 2 _ rfl
          have x3 := hbox 3 _ rfl
          have x4 := hbox 4 _ rfl
          have x5 := hbox 5 _ rfl
          obtain ⟨_, _, he, _, hc⟩ := (own_rd hW2).at_ (by rw [rows_length, kept_length p l k (by omega)]; exact Nat.mul_pos (by omega) (by decide))
          simp only [Option.some.injEq, Addr.mk.injEq, and_true] at he
          obtain ⟨rfl, rfl⟩ := he
          obtain ⟨d0, d1, d2, d3, d4, d5⟩ := kall_cells hc (k := i) (x := (keptRow p l k).getD i Kall.none) (by rw [kept_length p l k (by omega)]; omega) rfl
          simp only [Nat.zero_add] at d0 d1 d2 d3 d4 d5
          obtain ⟨_, hge, _, _, hfz, _⟩ := own_form hW2 (by omega)
          injection hge with hge
          injection hge with hge
          subst hge
          have f0 := hfz (i * 6)
          have f1 := hfz (i * 6 + 1)
          have f2 := hfz (i * 6 + 2)
          have f3 := hfz (i * 6 + 3)
          have f4 := hfz (i * 6 + 4)
          have f5 := hfz (i * 6 + 5)
          have hgw : g < wr.heap.size := hgl
          have HW3 := Lib.hid (own_kall hW2 (by rw [kept_length p l k (by omega)]; exact HN.out) i (by omega) x)
          have HO3 := Lib.hid ((((((hO2.set_ (i * 6) (.int .i64 x.beg)).set_ (i * 6 + 1) (.int .i64 x.fin)).set_ (i * 6 + 2) (.bool x.opn)).set_ (i * 6 + 3) (.bool x.put)).set_ (i * 6 + 4) (.int .i64 x.value)).set_ (i * 6 + 5) (.int .i64 x.code))
          have q3 : (0 : Int) ≤ (i : Int) := by omega
          have q4 : (i : Int) < (n : Int) := by omega
          generalize (keptRow p l k).getD i Kall.none = y at *
          clear hbox hc hfz hb2 hW2 hO2
          go_wp2
          go_roundg (n - (k + 1))
          case measure => rw [HQ.out]; omega
          case rel =>
            have hst := kept_stay (p := p) (l := l) (d := Kall.none) hkn (by rw [HX.out]; exact hpx)
            rw [HX.out, HI2.out] at hst
            refine ⟨k + 1, by omega, by omega, rfl, by go_num, by rw [hst.2]; go_num, HO3.out, ?_⟩
            rw [hst.1]
            exact HW3.out
      · obtain rfl : k = n := by omega
        have hll : ((l.take k).filter (fun x => !p x)) = l.filter (fun x => !p x) := by rw [List.take_of_length_le (by rw [HN.out]; omega)]
        have hin : ((l.take k).filter (fun x => !p x)).length < k := by
          rw [hll]
          have h := List.length_filter_lt_length_iff_exists (p := fun x => !p x) (l := l) |>.2 ⟨l.getD j0 Kall.none, by simp [List.getD, (by rw [HN.out]; exact h1 : j0 < l.length)], by rw [H34.out.1]; simp⟩
          rw [HN.out] at h
          exact h
        obtain ⟨w3, hcl, hO3, hR3⟩ := clear_own (s := 6) Try.underlying78 kall_zero rfl (by simp [Value.cells, Value.oneCell']) HWR.out hin
        have HFIN := Lib.hid (show Rd w3 (some ⟨g, 0, none⟩) (rows (l.filter fun x => !p x)) by
          have e : (rows (keptRow p l k)).take (((l.take k).filter (fun x => !p x)).length * 6) = rows (l.filter fun x => !p x) := by
            have := rows_take (keptRow p l k) ((l.take k).filter (fun x => !p x)).length
            simp only [Cellful.s] at this
            rw [this]
            unfold keptRow
            rw [List.take_left, hll]
          rw [e] at hR3
          exact hR3)
        have HLE := Lib.hid (show ((l.take k).filter (fun x => !p x)).length = (l.filter fun x => !p x).length by rw [hll])
        clear hll hR3
        generalize ((l.take k).filter (fun x => !p x)).length = i at *
        have hci : ¬ c = i := by omega
        have q1 : (0 : Int) ≤ (i : Int) := by omega
        have q2 : (i : Int) ≤ (k : Int) := by omega
        have q3 : (i : Int) ≤ (c : Int) := by omega
        go_wp2
        go_ret
        exact ⟨ret_slice HLE.out, HFIN.out, HOR.out.trans hO3⟩

/-- The closure (f, caps), asked at a record's value in a world that is as w was below base, answers p x and leaves alone what was there. -/
def AsksB {α : Type} (val : α → Value) (base : Nat) (w : World) (f : FuncId) (caps : Array Value) (p : α → Bool) (l : List α) : Prop :=
  ∀ x, x ∈ l → ∀ w', Below base w w' → Calls Try.prog f (#[val x] ++ caps) w' fun e w'' => e = .returned (.bool (p x)) ∧ Below w'.heap.size w' w''

/-- What is left of a row that the caller owns from base on. -/
def RetDelB {α : Type} [Cellful α] (A : Option Addr) (c base : Nat) (l : List α) (w : World) (e : Ending) (w' : World) : Prop :=
  e = .returned (.slice A l.length c) ∧ Rd w' A (rows l) ∧ Below base w w'

theorem only_below {g base : Nat} {a w : World} (h : Only g a w) (hg : base ≤ g) (hb : base ≤ a.heap.size) : Below base a w := h.below hg hb

set_option maxHeartbeats 400000 in
theorem DelK_nil (c base : Nat) (f : FuncId) (caps : Array Value) (p : Kall → Bool) (w : World) (hbase : base ≤ w.heap.size) (hf : Enters f) :
    Calls Try.prog 106 #[.slice none 0 c, .func (.func f) #[] caps] w (RetDelB none c base ([] : List Kall) w) := by
  have HI := Lib.hid (IndexK_any none c [] f caps p w (by simp) (.inl rfl) hf (fun x hx => by cases hx))
  rw [show firstV p ([] : List Kall) 0 = -1 from rfl] at HI
  simp only [List.length_nil] at HI
  clear hf
  go_enter Try.func106, Try.ntmps106
  go_wp2_with fail
  refine HI.out.mono ?_
  rintro e w1 ⟨rfl, hb1⟩
  go_wp2
  go_ret
  exact ⟨rfl, .inl rfl, hb1.mono hbase⟩

set_option maxHeartbeats 1000000 in
set_option maxRecDepth 100000 in
theorem DelK_own (A : Option Addr) (c base : Nat) (l : List Kall) (f : FuncId) (caps : Array Value) (p : Kall → Bool) (w : World) (hl : l.length ≤ 1048576)
    (hown : w.ownsRow base 82 6 (.slice A l.length c) l.length (rows l)) (hbase : base ≤ w.heap.size) (hf : Enters f) (hp : AsksB kallV base w f caps p l) :
    Calls Try.prog 106 #[.slice A l.length c, .func (.func f) #[] caps] w (RetDelB A c base (l.filter fun x => !p x) w) := by
  cases A with
  | some ad =>
    obtain ⟨g, c', cur, hv, hg, r⟩ := hown.2.resolve_left (by rintro ⟨h, _⟩; cases h)
    injection hv with hv _ hc
    injection hv with hv
    subst hv hc
    refine (DelK_any g c base l f caps p w hl hown hf (fun x hx w' ho => hp x hx w' (ho.below hg hbase))).mono ?_
    rintro e w' ⟨h1, h2, h3⟩
    exact ⟨h1, h2, h3.below hg hbase⟩
  | none =>
    obtain ⟨h0, _, _⟩ := own_none hown rfl
    obtain rfl : l = [] := List.eq_nil_of_length_eq_zero h0
    exact DelK_nil c base f caps p w hbase hf

end Go.Proofs.Ytmllbailfbjoeaa

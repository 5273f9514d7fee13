/- Notes of a history: as cells of a row; the calls that are gathered of them, step by step. -/
import Derived.Test.YtieglgahfeecbaaGreatDoorA9
import Derived.Test.YtieglgahfeecbaaGreatDoorA2
import Derived.Test.YtieglgahfeecbaaGreatDoorA1
import Derived.Test.YtieglgahfeecbaaGreatDoorA4
import Derived.Lib.SliceRun
import Derived.Maps.OwnSet
namespace Go.Proofs.YtieglgahfeecbaaGreatDoor
open Go.RowKit Go.Sort

/-- A call of a history: where it begins, where it ends, whether it is open, whether it puts, its value, its code. -/
structure Kall where
  (beg fin : Int)
  (opn put : Bool)
  (value code : Int)
deriving DecidableEq

abbrev kallV (a : Kall) : Value := .agg #[.int .i64 a.beg, .int .i64 a.fin, .bool a.opn, .bool a.put, .int .i64 a.value, .int .i64 a.code]
def Kall.cells (a : Kall) : List Value := [.int .i64 a.beg, .int .i64 a.fin, .bool a.opn, .bool a.put, .int .i64 a.value, .int .i64 a.code]
def Kall.none : Kall := ⟨0, 0, false, false, 0, 0⟩

instance : Cellful Kall where
  cells := Kall.cells
  s := 6
  dflt := Kall.none
  len := fun _ => rfl
  one := fun a u hu => by
    simp only [Kall.cells, List.mem_cons, List.not_mem_nil, or_false] at hu
    rcases hu with rfl | rfl | rfl | rfl | rfl | rfl <;> rfl

/-- The six cells of the call number k. -/
theorem kall_cells {w : World} {b o : Nat} {l : List Kall} (hc : ∀ k v, (rows l)[k]? = some v → w.cell? ⟨b, o + k, none⟩ = some v) {k : Nat} (hk : k < l.length) {x : Kall} (hx : l.getD k Kall.none = x) :
    w.cell? ⟨b, o + k * 6, none⟩ = some (.int .i64 x.beg) ∧ w.cell? ⟨b, o + k * 6 + 1, none⟩ = some (.int .i64 x.fin) ∧ w.cell? ⟨b, o + k * 6 + 2, none⟩ = some (.bool x.opn) ∧ w.cell? ⟨b, o + k * 6 + 3, none⟩ = some (.bool x.put) ∧
    w.cell? ⟨b, o + k * 6 + 4, none⟩ = some (.int .i64 x.value) ∧ w.cell? ⟨b, o + k * 6 + 5, none⟩ = some (.int .i64 x.code) := by
  have h := rec_cell hc hk hx
  exact ⟨h 0 _ rfl, h 1 _ rfl, h 2 _ rfl, h 3 _ rfl, h 4 _ rfl, h 5 _ rfl⟩

theorem Kall_info : (Tryz.prog.info? 105).map (fun i => (i.zero, i.size, i.bytes)) = some (some (kallV Kall.none), 6, 40) := by kernel_rfl

set_option maxHeartbeats 400000 in
set_option maxRecDepth 100000 in
theorem IndexK_any (A : Option Addr) (c : Nat) (l : List Kall) (f : FuncId) (caps : Array Value) (p : Kall → Bool) (w : World) (hl : l.length ≤ maxLen)
    (hR : Rd w A (rows l)) (hf : Enters f) (hp : AsksV kallV w f caps p l) :
    Calls Tryz.prog 95 #[.slice A l.length c, .func (.func f) #[] caps] w fun e w' => e = .returned (.int .i64 (firstV p l 0)) ∧ Below w.heap.size w w' := by
  unfold maxLen at hl
  have HR := Lib.hid hR
  have HP := Lib.hid hp
  clear hR hp
  generalize hn : l.length = n at hl ⊢
  have HN := Lib.hid hn
  clear hn
  go_enter Tryz.func95, Tryz.ntmps95
  go_wp2
  go_loopw [8] (fun i wr => ∃ k : Nat, k ≤ n ∧ i = .int .i64 k ∧ Below w.heap.size w wr ∧ ∀ j, j < k → p (l.getD j Kall.none) = false) (fun i _ => n - (intOf i).toNat)
  case atStart => exact ⟨0, Nat.zero_le _, rfl, Below.refl _ _, fun j hj => absurd hj (by omega)⟩
  case round =>
    obtain ⟨k, hk, rfl, hb, hno⟩ := hrel
    have HNO := Lib.hid hno
    clear hno
    by_cases hlt : k < n
    · have hkl : k < l.length := by rw [HN.out]; exact hlt
      obtain ⟨b, o, rfl, hbl, hc⟩ := HR.out.at_ (by rw [rows_length]; simp only [Cellful.s]; omega)
      have hcr : ∀ j v, (rows l)[j]? = some v → wr.cell? ⟨b, o + j, none⟩ = some v := fun j v hj => by
        rw [hb.cell (p := ⟨b, o + j, none⟩) hbl]; exact hc j v hj
      have HC := Lib.hid hc
      clear hc
      have hmem : l.getD k Kall.none ∈ l := by simp [hkl]
      generalize hx : l.getD k Kall.none = x at hmem
      obtain ⟨c0, c1, c2, c3, c4, c5⟩ := kall_cells hcr hkl hx
      have HX := Lib.hid hx
      clear hx hkl hcr
      have hcall := HP.out x hmem wr hb
      have HCALL := Lib.hid hcall
      clear hcall hmem
      have hrun := hf (#[kallV x] ++ caps) wr
      unfold kallV at hrun
      by_cases hpx : p x = true
      · go_wp2_with (first | (refine HCALL.out.mono ?_; rintro e w1 ⟨rfl, hb1⟩))
        go_ret
        exact ⟨ret_int (by rw [firstV_hit Kall.none l 0 k (by rw [HN.out]; exact hlt) HNO.out (by rw [HX.out]; exact hpx)]; simp), hb.trans (hb1.mono hb.size)⟩
      · simp only [Bool.not_eq_true] at hpx
        go_wp2_with (first | (refine HCALL.out.mono ?_; rintro e w1 ⟨rfl, hb1⟩))
        go_roundw
        case rel =>
          refine ⟨k + 1, by omega, by go_num, hb.trans (hb1.mono hb.size), fun j hj => ?_⟩
          by_cases hjk : j = k
          · subst hjk; rw [HX.out]; exact hpx
          · exact HNO.out j (by omega)
        case measure => simp [intOf]; omega
    · go_wp2
      go_ret
      refine ⟨ret_int ?_, hb⟩
      rw [firstV_none l 0 (fun x hx => ?_)]
      obtain ⟨j, hj, rfl⟩ := List.getElem_of_mem hx
      have := HNO.out j (by have := HN.out; omega)
      simpa [List.getD, hj] using this

set_option maxHeartbeats 400000 in
theorem HasK_any (A : Option Addr) (c : Nat) (l : List Kall) (f : FuncId) (caps : Array Value) (p : Kall → Bool) (w : World) (hl : l.length ≤ maxLen)
    (hR : Rd w A (rows l)) (hf : Enters f) (hp : AsksV kallV w f caps p l) :
    Calls Tryz.prog 57 #[.slice A l.length c, .func (.func f) #[] caps] w fun e w' => e = .returned (.bool (l.any p)) ∧ Below w.heap.size w w' := by
  have HI := Lib.hid (IndexK_any A c l f caps p w hl hR hf hp)
  have hlo := firstV_lo (p := p) l 0
  have HL := Lib.hid hlo
  clear hR hp hf hl hlo
  by_cases h : 0 ≤ firstV p l 0
  all_goals
    go_enter Tryz.func57, Tryz.ntmps57
    go_wp2_with (first | (refine HI.out.mono ?_; rintro e w1 ⟨rfl, hb1⟩))
    go_ret
    refine ⟨ret_bool ?_, hb1⟩
    have e := HL.out.2
    first | exact (e.1 h).symm | (rw [Bool.eq_iff_iff, decide_eq_true_iff]; exact e) | (rw [eq_comm, Bool.eq_false_iff]; exact fun h' => h (e.2 h'))

set_option maxHeartbeats 1000000 in
set_option maxRecDepth 100000 in
theorem CloneK_any (A : Option Addr) (n c : Nat) (xs : List Value) (w : World) (hn : n * 40 ≤ 140737488355328) (hx : xs.length = n * 6) (h1 : ∀ u ∈ xs, u.oneCell' = true) (hR : Rd w A xs) :
    Calls Tryz.prog 90 #[.slice A n c] w (RetOwn 105 6 n xs w) := by
  have HR := Lib.hid hR
  have HX := Lib.hid hx
  have H1 := Lib.hid h1
  clear hR hx h1
  rcases A with _ | ad
  · have hxs : xs = [] := by
      rcases HR.out with h | ⟨b, o, h, _⟩
      · exact h
      · cases h
    obtain rfl : n = 0 := by have := HX.out; rw [hxs] at this; simp at this; omega
    have hnil := fun w => Lib.run_eql_slice_nil (P := Tryz.prog) w 101 105 none 0 c 0 0 Tryz.underlying101
    go_enter Tryz.func90, Tryz.ntmps90
    go_wp2
    go_ret
    exact ⟨none, 0, rfl, by rw [hxs]; exact own_nil _ _ _ _, Below.refl _ _⟩
  · have hnil := fun w => Lib.run_eql_slice_nil (P := Tryz.prog) w 101 105 (some ad) n c 0 0 Tryz.underlying101
    obtain ⟨i0, hi, hz0, hz1, hz2⟩ := info_parts Kall_info
    have hnm : n ≤ maxLen := by unfold maxLen; omega
    have HI := Lib.hid (And.intro hi (And.intro hz0 (And.intro hz1 (And.intro hz2 hnm))))
    clear hi hz0 hz1 hz2 hnm
    go_enter Tryz.func90, Tryz.ntmps90
    go_wp2_with (at_builtin; refine wpList_append_own _ rfl (.tmp 5) (.tmp 6) 101 rfl w.heap.size 105 i0 (kallV Kall.none) 6 40 Tryz.underlying101 HI.out.1 HI.out.2.1 HI.out.2.2.1 HI.out.2.2.2.1 rfl (by decide) (.slice (some ⟨w.heap.size, 0, none⟩) 0 0) 0 [] rfl (own_empty w 105 6) ad n c xs rfl HX.out (rd_add (HR.out.alloc _)) H1.out (by have := HI.out.2.2.2.2; omega) (by omega) (by simp) ?_; intro v' w1 hown1 hg1 hnl1)
    go_ret
    have hown2 : w1.ownsRow w.heap.size 105 6 v' n xs := by simpa using hown1
    have hb := ((Below.refl _ w).alloc (Nat.le_refl _) _).trans ((own_grown (own_empty w 105 6) (by simp) hg1))
    rcases hown2.2 with ⟨rfl, h0⟩ | ⟨g, cap, cur, rfl, _⟩
    · subst h0
      exact ⟨none, 0, rfl, hown2, hb⟩
    · exact ⟨_, _, rfl, hown2, hb⟩

end Go.Proofs.YtieglgahfeecbaaGreatDoor

namespace Go.Proofs.YtieglgahfeecbaaGreatDoor
open Go.RowKit Go.Sort

/-- The closure (f, caps), asked at a record's value in a world that parts from w by new blocks and block g alone, answers p x and leaves alone what was there. -/
def AsksO {α : Type} (val : α → Value) (w : World) (g : Nat) (f : FuncId) (caps : Array Value) (p : α → Bool) (l : List α) : Prop :=
  ∀ x, x ∈ l → ∀ w', Only g w w' → Calls Tryz.prog f (#[val x] ++ caps) w' fun e w'' => e = .returned (.bool (p x)) ∧ Below w'.heap.size w' w''

theorem AsksO.toV {α : Type} {val : α → Value} {w : World} {g : Nat} {f : FuncId} {caps : Array Value} {p : α → Bool} {l : List α} (h : AsksO val w g f caps p l) : AsksV val w f caps p l :=
  fun x hx w' hb => h x hx w' (.of_below hb)

theorem only_setCells (g : Nat) : ∀ (vs : List Value) (o : Nat) (w : World), Only g w (w.setCells g o vs)
  | [], _, w => Only.refl g w
  | v :: r, o, w => ((Only.refl g w).set_ o v).trans (only_setCells g r (o + 1) _)

theorem zero_mem {z : Value} {n : Nat} {v : Value} (h : v ∈ (Builtin.zeroCells z.cells n).toList) : v ∈ z.cells.toList := by
  simp only [Builtin.zeroCells, Array.toList_range, Array.toList_map, List.mem_map, List.mem_range] at h
  obtain ⟨k, hk, rfl⟩ := h
  have hpos : 0 < z.cells.size := by
    rcases Nat.eq_zero_or_pos z.cells.size with h0 | h0
    · rw [h0] at hk; simp at hk
    · exact h0
  rw [getElem!_pos z.cells (k % z.cells.size) (Nat.mod_lt _ hpos)]
  simp

set_option maxRecDepth 100000 in
/-- clear(s[i:]) of a row that is owned. -/
theorem clear_own {w : World} {base g i n c s : Nat} {t e : TypeId} {z : Value} {xs : List Value} (ht : Tryz.prog.underlying t = some (.slice e)) (hz : ∀ w, (zeroValue e).run Tryz.prog w = .ok z w) (hzs : z.cells.size = s) (hz1 : ∀ u ∈ z.cells.toList, u.oneCell' = true)
    (hown : w.ownsRow base e s (.slice (some ⟨g, 0, none⟩) n c) n xs) (hi : i < n) :
    ∃ w', (∀ ty, (Builtin.clear_ #[t] ty #[.slice (some ⟨g, i * s, none⟩) (n - i) (c - i)]).run Tryz.prog w = .ok (.tuple #[]) w') ∧ Only g w w' ∧ Rd w' (some ⟨g, 0, none⟩) (xs.take (i * s)) := by
  have hl := hown.1
  rcases hown.2 with ⟨hv, _⟩ | ⟨g', cap, cur, hv, hb, hh, hnc, hm, hsz, hx⟩
  · cases hv
  · injection hv with hA _ hc
    injection hA with hA
    injection hA with hA
    subst hA hc
    have hlen : (Builtin.zeroCells z.cells (n - i)).toList.length = (n - i) * s := by rw [Array.length_toList, size_zeroCells, hzs]
    have hcell : ∀ j, j < (n - i) * s → (w.cell? ⟨g, i * s + j, none⟩).isSome = true := fun j hj => by
      have hlt : i * s + j < cur.size := by
        rw [hsz]
        have h1 : i * s + (n - i) * s = n * s := by rw [← Nat.add_mul]; congr 1; omega
        have h2 : n * s ≤ c * s := Nat.mul_le_mul_right _ hnc
        omega
      rw [cell_of_row w g _ cur e (0, 0) hh, Array.getElem?_eq_getElem hlt]
      rfl
    have hfr : ∀ j, j < (n - i) * s → w.frozen? ⟨g, i * s + j, none⟩ = false := fun j _ => by simp [World.frozen?, hh]
    have hst := run_storeCells_cells (P := Tryz.prog) g (i * s) (Builtin.zeroCells z.cells (n - i)).toList 0 w (by rw [hlen]; simpa using hcell) (by rw [hlen]; simpa using hfr) (by
      intro v hv'
      exact hz1 _ (zero_mem hv'))
    simp only [Nat.add_zero] at hst
    refine ⟨w.setCells g (i * s) (Builtin.zeroCells z.cells (n - i)).toList, fun ty => ?_, ?_, ?_⟩
    · obtain ⟨m, hm'⟩ : ∃ m, n - i = m + 1 := ⟨n - i - 1, by omega⟩
      simp only [hm'] at hst ⊢
      simp [Builtin.clear_, run_underlying ht, hz, hst]
    · exact only_setCells g _ _ w
    · refine .inr ⟨g, 0, rfl, Nat.lt_of_lt_of_le (by
        rcases Nat.lt_or_ge g w.heap.size with hlt | hge
        · exact hlt
        · rw [Array.getElem?_eq_none hge] at hh; cases hh) (only_setCells g _ _ w).size, fun k v hk => ?_⟩
      rw [List.getElem?_take] at hk
      split at hk
      · rename_i hlt
        rw [World.cell?_setCells_out g _ _ w ⟨g, 0 + k, none⟩ (fun _ _ => .inl (by show 0 + k < i * s; omega)), Nat.zero_add]
        rw [← hx, List.getElem?_take] at hk
        split at hk
        · rw [cell_of_row w g _ cur e (0, 0) hh]; simpa using hk
        · cases hk
      · cases hk

/-- Those that stay of the first j, and behind them the row as it was. -/
def keptRow {α : Type} (p : α → Bool) (l : List α) (j : Nat) : List α := (l.take j).filter (fun x => !p x) ++ l.drop ((l.take j).filter (fun x => !p x)).length

theorem kept_len {α : Type} (p : α → Bool) (l : List α) (j : Nat) : ((l.take j).filter (fun x => !p x)).length ≤ j := by
  have := List.length_filter_le (fun x => !p x) (l.take j)
  simp at this
  omega

theorem kept_length {α : Type} (p : α → Bool) (l : List α) (j : Nat) (h : j ≤ l.length) : (keptRow p l j).length = l.length := by
  have := kept_len p l j
  simp only [keptRow, List.length_append, List.length_drop]
  omega

theorem kept_getD {α : Type} (p : α → Bool) (l : List α) (d : α) (j k : Nat) (hk : j ≤ k) : (keptRow p l j).getD k d = l.getD k d := by
  have := kept_len p l j
  simp only [keptRow, List.getD]
  rw [List.getElem?_append_right (by omega), List.getElem?_drop]
  congr 2
  omega

theorem take_succ_getD {α : Type} (l : List α) (d : α) (j : Nat) (h : j < l.length) : l.take (j + 1) = l.take j ++ [l.getD j d] := by
  rw [List.take_succ_eq_append_getElem h]
  simp [List.getD, h]

theorem kept_drop {α : Type} {p : α → Bool} {l : List α} {d : α} {j : Nat} (h : j < l.length) (hp : p (l.getD j d) = true) : keptRow p l (j + 1) = keptRow p l j := by
  unfold keptRow
  rw [take_succ_getD l d j h, List.filter_append]
  simp only [List.filter_cons, hp, Bool.not_true, Bool.false_eq_true, if_false, List.filter_nil, List.append_nil]

theorem kept_stay {α : Type} {p : α → Bool} {l : List α} {d : α} {j : Nat} (h : j < l.length) (hp : p (l.getD j d) = false) :
    keptRow p l (j + 1) = (keptRow p l j).set ((l.take j).filter (fun x => !p x)).length (l.getD j d) ∧ ((l.take (j + 1)).filter (fun x => !p x)).length = ((l.take j).filter (fun x => !p x)).length + 1 := by
  have hk := kept_len p l j
  have e : (l.take (j + 1)).filter (fun x => !p x) = (l.take j).filter (fun x => !p x) ++ [l.getD j d] := by
    rw [take_succ_getD l d j h, List.filter_append]
    simp only [List.filter_cons, hp, Bool.not_false, if_true, List.filter_nil]
  constructor
  · unfold keptRow
    rw [e]
    have hlt : ((l.take j).filter (fun x => !p x)).length < l.length := by omega
    generalize (l.take j).filter (fun x => !p x) = K at hlt ⊢
    conv => rhs; rw [List.set_append_right _ _ (Nat.le_refl _), Nat.sub_self, List.drop_eq_getElem_cons hlt, List.set_cons_zero]
    simp
  · rw [e]; simp

theorem ret_slice {A : Option Addr} {n m c : Nat} (h : n = m) : Ending.returned (.slice A n c) = .returned (.slice A m c) := by rw [h]

/-- What is left of a row that the caller owns. -/
def RetDel {α : Type} [Cellful α] (A : Option Addr) (c g : Nat) (l : List α) (w : World) (e : Ending) (w' : World) : Prop :=
  e = .returned (.slice A l.length c) ∧ Rd w' A (rows l) ∧ Only g w w'

/-- The closure (f, caps), asked at a record's value in a world that is as w was below base, answers p x and leaves alone what was there. -/
def AsksB {α : Type} (val : α → Value) (base : Nat) (w : World) (f : FuncId) (caps : Array Value) (p : α → Bool) (l : List α) : Prop :=
  ∀ x, x ∈ l → ∀ w', Below base w w' → Calls Tryz.prog f (#[val x] ++ caps) w' fun e w'' => e = .returned (.bool (p x)) ∧ Below w'.heap.size w' w''

/-- What is left of a row that the caller owns from base on. -/
def RetDelB {α : Type} [Cellful α] (A : Option Addr) (c base : Nat) (l : List α) (w : World) (e : Ending) (w' : World) : Prop :=
  e = .returned (.slice A l.length c) ∧ Rd w' A (rows l) ∧ Below base w w'

theorem only_below {g base : Nat} {a w : World} (h : Only g a w) (hg : base ≤ g) (hb : base ≤ a.heap.size) : Below base a w := h.below hg hb

end Go.Proofs.YtieglgahfeecbaaGreatDoor

namespace Go.Proofs.YtieglgahfeecbaaGreatDoor
open Go.RowKit Go.Sort

theorem kall_zero (w : World) : (zeroValue 105).run Tryz.prog w = .ok (kallV Kall.none) w := by kernel_rfl

theorem kalls_set : ∀ (l : List Kall) (k : Nat) (y : Kall), k < l.length →
    ((((((rows l).set (k * 6) (.int .i64 y.beg)).set (k * 6 + 1) (.int .i64 y.fin)).set (k * 6 + 2) (.bool y.opn)).set (k * 6 + 3) (.bool y.put)).set (k * 6 + 4) (.int .i64 y.value)).set (k * 6 + 5) (.int .i64 y.code) = rows (l.set k y)
  | a :: l, 0, y, _ => by simp [rows, Cellful.cells, Kall.cells]
  | a :: l, k + 1, y, h => by
    have ih := kalls_set l k y (by simpa using h)
    have e0 : (k + 1) * 6 = (Kall.cells a).length + k * 6 := by simp [Kall.cells]; omega
    simp only [rows, Cellful.cells, List.flatMap_cons, List.set_cons_succ] at *
    rw [e0]
    simp only [Nat.add_assoc]
    rw [← ih]
    simp only [List.set_append_right _ _ (Nat.le_add_right _ _), Nat.add_sub_cancel_left]

theorem own_kall {w : World} {base : Nat} {n g c : Nat} {l : List Kall} (h : w.ownsRow base 105 6 (.slice (some ⟨g, 0, none⟩) n c) n (rows l)) (hl : l.length = n) (k : Nat) (hk : k < n) (y : Kall) :
    ((((((w.setCell ⟨g, k * 6, none⟩ (.int .i64 y.beg)).setCell ⟨g, k * 6 + 1, none⟩ (.int .i64 y.fin)).setCell ⟨g, k * 6 + 2, none⟩ (.bool y.opn)).setCell ⟨g, k * 6 + 3, none⟩ (.bool y.put)).setCell ⟨g, k * 6 + 4, none⟩ (.int .i64 y.value)).setCell ⟨g, k * 6 + 5, none⟩ (.int .i64 y.code)).ownsRow base 105 6 (.slice (some ⟨g, 0, none⟩) n c) n (rows (l.set k y)) := by
  rw [← kalls_set l k y (by omega)]
  exact own_set (own_set (own_set (own_set (own_set (own_set h (by omega) _ _ (by omega)) (by omega) _ _ (by omega)) (by omega) _ _ (by omega)) (by omega) _ _ (by omega)) (by omega) _ _ (by omega)) (by omega) _ _ (by omega)

set_option maxHeartbeats 4000000 in
set_option maxRecDepth 100000 in
theorem DelK_any (g c base : Nat) (l : List Kall) (f : FuncId) (caps : Array Value) (p : Kall → Bool) (w : World) (hl : l.length ≤ 1048576)
    (hown : w.ownsRow base 105 6 (.slice (some ⟨g, 0, none⟩) l.length c) l.length (rows l)) (hf : Enters f) (hp : AsksO kallV w g f caps p l) :
    Calls Tryz.prog 89 #[.slice (some ⟨g, 0, none⟩) l.length c, .func (.func f) #[] caps] w (RetDel (some ⟨g, 0, none⟩) c g (l.filter fun x => !p x) w) := by
  have HO := Lib.hid hown
  have HP := Lib.hid hp
  have HI := Lib.hid (IndexK_any (some ⟨g, 0, none⟩) c l f caps p w (by unfold maxLen; omega) (own_rd hown) hf hp.toV)
  have hnc := own_le hown
  have HFS := Lib.hid (firstV_spec (p := p) Kall.none l 0)
  clear hown hp
  generalize hn : l.length = n at *
  have HN := Lib.hid hn
  clear hn
  go_enter Tryz.func89, Tryz.ntmps89
  go_wp2_with fail
  refine HI.out.mono ?_
  rintro e w1 ⟨rfl, hb1⟩
  have hO1 : Only g w w1 := .of_below hb1
  have HW1 := Lib.hid (own_below HO.out hb1)
  have HO1 := Lib.hid hO1
  clear hb1 hO1
  rcases HFS.out with ⟨h1, h2⟩ | ⟨j0, h1, h2, h3, h4⟩
  · rw [h1]
    have H2 := Lib.hid h2
    clear h1 h2
    go_wp2
    go_ret
    rw [H2.out]
    exact ⟨ret_slice HN.out.symm, own_rd HW1.out, HO1.out⟩
  · rw [h2, Nat.zero_add]
    have hne : ((j0 : Int) == -1) = false := by simp
    have H34 := Lib.hid (And.intro h3 h4)
    clear h2 h3 h4
    go_wp2
    go_loopg [5, 6] (n - (j0 + 1)) (fun q i j wr => ∃ k : Nat, j0 < k ∧ k ≤ n ∧ q = n - k ∧ j = .int .i64 k ∧ i = .int .i64 ((((l.take k).filter (fun x => !p x)).length : Nat) : Int) ∧ Only g w wr ∧ wr.ownsRow base 105 6 (.slice (some ⟨g, 0, none⟩) n c) n (rows (keptRow p l k)))
    case atStart =>
      have hj : j0 < l.length := by rw [HN.out]; exact h1
      have e1 : ((l.take (j0 + 1)).filter (fun x => !p x)) = l.take j0 := by
        rw [take_succ_getD l Kall.none j0 hj, List.filter_append, H34.out.2]
        simp only [List.filter_cons, H34.out.1, Bool.not_true, Bool.false_eq_true, if_false, List.filter_nil, List.append_nil]
      refine ⟨j0 + 1, by omega, by omega, rfl, by go_num, ?_, HO1.out, ?_⟩
      · rw [e1, List.length_take, Nat.min_eq_left (by omega)]
      · have e2 : keptRow p l (j0 + 1) = l := by
          unfold keptRow
          rw [e1, List.length_take, Nat.min_eq_left (by omega), List.take_append_drop]
        rw [e2]
        exact HW1.out
    case round =>
      obtain ⟨k, hk0, hk, hq, rfl, rfl, hOr, hWr⟩ := hrel
      have HOR := Lib.hid hOr
      have HWR := Lib.hid hWr
      have HQ := Lib.hid hq
      have hkl := kept_len p l k
      clear hOr hWr hq
      by_cases hlt : k < n
      · have hkn : k < l.length := by rw [HN.out]; exact hlt
        have hgl : g < wr.heap.size := by
          obtain ⟨g', hg', _, hlt'⟩ := own_some HWR.out (by omega)
          injection hg' with hg'
          injection hg' with hg'
          subst hg'
          exact hlt'
        obtain ⟨_, _, he, _, hc⟩ := (own_rd HWR.out).at_ (by rw [rows_length, kept_length p l k (by omega)]; exact Nat.mul_pos (by omega) (by decide))
        simp only [Option.some.injEq, Addr.mk.injEq, and_true] at he
        obtain ⟨rfl, rfl⟩ := he
        generalize hx : l.getD k Kall.none = x
        have hmem : x ∈ l := by rw [← hx]; simp [List.getD, hkn]
        obtain ⟨c0, c1, c2, c3, c4, c5⟩ := kall_cells hc (k := k) (x := x) (by rw [kept_length p l k (by omega)]; exact hkn) (by rw [kept_getD p l Kall.none k k (Nat.le_refl _)]; exact hx)
        simp only [Nat.zero_add] at c0 c1 c2 c3 c4 c5
        have HX := Lib.hid hx
        have HM := Lib.hid hmem
        clear hc hx hmem
        generalize hi : ((l.take k).filter (fun x => !p x)).length = i at *
        have HI2 := Lib.hid hi
        clear hi
        have hrun := hf (#[kallV x] ++ caps) (wr.alloc (.cells #[.int .i64 x.beg, .int .i64 x.fin, .bool x.opn, .bool x.put, .int .i64 x.value, .int .i64 x.code] 105))
        unfold kallV at hrun
        have HBX : RowKit.Hid (Only g w (wr.alloc (.cells #[.int .i64 x.beg, .int .i64 x.fin, .bool x.opn, .bool x.put, .int .i64 x.value, .int .i64 x.code] 105))) := Lib.hid (HOR.out.alloc _)
        have HCALL := Lib.hid (HP.out x HM.out _ HBX.out)
        have q1 : (0 : Int) ≤ (k : Int) := by omega
        have q2 : (k : Int) < (n : Int) := by omega
        by_cases hpx : p x = true
        · rw [hpx] at HCALL
          go_wp2_with (first | (refine HCALL.out.mono ?_; rintro e w2 ⟨rfl, hb2⟩))
          go_roundg (n - (k + 1))
          case measure => rw [HQ.out]; omega
          case rel =>
            refine ⟨k + 1, by omega, by omega, rfl, by go_num, ?_, HBX.out.trans (.of_below hb2), ?_⟩
            · have e := take_succ_getD l Kall.none k hkn
              rw [e, List.filter_append, HX.out]
              simp only [List.filter_cons, hpx, Bool.not_true, Bool.false_eq_true, if_false, List.filter_nil, List.append_nil]
              rw [HI2.out]
            · rw [kept_drop hkn (by rw [HX.out]; exact hpx)]
              exact own_below (HWR.out.alloc _) hb2
        · simp only [Bool.not_eq_true] at hpx
          rw [hpx] at HCALL
          go_wp2_with fail
          refine HCALL.out.mono ?_
          rintro e w2 ⟨rfl, hb2⟩
          have hW2 := own_below (HWR.out.alloc (.cells #[.int .i64 x.beg, .int .i64 x.fin, .bool x.opn, .bool x.put, .int .i64 x.value, .int .i64 x.code] 105)) hb2
          have hO2 : Only g w w2 := HBX.out.trans (.of_below hb2)
          have hbox : ∀ j v, x.cells[j]? = some v → w2.cell? ⟨wr.heap.size, j, none⟩ = some v := fun j v hj => by
            rw [hb2.cell (p := ⟨wr.heap.size, j, none⟩) (by simp), World.cell?_alloc_at (hn := rfl), ← hj]; simp [Kall.cells]
          have x0 := hbox 0 _ rfl
          have x1 := hbox 1 _ rfl
          have x2 := hbox 2 _ rfl
          have x3 := hbox 3 _ rfl
          have x4 := hbox 4 _ rfl
          have x5 := hbox 5 _ rfl
          obtain ⟨_, _, he, _, hc⟩ := (own_rd hW2).at_ (by rw [rows_length, kept_length p l k (by omega)]; exact Nat.mul_pos (by omega) (by decide))
          simp only [Option.some.injEq, Addr.mk.injEq, and_true] at he
          obtain ⟨rfl, rfl⟩ := he
          obtain ⟨d0, d1, d2, d3, d4, d5⟩ := kall_cells hc (k := i) (x := (keptRow p l k).getD i Kall.none) (by rw [kept_length p l k (by omega)]; omega) rfl
          simp only [Nat.zero_add] at d0 d1 d2 d3 d4 d5
          obtain ⟨_, hge, _, _, hfz, _⟩ := own_form hW2 (by omega)
          injection hge with hge
          injection hge with hge
          subst hge
          have f0 := hfz (i * 6)
          have f1 := hfz (i * 6 + 1)
          have f2 := hfz (i * 6 + 2)
          have f3 := hfz (i * 6 + 3)
          have f4 := hfz (i * 6 + 4)
          have f5 := hfz (i * 6 + 5)
          have hgw : g < wr.heap.size := hgl
          have HW3 := Lib.hid (own_kall hW2 (by rw [kept_length p l k (by omega)]; exact HN.out) i (by omega) x)
          have HO3 := Lib.hid ((((((hO2.set_ (i * 6) (.int .i64 x.beg)).set_ (i * 6 + 1) (.int .i64 x.fin)).set_ (i * 6 + 2) (.bool x.opn)).set_ (i * 6 + 3) (.bool x.put)).set_ (i * 6 + 4) (.int .i64 x.value)).set_ (i * 6 + 5) (.int .i64 x.code))
          have q3 : (0 : Int) ≤ (i : Int) := by omega
          have q4 : (i : Int) < (n : Int) := by omega
          generalize (keptRow p l k).getD i Kall.none = y at *
          clear hbox hc hfz hb2 hW2 hO2
          go_wp2
          go_roundg (n - (k + 1))
          case measure => rw [HQ.out]; omega
          case rel =>
            have hst := kept_stay (p := p) (l := l) (d := Kall.none) hkn (by rw [HX.out]; exact hpx)
            rw [HX.out, HI2.out] at hst
            refine ⟨k + 1, by omega, by omega, rfl, by go_num, by rw [hst.2]; go_num, HO3.out, ?_⟩
            rw [hst.1]
            exact HW3.out
      · obtain rfl : k = n := by omega
        have hll : ((l.take k).filter (fun x => !p x)) = l.filter (fun x => !p x) := by rw [List.take_of_length_le (by rw [HN.out]; omega)]
        have hin : ((l.take k).filter (fun x => !p x)).length < k := by
          rw [hll]
          have h := List.length_filter_lt_length_iff_exists (p := fun x => !p x) (l := l) |>.2 ⟨l.getD j0 Kall.none, by simp [List.getD, (by rw [HN.out]; exact h1 : j0 < l.length)], by rw [H34.out.1]; simp⟩
          rw [HN.out] at h
          exact h
        obtain ⟨w3, hcl, hO3, hR3⟩ := clear_own (s := 6) Tryz.underlying101 kall_zero rfl (by simp [Value.cells, Value.oneCell']) HWR.out hin
        have HFIN := Lib.hid (show Rd w3 (some ⟨g, 0, none⟩) (rows (l.filter fun x => !p x)) by
          have e : (rows (keptRow p l k)).take (((l.take k).filter (fun x => !p x)).length * 6) = rows (l.filter fun x => !p x) := by
            have := rows_take (keptRow p l k) ((l.take k).filter (fun x => !p x)).length
            simp only [Cellful.s] at this
            rw [this]
            unfold keptRow
            rw [List.take_left, hll]
          rw [e] at hR3
          exact hR3)
        have HLE := Lib.hid (show ((l.take k).filter (fun x => !p x)).length = (l.filter fun x => !p x).length by rw [hll])
        clear hll hR3
        generalize ((l.take k).filter (fun x => !p x)).length = i at *
        have hci : ¬ c = i := by omega
        have q1 : (0 : Int) ≤ (i : Int) := by omega
        have q2 : (i : Int) ≤ (k : Int) := by omega
        have q3 : (i : Int) ≤ (c : Int) := by omega
        go_wp2
        go_ret
        exact ⟨ret_slice HLE.out, HFIN.out, HOR.out.trans hO3⟩

set_option maxHeartbeats 400000 in
theorem DelK_nil (c base : Nat) (f : FuncId) (caps : Array Value) (p : Kall → Bool) (w : World) (hbase : base ≤ w.heap.size) (hf : Enters f) :
    Calls Tryz.prog 89 #[.slice none 0 c, .func (.func f) #[] caps] w (RetDelB none c base ([] : List Kall) w) := by
  have HI := Lib.hid (IndexK_any none c [] f caps p w (by simp) (.inl rfl) hf (fun x hx => by cases hx))
  rw [show firstV p ([] : List Kall) 0 = -1 from rfl] at HI
  simp only [List.length_nil] at HI
  clear hf
  go_enter Tryz.func89, Tryz.ntmps89
  go_wp2_with fail
  refine HI.out.mono ?_
  rintro e w1 ⟨rfl, hb1⟩
  go_wp2
  go_ret
  exact ⟨rfl, .inl rfl, hb1.mono hbase⟩

set_option maxHeartbeats 1000000 in
set_option maxRecDepth 100000 in
theorem DelK_own (A : Option Addr) (c base : Nat) (l : List Kall) (f : FuncId) (caps : Array Value) (p : Kall → Bool) (w : World) (hl : l.length ≤ 1048576)
    (hown : w.ownsRow base 105 6 (.slice A l.length c) l.length (rows l)) (hbase : base ≤ w.heap.size) (hf : Enters f) (hp : AsksB kallV base w f caps p l) :
    Calls Tryz.prog 89 #[.slice A l.length c, .func (.func f) #[] caps] w (RetDelB A c base (l.filter fun x => !p x) w) := by
  cases A with
  | some ad =>
    obtain ⟨g, c', cur, hv, hg, r⟩ := hown.2.resolve_left (by rintro ⟨h, _⟩; cases h)
    injection hv with hv _ hc
    injection hv with hv
    subst hv hc
    refine (DelK_any g c base l f caps p w hl hown hf (fun x hx w' ho => hp x hx w' (ho.below hg hbase))).mono ?_
    rintro e w' ⟨h1, h2, h3⟩
    exact ⟨h1, h2, h3.below hg hbase⟩
  | none =>
    obtain ⟨h0, _, _⟩ := own_none hown rfl
    obtain rfl : l = [] := List.eq_nil_of_length_eq_zero h0
    exact DelK_nil c base f caps p w hbase hf

end Go.Proofs.YtieglgahfeecbaaGreatDoor

namespace Go.Proofs.YtieglgahfeecbaaGreatDoor
open Go.RowKit Go.Sort Go.Maps

/-- A line of a history. -/
structure Nte where
  (kind thread seq time rkind rarg rvalue : Int)
  (rdef : Bool)
  (ca : Option Addr)
  (cl cc : Nat)
  (qseq qcase qcode qvalue : Int)

def Nte.cells (a : Nte) : List Value := [.int .i64 a.kind, .int .i64 a.thread, .int .i64 a.seq, .int .i64 a.time, .int .i64 a.rkind, .int .i64 a.rarg, .int .i64 a.rvalue, .bool a.rdef, .slice a.ca a.cl a.cc, .int .i64 a.qseq, .int .i64 a.qcase, .int .i64 a.qcode, .int .i64 a.qvalue]
def Nte.none : Nte := ⟨0, 0, 0, 0, 0, 0, 0, false, .none, 0, 0, 0, 0, 0, 0⟩
abbrev nbox (a : Nte) : Obj := .cells #[.int .i64 a.kind, .int .i64 a.thread, .int .i64 a.seq, .int .i64 a.time, .int .i64 a.rkind, .int .i64 a.rarg, .int .i64 a.rvalue, .bool a.rdef, .slice a.ca a.cl a.cc, .int .i64 a.qseq, .int .i64 a.qcase, .int .i64 a.qcode, .int .i64 a.qvalue] 44

instance : Cellful Nte where
  cells := Nte.cells
  s := 13
  dflt := Nte.none
  len := fun _ => rfl
  one := fun a u hu => by
    simp only [Nte.cells, List.mem_cons, List.not_mem_nil, or_false] at hu
    rcases hu with rfl | rfl | rfl | rfl | rfl | rfl | rfl | rfl | rfl | rfl | rfl | rfl | rfl <;> rfl

/-- The thread of each note is a number of 64 bits. -/
def ThreadsOk (l : List Nte) : Prop := ∀ a ∈ l, (Lit.int .i64 a.thread).wf = true

/-- What is gathered so far: the calls, and the open one of each thread. -/
structure CSt where
  out : List Kall
  last : Int → Option Nat

def endK (x : Kall) (i : Nat) (n : Nte) : Kall := ⟨x.beg, i, false, x.put, if x.put then x.value else n.qvalue, n.qcode⟩

def begK (N i : Nat) (n : Nte) : Kall := ⟨i, N, true, n.rkind == 8, n.rvalue, 0⟩

def stepC (N : Nat) (s : CSt) (i : Nat) (n : Nte) : CSt :=
  if n.kind = 1 then
    if n.rkind = 8 ∨ n.rkind = 9 then ⟨s.out ++ [begK N i n], fun t => if t = n.thread then some s.out.length else s.last t⟩
    else ⟨s.out, fun t => if t = n.thread then .none else s.last t⟩
  else if n.kind = 3 then
    match s.last n.thread with
    | .none => s
    | some j => ⟨s.out.set j (endK (s.out.getD j Kall.none) i n), fun t => if t = n.thread then .none else s.last t⟩
  else s

def runC (ns : List Nte) : Nat → CSt
  | 0 => ⟨[], fun _ => .none⟩
  | k + 1 => stepC ns.length (runC ns k) k (ns.getD k Nte.none)

def callsS (ns : List Nte) : List Kall := (runC ns ns.length).out

theorem runC_len (ns : List Nte) : ∀ k, (runC ns k).out.length ≤ k ∧ ∀ t j, (runC ns k).last t = some j → j < (runC ns k).out.length
  | 0 => ⟨by simp [runC], fun t j h => by simp [runC] at h⟩
  | k + 1 => by
    have ih := runC_len ns k
    rw [runC]
    generalize runC ns k = s at *
    generalize ns.getD k Nte.none = n
    unfold stepC
    split
    · split
      · refine ⟨by simp; omega, fun t j h => ?_⟩
        simp only [List.length_append, List.length_cons, List.length_nil]
        simp only at h
        split at h
        · injection h with h; omega
        · have := ih.2 t j h; omega
      · refine ⟨by simp; omega, fun t j h => ?_⟩
        simp only at h
        split at h
        · cases h
        · exact ih.2 t j h
    · split
      · split
        · exact ⟨by omega, ih.2⟩
        · refine ⟨by simp; omega, fun t j h => ?_⟩
          simp only [List.length_set]
          simp only at h
          split at h
          · cases h
          · exact ih.2 t j h
      · exact ⟨by omega, ih.2⟩

/-- The map holds the open calls. -/
structure MapIs (D : DataW Unit) (last : Int → Option Nat) : Prop where
  isMap : IsMap D
  has : ∀ t, Maps.has D (.int .i64 t) = (last t).isSome
  at_ : ∀ t j, last t = some j → D.atKey (.int .i64 t) (.lit (.int .i64 0)) = .lit (.int .i64 j)

theorem mapIs_empty : MapIs (.map []) (fun _ => .none) := ⟨isMap_empty, fun _ => rfl, fun _ _ h => by cases h⟩

theorem MapIs.del {D : DataW Unit} {last : Int → Option Nat} (h : MapIs D last) (t : Int) : MapIs (D.del (.int .i64 t)) (fun u => if u = t then .none else last u) := by
  refine ⟨h.isMap.del _, fun u => ?_, fun u j hj => ?_⟩
  · by_cases hu : u = t
    · subst hu; rw [if_pos rfl]; exact has_del_same
    · rw [if_neg hu, has_del_other (by intro e; injection e with _ e; exact hu e)]; exact h.has u
  · by_cases hu : u = t
    · rw [if_pos hu] at hj; cases hj
    · rw [if_neg hu] at hj
      rw [atKey_del_other (by intro e; injection e with _ e; exact hu e)]
      exact h.at_ u j hj

theorem MapIs.put {D : DataW Unit} {last : Int → Option Nat} (h : MapIs D last) (t : Int) (i : Nat) : MapIs (D.put (.int .i64 t) (.lit (.int .i64 i))) (fun u => if u = t then some i else last u) := by
  refine ⟨h.isMap.put _ _, fun u => ?_, fun u j hj => ?_⟩
  · by_cases hu : u = t
    · subst hu; rw [if_pos rfl]; exact has_put_same h.isMap (by exact True.intro) _
    · rw [if_neg hu, has_put_other (by intro e; injection e with _ e; exact hu e)]; exact h.has u
  · by_cases hu : u = t
    · rw [if_pos hu] at hj
      injection hj with hj
      subst hj hu
      exact atKey_put_same h.isMap (by exact True.intro) _ _
    · rw [if_neg hu] at hj
      rw [atKey_put_other (by intro e; injection e with _ e; exact hu e)]
      exact h.at_ u j hj

theorem int_law : Keyed Tryz.prog 3 := int_keyed Tryz.underlying3
theorem int_zero (w : World) : (zeroValue 3).run Tryz.prog w = .ok (.int .i64 0) w := by kernel_rfl

end Go.Proofs.YtieglgahfeecbaaGreatDoor

/- Calls of a history: as values, as cells of a row; the library's functions over rows of them. -/
import Derived.Test.YtmllbailfbjoeaaRowG
import Derived.Test.YtmllbailfbjoeaaIndexFn
namespace Go.Proofs.Ytmllbailfbjoeaa
open Go.RowKit Go.Sort

/-- A call of a history: where it begins, where it ends, whether it is open, whether it puts, its value, its code. -/
structure Kall where
  (beg fin : Int)
  (opn put : Bool)
  (value code : Int)
deriving DecidableEq

abbrev kallV (a : Kall) : Value := .agg #[.int .i64 a.beg, .int .i64 a.fin, .bool a.opn, .bool a.put, .int .i64 a.value, .int .i64 a.code]
def Kall.cells (a : Kall) : List Value := [.int .i64 a.beg, .int .i64 a.fin, .bool a.opn, .bool a.put, .int .i64 a.value, .int .i64 a.code]
def Kall.none : Kall := ⟨0, 0, false, false, 0, 0⟩

instance : Cellful Kall where
  cells := Kall.cells
  s := 6
  dflt := Kall.none
  len := fun _ => rfl
  one := fun a u hu => by
    simp only [Kall.cells, List.mem_cons, List.not_mem_nil, or_false] at hu
    rcases hu with rfl | rfl | rfl | rfl | rfl | rfl <;> rfl

/-- The six cells of the call number k. -/
theorem kall_cells {w : World} {b o : Nat} {l : List Kall} (hc : ∀ k v, (rows l)[k]? = some v → w.cell? ⟨b, o + k, none⟩ = some v) {k : Nat} (hk : k < l.length) {x : Kall} (hx : l.getD k Kall.none = x) :
    w.cell? ⟨b, o + k * 6, none⟩ = some (.int .i64 x.beg) ∧ w.cell? ⟨b, o + k * 6 + 1, none⟩ = some (.int .i64 x.fin) ∧ w.cell? ⟨b, o + k * 6 + 2, none⟩ = some (.bool x.opn) ∧ w.cell? ⟨b, o + k * 6 + 3, none⟩ = some (.bool x.put) ∧
    w.cell? ⟨b, o + k * 6 + 4, none⟩ = some (.int .i64 x.value) ∧ w.cell? ⟨b, o + k * 6 + 5, none⟩ = some (.int .i64 x.code) := by
  have h := rec_cell hc hk hx
  exact ⟨h 0 _ rfl, h 1 _ rfl, h 2 _ rfl, h 3 _ rfl, h 4 _ rfl, h 5 _ rfl⟩

theorem Kall_info : (Try.prog.info? 82).map (fun i => (i.zero, i.size, i.bytes)) = some (some (kallV Kall.none), 6, 40) := by kernel_rfl

set_option maxHeartbeats 400000 in
set_option maxRecDepth 100000 in
theorem IndexK_any (A : Option Addr) (c : Nat) (l : List Kall) (f : FuncId) (caps : Array Value) (p : Kall → Bool) (w : World) (hl : l.length ≤ maxLen)
    (hR : Rd w A (rows l)) (hf : Enters f) (hp : AsksV kallV w f caps p l) :
    Calls Try.prog 112 #[.slice A l.length c, .func (.func f) #[] caps] w fun e w' => e = .returned (.int .i64 (firstV p l 0)) ∧ Below w.heap.size w w' := by
  unfold maxLen at hl
  have HR := Lib.hid hR
  have HP := Lib.hid hp
  clear hR hp
  generalize hn : l.length = n at hl ⊢
  have HN := Lib.hid hn
  clear hn
  go_enter Try.func112, Try.ntmps112
  go_wp2
  go_loopw [8] (fun i wr => ∃ k : Nat, k ≤ n ∧ i = .int .i64 k ∧ Below w.heap.size w wr ∧ ∀ j, j < k → p (l.getD j Kall.none) = false) (fun i _ => n - (intOf i).toNat)
  case atStart => exact ⟨0, Nat.zero_le _, rfl, Below.refl _ _, fun j hj => absurd hj (by omega)⟩
  case round =>
    obtain ⟨k, hk, rfl, hb, hno⟩ := hrel
    have HNO := Lib.hid hno
    clear hno
    by_cases hlt : k < n
    · have hkl : k < l.length := by rw [HN.out]; exact hlt
      obtain ⟨b, o, rfl, hbl, hc⟩ := HR.out.at_ (by rw [rows_length]; simp only [Cellful.s]; omega)
      have hcr : ∀ j v, (rows l)[j]? = some v → wr.cell? ⟨b, o + j, none⟩ = some v := fun j v hj => by
        rw [hb.cell (p := ⟨b, o + j, none⟩) hbl]; exact hc j v hj
      have HC := Lib.hid hc
      clear hc
      have hmem : l.getD k Kall.none ∈ l := by simp [hkl]
      generalize hx : l.getD k Kall.none = x at hmem
      obtain ⟨c0, c1, c2, c3, c4, c5⟩ := kall_cells hcr hkl hx
      have HX := Lib.hid hx
      clear hx hkl hcr
      have hcall := HP.out x hmem wr hb
      have HCALL := Lib.hid hcall
      clear hcall hmem
      have hrun := hf (#[kallV x] ++ caps) wr
      unfold kallV at hrun
      by_cases hpx : p x = true
      · go_wp2_with (first | (refine HCALL.out.mono ?_; rintro e w1 ⟨rfl, hb1⟩))
        go_ret
        exact ⟨ret_int (by rw [firstV_hit Kall.none l 0 k (by rw [HN.out]; exact hlt) HNO.out (by rw [HX.out]; exact hpx)]; simp), hb.trans (hb1.mono hb.size)⟩
      · simp only [Bool.not_eq_true] at hpx
        go_wp2_with (first | (refine HCALL.out.mono ?_; rintro e w1 ⟨rfl, hb1⟩))
        go_roundw
        case rel =>
          refine ⟨k + 1, by omega, by go_num, hb.trans (hb1.mono hb.size), fun j hj => ?_⟩
          by_cases hjk : j = k
          · subst hjk; rw [HX.out]; exact hpx
          · exact HNO.out j (by omega)
        case measure => simp [intOf]; omega
    · go_wp2
      go_ret
      refine ⟨ret_int ?_, hb⟩
      rw [firstV_none l 0 (fun x hx => ?_)]
      obtain ⟨j, hj, rfl⟩ := List.getElem_of_mem hx
      have := HNO.out j (by have := HN.out; omega)
      simpa [List.getD, hj] using this

set_option maxHeartbeats 400000 in
theorem HasK_any (A : Option Addr) (c : Nat) (l : List Kall) (f : FuncId) (caps : Array Value) (p : Kall → Bool) (w : World) (hl : l.length ≤ maxLen)
    (hR : Rd w A (rows l)) (hf : Enters f) (hp : AsksV kallV w f caps p l) :
    Calls Try.prog 79 #[.slice A l.length c, .func (.func f) #[] caps] w fun e w' => e = .returned (.bool (l.any p)) ∧ Below w.heap.size w w' := by
  have HI := Lib.hid (IndexK_any A c l f caps p w hl hR hf hp)
  have hlo := firstV_lo (p := p) l 0
  have HL := Lib.hid hlo
  clear hR hp hf hl hlo
  by_cases h : 0 ≤ firstV p l 0
  all_goals
    go_enter Try.func79, Try.ntmps79
    go_wp2_with (first | (refine HI.out.mono ?_; rintro e w1 ⟨rfl, hb1⟩))
    go_ret
    refine ⟨ret_bool ?_, hb1⟩
    have e := HL.out.2
    first | exact (e.1 h).symm | (rw [Bool.eq_iff_iff, decide_eq_true_iff]; exact e) | (rw [eq_comm, Bool.eq_false_iff]; exact fun h' => h (e.2 h'))

set_option maxHeartbeats 1000000 in
set_option maxRecDepth 100000 in
theorem CloneK_any (A : Option Addr) (n c : Nat) (xs : List Value) (w : World) (hn : n * 40 ≤ 140737488355328) (hx : xs.length = n * 6) (h1 : ∀ u ∈ xs, u.oneCell' = true) (hR : Rd w A xs) :
    Calls Try.prog 107 #[.slice A n c] w (RetOwn 82 6 n xs w) := by
  have HR := Lib.hid hR
  have HX := Lib.hid hx
  have H1 := Lib.hid h1
  clear hR hx h1
  rcases A with _ | ad
  · have hxs : xs = [] := by
      rcases HR.out with h | ⟨b, o, h, _⟩
      · exact h
      · cases h
    obtain rfl : n = 0 := by have := HX.out; rw [hxs] at this; simp at this; omega
    have hnil := fun w => Lib.run_eql_slice_nil (P := Try.prog) w 78 82 none 0 c 0 0 Try.underlying78
    go_enter Try.func107, Try.ntmps107
    go_wp2
    go_ret
    exact ⟨none, 0, rfl, by rw [hxs]; exact own_nil _ _ _ _, Below.refl _ _⟩
  · have hnil := fun w => Lib.run_eql_slice_nil (P := Try.prog) w 78 82 (some ad) n c 0 0 Try.underlying78
    obtain ⟨i0, hi, hz0, hz1, hz2⟩ := info_parts Kall_info
    have hnm : n ≤ maxLen := by unfold maxLen; omega
    have HI := Lib.hid (And.intro hi (And.intro hz0 (And.intro hz1 (And.intro hz2 hnm))))
    clear hi hz0 hz1 hz2 hnm
    go_enter Try.func107, Try.ntmps107
    go_wp2_with (at_builtin; refine wpList_append_own _ rfl (.tmp 5) (.tmp 6) 78 rfl w.heap.size 82 i0 (kallV Kall.none) 6 40 Try.underlying78 HI.out.1 HI.out.2.1 HI.out.2.2.1 HI.out.2.2.2.1 rfl (by decide) (.slice (some ⟨w.heap.size, 0, none⟩) 0 0) 0 [] rfl (own_empty w 82 6) ad n c xs rfl HX.out (rd_add (HR.out.alloc _)) H1.out (by have := HI.out.2.2.2.2; omega) (by omega) (by simp) ?_; intro v' w1 hown1 hg1 hnl1)
    go_ret
    have hown2 : w1.ownsRow w.heap.size 82 6 v' n xs := by simpa using hown1
    have hb := ((Below.refl _ w).alloc (Nat.le_refl _) _).trans ((own_grown (own_empty w 82 6) (by simp) hg1))
    rcases hown2.2 with ⟨rfl, h0⟩ | ⟨g, cap, cur, rfl, _⟩
    · subst h0
      exact ⟨none, 0, rfl, hown2, hb⟩
    · exact ⟨_, _, rfl, hown2, hb⟩

end Go.Proofs.Ytmllbailfbjoeaa

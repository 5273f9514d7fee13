/- The law CspCalls, walked. -/
import Derived.Test.YtmllbailfbjoeaaDoorCsp5
import Derived.Test.YtmllbailfbjoeaaDoorReq
namespace Go.Proofs.YtmllbailfbjoeaaDoor
open Go.RowKit Go.Sort
attribute [local go_sem ↓] Go.wp_at_zero Go.wp_at_succ

instance : Cellful Reqr where
  cells := Reqr.cells
  s := 5
  dflt := ⟨0, 0, 0, false, none, 0, 0⟩
  len := fun _ => rfl
  one := fun a u hu => by
    simp only [Reqr.cells, List.mem_cons, List.not_mem_nil, or_false] at hu
    rcases hu with rfl | rfl | rfl | rfl | rfl <;> rfl

def SameRows (w : World) : List Reqr → List Reqr → Prop
  | [], [] => True
  | p :: r, q :: s => SameReq w p q ∧ SameRows w r s
  | _, _ => False
theorem SameRows.below {w w' : World} (hb : Below w.heap.size w w') : ∀ {l r : List Reqr}, SameRows w l r → SameRows w' l r
  | [], [], _ => trivial
  | _ :: _, _ :: _, h => ⟨h.1.below hb, SameRows.below hb h.2⟩
  | [], _ :: _, h => h.elim
  | _ :: _, [], h => h.elim

theorem blk_row {α : Type} [C : Cellful α] {w : World} {g : Nat} {t : TypeId} {l : List α} (h : Blk w g t (rows l)) {k : Nat} (hk : k < l.length) {x : α} (hx : l.getD k C.dflt = x) : ∀ j v, (C.cells x)[j]? = some v → w.cell? ⟨g, k * C.s + j, none⟩ = some v := by
  intro j v hj
  have hjs : j < C.s := by
    have := (List.getElem?_eq_some_iff.1 hj).1
    rwa [C.len] at this
  exact h.cell (by rw [rows_at hk j hjs, hx]; exact hj)

theorem SameRows.at_ {w : World} : ∀ {l r : List Reqr} {k : Nat}, SameRows w l r → k < l.length → SameReq w (l.getD k ⟨0, 0, 0, false, none, 0, 0⟩) (r.getD k ⟨0, 0, 0, false, none, 0, 0⟩)
  | [], _, k, _, h => by simp at h
  | p :: l, [], k, h, _ => h.elim
  | p :: l, q :: r, 0, h, _ => h.1
  | p :: l, q :: r, k + 1, h, hk => SameRows.at_ (l := l) (r := r) (k := k) h.2 (by simpa using hk)

theorem below1' (W : World) (o : Obj) : Below W.heap.size W (W.alloc o) := (Below.refl _ _).alloc (Nat.le_refl _) o

theorem alloc1 {w : World} {p : Addr} {v : Value} (h : w.cell? p = some v) (hp : p.block < w.heap.size) : ∀ o, (w.alloc o).cell? p = some v := fun o => by rw [World.cell?_alloc_lt _ _ _ hp]; exact h
theorem alloc2 {w : World} {p : Addr} {v : Value} (h : w.cell? p = some v) (hp : p.block < w.heap.size) : ∀ o o', ((w.alloc o).alloc o').cell? p = some v := fun o o' => alloc1 (alloc1 h hp o) (by rw [World.size_alloc]; omega) o'
theorem alloc3 {w : World} {p : Addr} {v : Value} (h : w.cell? p = some v) (hp : p.block < w.heap.size) : ∀ o o' o'', (((w.alloc o).alloc o').alloc o'').cell? p = some v := fun o o' o'' => alloc1 (alloc2 h hp o o') (by rw [World.size_alloc, World.size_alloc]; omega) o''

theorem same_bare (w : World) (k a v : Int) (d : Bool) : SameReq w ⟨k, a, v, d, none, 0, 0⟩ ⟨k, a, v, d, none, 0, 0⟩ := ⟨rfl, rfl, rfl, rfl, [], by simp, ⟨rfl, .inl rfl⟩, ⟨rfl, .inl rfl⟩⟩

theorem eql_cse_same (x : Cse) (w : World) : (binOp .eql 37 (cseV x) (cseV x)).run Tryd.prog w = .ok (.bool true) w := by
  unfold cseV
  simp [go_sem, binOp, Op.equal, Op.maxDepth]

set_option maxHeartbeats 16000000 in
set_option maxRecDepth 100000 in
theorem LawCspC_any (a b : Int) (o : Bool) (A : Option Addr) (n c : Nat) (l : List Cse) (w : World) (hl : l.length = n) (hn : n * 24 ≤ 140737488355328) (hR : Rd w A (rows l)) (ht : TabT w) :
    Calls Tryd.prog 4 #[.int .i64 a, .int .i64 b, .bool o, .slice A n c] w fun e w' => e = .returned (.bool true) ∧ Below w.heap.size w w' := by
  have HR := Lib.hid hR
  have HT := Lib.hid ht
  have HL := Lib.hid hl
  clear hR ht hl
  have hW0 := ((Below.refl w.heap.size w).alloc (Nat.le_refl _) (.cells #[.int .i64 1, .int .i64 a, .int .i64 b] 37)).alloc (by simp) (.cells #[.int .i64 2, .int .i64 a, .int .i64 0] 37)
  have HW0 := Lib.hid hW0
  have HX := Lib.hid (show Blk ((w.alloc (.cells #[.int .i64 1, .int .i64 a, .int .i64 b] 37)).alloc (.cells #[.int .i64 2, .int .i64 a, .int .i64 0] 37)) w.heap.size 37 (Cse.cells ⟨1, a, b⟩) from (Blk.new w _ (Cse.cells ⟨1, a, b⟩)).alloc _)
  have HY := Lib.hid (show Blk ((w.alloc (.cells #[.int .i64 1, .int .i64 a, .int .i64 b] 37)).alloc (.cells #[.int .i64 2, .int .i64 a, .int .i64 0] 37)) (w.heap.size + 1) 37 (Cse.cells ⟨2, a, 0⟩) from blk_new (by simp))
  clear hW0
  go_enter Tryd.func4, Tryd.ntmps4
  go_upto_region 2 with (fail)
  generalize ((w.alloc (.cells #[.int .i64 1, .int .i64 a, .int .i64 b] 37)).alloc (.cells #[.int .i64 2, .int .i64 a, .int .i64 0] 37)) = w0 at *
  go_wp2_with fail
  refine (CMake_any a _).mono ?_
  rintro e w1 ⟨rfl, hb⟩
  have HX := Lib.hid (HX.out.below hb HX.out.lt)
  have HY := Lib.hid (HY.out.below hb HY.out.lt)
  have H1 := Lib.hid (HW0.out.trans (hb.mono HW0.out.size))
  clear hb
  go_wp2_with fail
  refine (CFree_any a _).mono ?_
  rintro e w2 ⟨rfl, hb⟩
  have HX := Lib.hid (HX.out.below hb HX.out.lt)
  have HY := Lib.hid (HY.out.below hb HY.out.lt)
  have H2 := Lib.hid (H1.out.trans (hb.mono H1.out.size))
  clear hb
  clear H1
  go_wp2_with fail
  refine (CClose_any a _).mono ?_
  rintro e w3 ⟨rfl, hb⟩
  have HX := Lib.hid (HX.out.below hb HX.out.lt)
  have HY := Lib.hid (HY.out.below hb HY.out.lt)
  have H3 := Lib.hid (H2.out.trans (hb.mono H2.out.size))
  clear hb
  clear H2
  go_wp2_with fail
  refine (CLen_any a _).mono ?_
  rintro e w4 ⟨rfl, hb⟩
  have HX := Lib.hid (HX.out.below hb HX.out.lt)
  have HY := Lib.hid (HY.out.below hb HY.out.lt)
  have H4 := Lib.hid (H3.out.trans (hb.mono H3.out.size))
  clear hb
  clear H3
  go_wp2_with fail
  refine (CCap_any a _).mono ?_
  rintro e w5 ⟨rfl, hb⟩
  have HX := Lib.hid (HX.out.below hb HX.out.lt)
  have HY := Lib.hid (HY.out.below hb HY.out.lt)
  have H5 := Lib.hid (H4.out.trans (hb.mono H4.out.size))
  clear hb
  clear H4
  go_wp2_with fail
  refine (CCancel_any a b _).mono ?_
  rintro e w6 ⟨rfl, hb⟩
  have HX := Lib.hid (HX.out.below hb HX.out.lt)
  have HY := Lib.hid (HY.out.below hb HY.out.lt)
  have H6 := Lib.hid (H5.out.trans (hb.mono H5.out.size))
  clear hb
  clear H5
  go_wp2_with fail
  refine (CPut_any b _).mono ?_
  rintro e w7 ⟨rfl, hb⟩
  have HX := Lib.hid (HX.out.below hb HX.out.lt)
  have HY := Lib.hid (HY.out.below hb HY.out.lt)
  have H7 := Lib.hid (H6.out.trans (hb.mono H6.out.size))
  clear hb
  clear H6
  go_wp2_with fail
  refine (CTake_any _).mono ?_
  rintro e w8 ⟨rfl, hb⟩
  have HX := Lib.hid (HX.out.below hb HX.out.lt)
  have HY := Lib.hid (HY.out.below hb HY.out.lt)
  have H8 := Lib.hid (H7.out.trans (hb.mono H7.out.size))
  clear hb
  clear H7
  go_wp2_with fail
  refine (Send_any a b _).mono ?_
  rintro e w9 ⟨A8, n8, c8, rfl, hq, rfl, _, hb⟩
  simp only [List.length_cons, List.length_nil] at hq ⊢
  have HX := Lib.hid (HX.out.below hb HX.out.lt)
  have HY := Lib.hid (HY.out.below hb HY.out.lt)
  have Q8 := Lib.hid hq
  have H9 := Lib.hid (H8.out.trans (hb.mono H8.out.size))
  clear hb hq
  clear H8
  go_wp2_with fail
  refine (Recv_any a _).mono ?_
  rintro e w10 ⟨A9, n9, c9, rfl, hq, rfl, _, hb⟩
  simp only [List.length_cons, List.length_nil] at hq ⊢
  have Q8 := Lib.hid (Q8.out.below hb)
  have HX := Lib.hid (HX.out.below hb HX.out.lt)
  have HY := Lib.hid (HY.out.below hb HY.out.lt)
  have Q9 := Lib.hid hq
  have H10 := Lib.hid (H9.out.trans (hb.mono H9.out.size))
  clear hb hq
  clear H9
  go_wp2_with fail
  refine (TrySend_any a b _).mono ?_
  rintro e w11 ⟨A10, n10, c10, rfl, hq, rfl, _, hb⟩
  simp only [List.length_cons, List.length_nil] at hq ⊢
  have Q8 := Lib.hid (Q8.out.below hb)
  have Q9 := Lib.hid (Q9.out.below hb)
  have HX := Lib.hid (HX.out.below hb HX.out.lt)
  have HY := Lib.hid (HY.out.below hb HY.out.lt)
  have Q10 := Lib.hid hq
  have H11 := Lib.hid (H10.out.trans (hb.mono H10.out.size))
  clear hb hq
  clear H10
  go_wp2_with fail
  refine (TryRecv_any a _).mono ?_
  rintro e w12 ⟨A11, n11, c11, rfl, hq, rfl, _, hb⟩
  simp only [List.length_cons, List.length_nil] at hq ⊢
  have Q8 := Lib.hid (Q8.out.below hb)
  have Q9 := Lib.hid (Q9.out.below hb)
  have Q10 := Lib.hid (Q10.out.below hb)
  have HX := Lib.hid (HX.out.below hb HX.out.lt)
  have HY := Lib.hid (HY.out.below hb HY.out.lt)
  have Q11 := Lib.hid hq
  have H12 := Lib.hid (H11.out.trans (hb.mono H11.out.size))
  clear hb hq
  clear H11
  go_wp2_with fail
  refine (Select_any o A n c l _ HL.out hn (HR.out.below H12.out)).mono ?_
  rintro e w13 ⟨A12, n12, c12, rfl, hq, hnn, _, hb⟩
  have HNN := Lib.hid hnn
  clear hnn
  have Q8 := Lib.hid (Q8.out.below hb)
  have Q9 := Lib.hid (Q9.out.below hb)
  have Q10 := Lib.hid (Q10.out.below hb)
  have Q11 := Lib.hid (Q11.out.below hb)
  have HX := Lib.hid (HX.out.below hb HX.out.lt)
  have HY := Lib.hid (HY.out.below hb HY.out.lt)
  have Q12 := Lib.hid hq
  have H13 := Lib.hid (H12.out.trans (hb.mono H12.out.size))
  clear hb hq
  clear H12
  go_upto_region 3 with (fail)
  obtain ⟨gl, hgl⟩ : ∃ gl : List Reqr, gl = [⟨1, a, 0, false, none, 0, 0⟩, ⟨2, a, 0, false, none, 0, 0⟩, ⟨4, a, 0, false, none, 0, 0⟩, ⟨5, a, 0, false, none, 0, 0⟩, ⟨6, a, 0, false, none, 0, 0⟩, ⟨7, a, b, false, none, 0, 0⟩, ⟨8, 0, b, false, none, 0, 0⟩, ⟨9, 0, 0, false, none, 0, 0⟩, ⟨3, 0, 0, false, A8, 1, c8⟩, ⟨3, 0, 0, false, A9, 1, c9⟩, ⟨3, 0, 0, true, A10, 1, c10⟩, ⟨3, 0, 0, true, A11, 1, c11⟩, ⟨3, 0, 0, o, A12, n12, c12⟩] := ⟨_, rfl⟩
  obtain ⟨w14, hw14⟩ : ∃ w14, w14 = w13.alloc (.cells (rows gl).toArray 24) := ⟨_, rfl⟩
  have hlit : w13.alloc (.cells #[.int .i64 1, .int .i64 a, .int .i64 0, .bool false, .slice none 0 0, .int .i64 2, .int .i64 a, .int .i64 0, .bool false, .slice none 0 0, .int .i64 4, .int .i64 a, .int .i64 0, .bool false, .slice none 0 0, .int .i64 5, .int .i64 a, .int .i64 0, .bool false, .slice none 0 0, .int .i64 6, .int .i64 a, .int .i64 0, .bool false, .slice none 0 0, .int .i64 7, .int .i64 a, .int .i64 b, .bool false, .slice none 0 0, .int .i64 8, .int .i64 0, .int .i64 b, .bool false, .slice none 0 0, .int .i64 9, .int .i64 0, .int .i64 0, .bool false, .slice none 0 0, .int .i64 3, .int .i64 0, .int .i64 0, .bool false, .slice A8 1 c8, .int .i64 3, .int .i64 0, .int .i64 0, .bool false, .slice A9 1 c9, .int .i64 3, .int .i64 0, .int .i64 0, .bool true, .slice A10 1 c10, .int .i64 3, .int .i64 0, .int .i64 0, .bool true, .slice A11 1 c11, .int .i64 3, .int .i64 0, .int .i64 0, .bool o, .slice A12 n12 c12] 24) = w14 := by rw [hw14, hgl]; rfl
  rw [hlit]
  clear hlit
  have h1314 : Below w13.heap.size w13 w14 := by rw [hw14]; exact below1' _ _
  have HG := Lib.hid (show Blk w14 w13.heap.size 24 (rows gl) by rw [hw14]; exact Blk.new w13 _ _)
  have HGL := Lib.hid hgl
  clear hw14 hgl
  have HX := Lib.hid (HX.out.below h1314 HX.out.lt)
  have HY := Lib.hid (HY.out.below h1314 HY.out.lt)
  have Q8 := Lib.hid (Q8.out.below h1314)
  have Q9 := Lib.hid (Q9.out.below h1314)
  have Q10 := Lib.hid (Q10.out.below h1314)
  have Q11 := Lib.hid (Q11.out.below h1314)
  have Q12 := Lib.hid (Q12.out.below h1314)
  have H14 := Lib.hid (H13.out.trans (h1314.mono H13.out.size))
  clear h1314 H13
  have x0 : w14.cell? ⟨w.heap.size, 0, none⟩ = some (.int .i64 1) := HX.out.cell rfl
  have x1 : w14.cell? ⟨w.heap.size, 1, none⟩ = some (.int .i64 a) := HX.out.cell rfl
  have x2 : w14.cell? ⟨w.heap.size, 2, none⟩ = some (.int .i64 b) := HX.out.cell rfl
  have y0 : w14.cell? ⟨w.heap.size + 1, 0, none⟩ = some (.int .i64 2) := HY.out.cell rfl
  have y1 : w14.cell? ⟨w.heap.size + 1, 1, none⟩ = some (.int .i64 a) := HY.out.cell rfl
  have y2 : w14.cell? ⟨w.heap.size + 1, 2, none⟩ = some (.int .i64 0) := HY.out.cell rfl
  have hx := HX.out.lt
  have hy := HY.out.lt
  have x0' := alloc2 x0 hx
  have y0' := alloc1 y0 hy
  have y0'' := alloc3 y0 hy
  have x1' := alloc2 x1 hx
  have y1' := alloc1 y1 hy
  have y1'' := alloc3 y1 hy
  have x2' := alloc2 x2 hx
  have y2' := alloc1 y2 hy
  have y2'' := alloc3 y2 hy
  go_upto_region 4 with (fail)
  clear x0 x1 x2 y0 y1 y2 x0' x1' x2' y0' y1' y2' y0'' y1'' y2''
  obtain ⟨wl, hwl⟩ : ∃ wl : List Reqr, wl = [⟨1, a, 0, false, none, 0, 0⟩, ⟨2, a, 0, false, none, 0, 0⟩, ⟨4, a, 0, false, none, 0, 0⟩, ⟨5, a, 0, false, none, 0, 0⟩, ⟨6, a, 0, false, none, 0, 0⟩, ⟨7, a, b, false, none, 0, 0⟩, ⟨8, 0, b, false, none, 0, 0⟩, ⟨9, 0, 0, false, none, 0, 0⟩, ⟨3, 0, 0, false, some ⟨w14.heap.size, 0, none⟩, 1, 1⟩, ⟨3, 0, 0, false, some ⟨w14.heap.size + 1, 0, none⟩, 1, 1⟩, ⟨3, 0, 0, true, some ⟨w14.heap.size + 1 + 1, 0, none⟩, 1, 1⟩, ⟨3, 0, 0, true, some ⟨w14.heap.size + 1 + 1 + 1, 0, none⟩, 1, 1⟩, ⟨3, 0, 0, o, A, n, c⟩] := ⟨_, rfl⟩
  obtain ⟨w15, hw15⟩ : ∃ w15, w15 = ((((w14.alloc (.cells #[.int .i64 1, .int .i64 a, .int .i64 b] 37)).alloc (.cells #[.int .i64 2, .int .i64 a, .int .i64 0] 37)).alloc (.cells #[.int .i64 1, .int .i64 a, .int .i64 b] 37)).alloc (.cells #[.int .i64 2, .int .i64 a, .int .i64 0] 37)) := ⟨_, rfl⟩
  obtain ⟨w16, hw16⟩ : ∃ w16, w16 = w15.alloc (.cells (rows wl).toArray 24) := ⟨_, rfl⟩
  have hlit : (((((w14.alloc (.cells #[.int .i64 1, .int .i64 a, .int .i64 b] 37)).alloc (.cells #[.int .i64 2, .int .i64 a, .int .i64 0] 37)).alloc (.cells #[.int .i64 1, .int .i64 a, .int .i64 b] 37)).alloc (.cells #[.int .i64 2, .int .i64 a, .int .i64 0] 37)).alloc (.cells #[.int .i64 1, .int .i64 a, .int .i64 0, .bool false, .slice none 0 0, .int .i64 2, .int .i64 a, .int .i64 0, .bool false, .slice none 0 0, .int .i64 4, .int .i64 a, .int .i64 0, .bool false, .slice none 0 0, .int .i64 5, .int .i64 a, .int .i64 0, .bool false, .slice none 0 0, .int .i64 6, .int .i64 a, .int .i64 0, .bool false, .slice none 0 0, .int .i64 7, .int .i64 a, .int .i64 b, .bool false, .slice none 0 0, .int .i64 8, .int .i64 0, .int .i64 b, .bool false, .slice none 0 0, .int .i64 9, .int .i64 0, .int .i64 0, .bool false, .slice none 0 0, .int .i64 3, .int .i64 0, .int .i64 0, .bool false, .slice (some ⟨w14.heap.size, 0, none⟩) 1 1, .int .i64 3, .int .i64 0, .int .i64 0, .bool false, .slice (some ⟨w14.heap.size + 1, 0, none⟩) 1 1, .int .i64 3, .int .i64 0, .int .i64 0, .bool true, .slice (some ⟨w14.heap.size + 1 + 1, 0, none⟩) 1 1, .int .i64 3, .int .i64 0, .int .i64 0, .bool true, .slice (some ⟨w14.heap.size + 1 + 1 + 1, 0, none⟩) 1 1, .int .i64 3, .int .i64 0, .int .i64 0, .bool o, .slice A n c] 24)) = w16 := by rw [hw16, hw15, hwl]; rfl
  rw [hlit]
  clear hlit
  have hs15 : w15.heap.size = w14.heap.size + 4 := by rw [hw15]; simp
  have h1415 : Below w14.heap.size w14 w15 := by rw [hw15]; exact ((((Below.refl _ _).alloc (Nat.le_refl _) _).alloc (by simp) _).alloc (by simp; omega) _).alloc (by simp; omega) _
  have k0 : Blk w15 w14.heap.size 37 (rows ([⟨1, a, b⟩] : List Cse)) := by rw [hw15]; exact (((blk_new (cs := rows ([⟨1, a, b⟩] : List Cse)) rfl).alloc _).alloc _).alloc _
  have k1 : Blk w15 (w14.heap.size + 1) 37 (rows ([⟨2, a, 0⟩] : List Cse)) := by rw [hw15]; exact ((blk_new (cs := rows ([⟨2, a, 0⟩] : List Cse)) (by simp)).alloc _).alloc _
  have k2 : Blk w15 (w14.heap.size + 2) 37 (rows ([⟨1, a, b⟩] : List Cse)) := by rw [hw15]; exact (blk_new (cs := rows ([⟨1, a, b⟩] : List Cse)) (by simp)).alloc _
  have k3 : Blk w15 (w14.heap.size + 3) 37 (rows ([⟨2, a, 0⟩] : List Cse)) := by rw [hw15]; exact blk_new (cs := rows ([⟨2, a, 0⟩] : List Cse)) (by simp)
  have h1516 : Below w15.heap.size w15 w16 := by rw [hw16]; exact below1' _ _
  have HWB := Lib.hid (show Blk w16 w15.heap.size 24 (rows wl) by rw [hw16]; exact Blk.new w15 _ _)
  have h1416 : Below w14.heap.size w14 w16 := h1415.trans (h1516.mono (by omega))
  have hq : SameRows w16 gl wl := by
    rw [HGL.out, hwl]
    refine ⟨same_bare _ _ _ _ _, same_bare _ _ _ _ _, same_bare _ _ _ _ _, same_bare _ _ _ _ _, same_bare _ _ _ _ _, same_bare _ _ _ _ _, same_bare _ _ _ _ _, same_bare _ _ _ _ _, ?_, ?_, ?_, ?_, ?_, trivial⟩
    · exact ⟨rfl, rfl, rfl, rfl, [⟨1, a, b⟩], by simp [maxLen], Q8.out.below h1416, ⟨rfl, (k0.below h1516 k0.lt).rd⟩⟩
    · exact ⟨rfl, rfl, rfl, rfl, [⟨2, a, 0⟩], by simp [maxLen], Q9.out.below h1416, ⟨rfl, (k1.below h1516 k1.lt).rd⟩⟩
    · exact ⟨rfl, rfl, rfl, rfl, [⟨1, a, b⟩], by simp [maxLen], Q10.out.below h1416, ⟨rfl, (k2.below h1516 k2.lt).rd⟩⟩
    · exact ⟨rfl, rfl, rfl, rfl, [⟨2, a, 0⟩], by simp [maxLen], Q11.out.below h1416, ⟨rfl, (k3.below h1516 k3.lt).rd⟩⟩
    · exact ⟨rfl, rfl, rfl, rfl, l, by rw [HL.out]; unfold maxLen; omega, Q12.out.below h1416, ⟨HL.out, (HR.out.below H14.out).below h1416⟩⟩
  have HQ := Lib.hid hq
  have HGB := Lib.hid (HG.out.below h1416 HG.out.lt)
  have HXB := Lib.hid (HX.out.below h1416 HX.out.lt)
  have HYB := Lib.hid (HY.out.below h1416 HY.out.lt)
  have HB := Lib.hid (H14.out.trans (h1416.mono H14.out.size))
  have HLEN : RowKit.Hid (gl.length = 13 ∧ wl.length = 13) := Lib.hid (by rw [HGL.out, hwl]; exact ⟨rfl, rfl⟩)
  clear hq h1416 h1516 h1415 k0 k1 k2 k3 hw16 hw15 hwl HGL Q8 Q9 Q10 Q11 Q12 HG HX HY HNN hx hy
  generalize w13.heap.size = g1 at *
  have hs16 : w15.heap.size = w14.heap.size + 1 + 1 + 1 + 1 := hs15
  rw [hs16] at HWB
  clear hs15 hs16
  generalize w14.heap.size + 1 + 1 + 1 + 1 = g2 at *
  go_wp2
  go_loopw [83] (fun i wr => ∃ k : Nat, k ≤ 13 ∧ i = .int .i64 k ∧ Below w16.heap.size w16 wr) (fun i _ => 13 - (intOf i).toNat)
  case atStart => exact ⟨0, Nat.zero_le _, rfl, Below.refl _ _⟩
  case round =>
    obtain ⟨k, hk, rfl, hb⟩ := hrel
    have HBW := Lib.hid hb
    clear hb
    have HGR := Lib.hid (HGB.out.below HBW.out HGB.out.lt)
    have HWR := Lib.hid (HWB.out.below HBW.out HWB.out.lt)
    by_cases hlt : k < 13
    · have hP := (SameRows.below HBW.out HQ.out).at_ (k := k) (by rw [HLEN.out.1]; exact hlt)
      have hc1 := blk_row HGR.out (k := k) (by rw [HLEN.out.1]; exact hlt) rfl
      have hc2 := blk_row HWR.out (k := k) (by rw [HLEN.out.2]; exact hlt) rfl
      have hg1 := HGR.out.lt
      have hg2 := HWR.out.lt
      generalize hp : gl.getD k _ = p at *
      generalize hq : wl.getD k _ = q at *
      clear hp hq
      have a0 : wr.cell? ⟨g1, k * 5, none⟩ = some (.int .i64 p.kind) := hc1 0 _ rfl
      have a1 : wr.cell? ⟨g1, k * 5 + 1, none⟩ = some (.int .i64 p.arg) := hc1 1 _ rfl
      have a2 : wr.cell? ⟨g1, k * 5 + 2, none⟩ = some (.int .i64 p.value) := hc1 2 _ rfl
      have a3 : wr.cell? ⟨g1, k * 5 + 3, none⟩ = some (.bool p.dflt) := hc1 3 _ rfl
      have a4 : wr.cell? ⟨g1, k * 5 + 4, none⟩ = some (.slice p.A p.n p.c) := hc1 4 _ rfl
      have b0 : wr.cell? ⟨g2, k * 5, none⟩ = some (.int .i64 q.kind) := hc2 0 _ rfl
      have b1 : wr.cell? ⟨g2, k * 5 + 1, none⟩ = some (.int .i64 q.arg) := hc2 1 _ rfl
      have b2 : wr.cell? ⟨g2, k * 5 + 2, none⟩ = some (.int .i64 q.value) := hc2 2 _ rfl
      have b3 : wr.cell? ⟨g2, k * 5 + 3, none⟩ = some (.bool q.dflt) := hc2 3 _ rfl
      have b4 : wr.cell? ⟨g2, k * 5 + 4, none⟩ = some (.slice q.A q.n q.c) := hc2 4 _ rfl
      have HP := Lib.hid hP
      clear hP hc1 hc2 HGR HWR
      have q1 : (0 : Int) ≤ (k : Int) := by omega
      have q2 : (k : Int) < 13 := by omega
      go_upto_region 7 with (fail)
      go_region_held3 (fun w' => w'.cell? ⟨g1, k * 5, none⟩ = some (.int .i64 p.kind) ∧ w'.cell? ⟨g1, k * 5 + 1, none⟩ = some (.int .i64 p.arg) ∧ w'.cell? ⟨g1, k * 5 + 2, none⟩ = some (.int .i64 p.value) ∧ w'.cell? ⟨g1, k * 5 + 3, none⟩ = some (.bool p.dflt) ∧ w'.cell? ⟨g1, k * 5 + 4, none⟩ = some (.slice p.A p.n p.c) ∧ w'.cell? ⟨g2, k * 5, none⟩ = some (.int .i64 q.kind) ∧ w'.cell? ⟨g2, k * 5 + 1, none⟩ = some (.int .i64 q.arg) ∧ w'.cell? ⟨g2, k * 5 + 2, none⟩ = some (.int .i64 q.value) ∧ w'.cell? ⟨g2, k * 5 + 3, none⟩ = some (.bool q.dflt) ∧ w'.cell? ⟨g2, k * 5 + 4, none⟩ = some (.slice q.A q.n q.c)) (first | go_keep | (simp only [hk1, hk2]; go_keep))
        (first | (go_at_call 24; refine (Req_same p q wr.drew (HP.out.below (Below.drewN' (Below.refl _ _) 1))).mono ?_; rintro e w2 ⟨rfl, hb2⟩; have hB2 : Below wr.heap.size wr w2 := ⟨hb2.os, hb2.tape, hb2.output, hb2.size, hb2.block⟩; have hk1 := fun o => hB2.cell (p := ⟨g1, o, none⟩) hg1; have hk2 := fun o => hB2.cell (p := ⟨g2, o, none⟩) hg2))
      have HB2 := Lib.hid (HBW.out.trans (hB2.mono HBW.out.size))
      clear hk1 hk2 hB2 hb2 a0 a1 a2 a3 a4 b0 b1 b2 b3 b4
      go_wp2
      go_roundw
      case rel => exact ⟨k + 1, by omega, by go_num, HB2.out⟩
      case measure => simp [intOf]; omega
    · obtain rfl : k = 13 := by omega
      have HBB := Lib.hid (HB.out.trans (HBW.out.mono HB.out.size))
      have hX := HXB.out.below HBW.out HXB.out.lt
      have hY := HYB.out.below HBW.out HYB.out.lt
      have x0 : wr.cell? ⟨w.heap.size, 0, none⟩ = some (.int .i64 1) := hX.cell rfl
      have x1 : wr.cell? ⟨w.heap.size, 1, none⟩ = some (.int .i64 a) := hX.cell rfl
      have x2 : wr.cell? ⟨w.heap.size, 2, none⟩ = some (.int .i64 b) := hX.cell rfl
      have y0 : wr.cell? ⟨w.heap.size + 1, 0, none⟩ = some (.int .i64 2) := hY.cell rfl
      have y1 : wr.cell? ⟨w.heap.size + 1, 1, none⟩ = some (.int .i64 a) := hY.cell rfl
      have y2 : wr.cell? ⟨w.heap.size + 1, 2, none⟩ = some (.int .i64 0) := hY.cell rfl
      have hx := hX.lt
      have hy := hY.lt
      have hee1 := eql_cse_same ⟨1, a, b⟩
      have hee2 := eql_cse_same ⟨2, a, 0⟩
      unfold cseV at hee1 hee2
      simp only at hee1 hee2
      clear hX hY
      go_upto_region 10 with (fail)
      go_region_held3 (fun w' => w'.cell? ⟨w.heap.size, 0, none⟩ = some (.int .i64 1) ∧ w'.cell? ⟨w.heap.size, 1, none⟩ = some (.int .i64 a) ∧ w'.cell? ⟨w.heap.size, 2, none⟩ = some (.int .i64 b) ∧ w'.cell? ⟨w.heap.size + 1, 0, none⟩ = some (.int .i64 2) ∧ w'.cell? ⟨w.heap.size + 1, 1, none⟩ = some (.int .i64 a) ∧ w'.cell? ⟨w.heap.size + 1, 2, none⟩ = some (.int .i64 0)) (first | go_keep | (simp only [hk1, hk2]; go_keep)) (first
        | (go_at_call 25; refine (To_any a b wr.drew).mono ?_; rintro e w2 ⟨rfl, hb2⟩; have hB2 : Below wr.heap.size wr w2 := ⟨hb2.os, hb2.tape, hb2.output, hb2.size, hb2.block⟩; have hk1 := fun o => hB2.cell (p := ⟨w.heap.size, o, none⟩) hx; have hk2 := fun o => hB2.cell (p := ⟨w.heap.size + 1, o, none⟩) hy)
        | (go_at_call 26; refine (From_any a w2).mono ?_; rintro e w3 ⟨rfl, hb3⟩; have hB3 : Below wr.heap.size wr w3 := hB2.trans (hb3.mono hB2.size); have hk1 := fun o => hB3.cell (p := ⟨w.heap.size, o, none⟩) hx; have hk2 := fun o => hB3.cell (p := ⟨w.heap.size + 1, o, none⟩) hy)
        | (go_at_call 9; refine (awake23_any w3 ((HT.out.below HBB.out).below hB3)).mono ?_; rintro e w4 ⟨rfl, hb4⟩; have hB4 : Below wr.heap.size wr w4 := hB3.trans (hb4.mono hB3.size); have hk1 := fun o => hB4.cell (p := ⟨w.heap.size, o, none⟩) hx; have hk2 := fun o => hB4.cell (p := ⟨w.heap.size + 1, o, none⟩) hy))
      go_wp2
      go_ret
      exact ⟨rfl, HBB.out.trans (hB4.mono HBB.out.size)⟩

end Go.Proofs.YtmllbailfbjoeaaDoor

/- csp: how calls are made; Waits: walked. -/
import Derived.Test.YtknlhkkpheahlaaDoorCsp3
namespace Go.Proofs.YtknlhkkpheahlaaDoor
open Go.RowKit Go.Sort

theorem CloneC_info : (Tryd.prog.info? 66).map (fun i => (i.zero, i.size, i.bytes)) = some (some (cseV Cse.none), 3, 24) := by kernel_rfl

set_option maxHeartbeats 1000000 in
set_option maxRecDepth 100000 in
theorem CloneC_any (A : Option Addr) (n c : Nat) (xs : List Value) (w : World) (hn : n * 24 ≤ 140737488355328) (hx : xs.length = n * 3) (h1 : ∀ u ∈ xs, u.oneCell' = true) (hR : Rd w A xs) :
    Calls Tryd.prog 95 #[.slice A n c] w (RetOwn 66 3 n xs w) := by
  have HR := Lib.hid hR
  have HX := Lib.hid hx
  have H1 := Lib.hid h1
  clear hR hx h1
  rcases A with _ | ad
  · have hxs : xs = [] := by
      rcases HR.out with h | ⟨b, o, h, _⟩
      · exact h
      · cases h
    obtain rfl : n = 0 := by have := HX.out; rw [hxs] at this; simp at this; omega
    have hnil := fun w => Lib.run_eql_slice_nil (P := Tryd.prog) w 22 66 none 0 c 0 0 Tryd.underlying22
    go_enter Tryd.func95, Tryd.ntmps95
    go_wp2
    go_ret
    exact ⟨none, 0, rfl, by rw [hxs]; exact own_nil _ _ _ _, Below.refl _ _⟩
  · have hnil := fun w => Lib.run_eql_slice_nil (P := Tryd.prog) w 22 66 (some ad) n c 0 0 Tryd.underlying22
    obtain ⟨i0, hi, hz0, hz1, hz2⟩ := info_parts CloneC_info
    have hnm : n ≤ maxLen := by unfold maxLen; omega
    have HI := Lib.hid (And.intro hi (And.intro hz0 (And.intro hz1 (And.intro hz2 hnm))))
    clear hi hz0 hz1 hz2 hnm
    go_enter Tryd.func95, Tryd.ntmps95
    go_wp2_with (at_builtin; refine wpList_append_own _ rfl (.tmp 5) (.tmp 6) 22 rfl w.heap.size 66 i0 (cseV Cse.none) 3 24 Tryd.underlying22 HI.out.1 HI.out.2.1 HI.out.2.2.1 HI.out.2.2.2.1 rfl (by decide) (.slice (some ⟨w.heap.size, 0, none⟩) 0 0) 0 [] rfl (own_empty w 66 3) ad n c xs rfl HX.out (rd_add (HR.out.alloc _)) H1.out (by have := HI.out.2.2.2.2; omega) (by omega) (by simp) ?_; intro v' w1 hown1 hg1 hnl1)
    go_ret
    have hown2 : w1.ownsRow w.heap.size 66 3 v' n xs := by simpa using hown1
    have hb := ((Below.refl _ w).alloc (Nat.le_refl _) _).trans ((own_grown (own_empty w 66 3) (by simp) hg1))
    rcases hown2.2 with ⟨rfl, h0⟩ | ⟨g, cap, cur, rfl, _⟩
    · subst h0
      exact ⟨none, 0, rfl, hown2, hb⟩
    · exact ⟨_, _, rfl, hown2, hb⟩

theorem req_load {w : World} {g : Nat} {q : Reqr} (h : Blk w g 24 q.cells) : (loadVar 24 ⟨g, 0, none⟩).run Tryd.prog w = .ok (reqV q) w :=
  run_loadVar_row (P := Tryd.prog) w g 24 24 _ (0, 0) _ h Tryd.underlying24 rfl (by kernel_rfl)
theorem cse_load {w : World} {g : Nat} {x : Cse} (h : Blk w g 66 x.cells) : (loadVar 66 ⟨g, 0, none⟩).run Tryd.prog w = .ok (cseV x) w :=
  run_loadVar_row (P := Tryd.prog) w g 66 66 _ (0, 0) _ h Tryd.underlying66 rfl (by kernel_rfl)

/-- A call is written. -/
theorem req_put {w : World} {g : Nat} {q : Reqr} (h : Blk w g 24 q.cells) (p : Reqr) :
    Blk (((((w.setCell ⟨g, 0, none⟩ (.int .i64 p.kind)).setCell ⟨g, 1, none⟩ (.int .i64 p.arg)).setCell ⟨g, 2, none⟩ (.int .i64 p.value)).setCell ⟨g, 3, none⟩ (.bool p.dflt)).setCell ⟨g, 4, none⟩ (.slice p.A p.n p.c)) g 24 p.cells ∧
    ∀ B, B ≤ g → Below B w (((((w.setCell ⟨g, 0, none⟩ (.int .i64 p.kind)).setCell ⟨g, 1, none⟩ (.int .i64 p.arg)).setCell ⟨g, 2, none⟩ (.int .i64 p.value)).setCell ⟨g, 3, none⟩ (.bool p.dflt)).setCell ⟨g, 4, none⟩ (.slice p.A p.n p.c)) :=
  ⟨((((h.set_ 0 (.int .i64 p.kind)).set_ 1 (.int .i64 p.arg)).set_ 2 (.int .i64 p.value)).set_ 3 (.bool p.dflt)).set_ 4 (.slice p.A p.n p.c),
   fun B hB => (((((Below.refl B w).setCell (p := ⟨g, 0, none⟩) hB _).setCell (p := ⟨g, 1, none⟩) hB _).setCell (p := ⟨g, 2, none⟩) hB _).setCell (p := ⟨g, 3, none⟩) hB _).setCell (p := ⟨g, 4, none⟩) hB _⟩
theorem Rd.set_ {w : World} {g : Nat} {A : Option Addr} {xs : List Value} (h : Rd w A xs) (hA : ∀ b o, A = some ⟨b, o, none⟩ → b ≠ g) (i : Nat) (u : Value) : Rd (w.setCell ⟨g, i, none⟩ u) A xs := by
  rcases h with h | ⟨b, o, rfl, hlt, hc⟩
  · exact .inl h
  · have hn : b ≠ g := hA b o rfl
    have hO := (Only.refl g w).set_ i u
    exact .inr ⟨b, o, rfl, Nat.lt_of_lt_of_le hlt hO.size, fun k v hk => by rw [hO.cell (p := ⟨b, o + k, none⟩) hlt hn]; exact hc k v hk⟩


set_option maxHeartbeats 1000000 in
set_option maxRecDepth 100000 in
theorem To_any (a : Int) (b : Int) (w : World) : Calls Tryd.prog 70 #[.int .i64 a, .int .i64 b] w fun e w' => e = .returned (cseV ⟨1, a, b⟩) ∧ Below w.heap.size w w' := by
  go_enter Tryd.func70, Tryd.ntmps70
  go_wp2
  exact bodyPost_ret (v := cseV ⟨1, a, b⟩) (ret_cell (g := w.heap.size) rfl rfl (cse_load (x := ⟨1, a, b⟩) (blk_new rfl))) rfl ⟨rfl, (Below.refl _ _).alloc (Nat.le_refl _) _⟩


set_option maxHeartbeats 1000000 in
set_option maxRecDepth 100000 in
theorem From_any (a : Int) (w : World) : Calls Tryd.prog 71 #[.int .i64 a] w fun e w' => e = .returned (cseV ⟨2, a, 0⟩) ∧ Below w.heap.size w w' := by
  go_enter Tryd.func71, Tryd.ntmps71
  go_wp2
  exact bodyPost_ret (v := cseV ⟨2, a, 0⟩) (ret_cell (g := w.heap.size) rfl rfl (cse_load (x := ⟨2, a, 0⟩) (blk_new rfl))) rfl ⟨rfl, (Below.refl _ _).alloc (Nat.le_refl _) _⟩


/-- Handed back: a call of cases, with a row of its own. -/
def RetSel (d : Bool) (l : List Cse) (w : World) (e : Ending) (w' : World) : Prop :=
  ∃ A n c, e = .returned (reqV ⟨3, 0, 0, d, A, n, c⟩) ∧ ReqAt w' ⟨3, 0, 0, d, A, n, c⟩ l ∧ n = l.length ∧ (∀ b o, A = some ⟨b, o, none⟩ → w.heap.size < b) ∧ Below w.heap.size w w'

theorem own_apart {w : World} {base g : Nat} {e : TypeId} {s n : Nat} {A : Option Addr} {c : Nat} {xs : List Value} (h : w.ownsRow base e s (.slice A n c) n xs) (hg : g < base) : ∀ b o, A = some ⟨b, o, none⟩ → b ≠ g := by
  intro b o hA
  rcases h.2 with ⟨hv, _⟩ | ⟨g', cap, cur, hv, hb, _⟩
  · injection hv with hA' _ _; rw [hA] at hA'; cases hA'
  · injection hv with hA' _ _
    rw [hA] at hA'
    injection hA' with hA'
    injection hA' with hA'
    omega

theorem own_above {w : World} {base : Nat} {e : TypeId} {s n : Nat} {A : Option Addr} {c : Nat} {xs : List Value} (h : w.ownsRow base e s (.slice A n c) n xs) : ∀ b o, A = some ⟨b, o, none⟩ → base ≤ b := by
  intro b o hA
  rcases h.2 with ⟨hv, _⟩ | ⟨g', cap, cur, hv, hb, _⟩
  · injection hv with hA' _ _; rw [hA] at hA'; cases hA'
  · injection hv with hA' _ _
    rw [hA] at hA'
    injection hA' with hA'
    injection hA' with hA'
    omega

set_option maxHeartbeats 1000000 in
set_option maxRecDepth 100000 in
theorem Select_any (d : Bool) (A : Option Addr) (n c : Nat) (l : List Cse) (w : World) (hl : l.length = n) (hn : n * 24 ≤ 140737488355328) (hR : Rd w A (rows l)) :
    Calls Tryd.prog 69 #[.bool d, .slice A n c] w (RetSel d l w) := by
  have HR := Lib.hid hR
  have HL := Lib.hid hl
  have HC := Lib.hid (fun W h => CloneC_any A n c (rows l) W hn (by rw [rows_length, hl]; rfl) (rows_one l) h)
  clear hR hl
  go_enter Tryd.func69, Tryd.ntmps69
  go_wp2_with fail
  refine (HC.out _ (HR.out.below ((Below.refl _ _).alloc (Nat.le_refl _) _))).mono ?_
  rintro e w1 ⟨A', c', rfl, ho, hb⟩
  have HO := Lib.hid ho
  have HB := Lib.hid hb
  have hbx : Blk w1 w.heap.size 24 (Reqr.cells ⟨0, 0, 0, false, none, 0, 0⟩) := (Blk.new w 24 (Reqr.cells ⟨0, 0, 0, false, none, 0, 0⟩)).below hb (by simp)
  have HX := Lib.hid hbx
  obtain ⟨x0, x1, x2, x3, x4⟩ := reqBox hbx
  have f0 := hbx.frozen 0
  have f1 := hbx.frozen 1
  have f2 := hbx.frozen 2
  have f3 := hbx.frozen 3
  have f4 := hbx.frozen 4
  have hlt := hbx.lt
  clear ho hb hbx
  simp only at x0 x1 x2 x3 x4
  go_wp2
  obtain ⟨hB, hL⟩ := req_put HX.out ⟨3, 0, 0, d, A', n, c'⟩
  have hl := req_load hB
  have hap := own_apart (g := w.heap.size) HO.out (by simp)
  have hr := own_rd HO.out
  have hbl := (((Below.refl _ _).alloc (Nat.le_refl _) _).trans (HB.out.mono (by simp))).trans (hL _ (Nat.le_refl _))
  refine bodyPost_ret (v := reqV ⟨3, 0, 0, d, A', n, c'⟩) (ret_cell (g := w.heap.size) rfl rfl hl) rfl ?_
  refine ⟨A', n, c', rfl, ⟨HL.out, ?_⟩, HL.out.symm, ?_, hbl⟩
  · exact ((((hr.set_ hap _ _).set_ hap _ _).set_ hap _ _).set_ hap _ _).set_ hap _ _
  · intro b o hA
    have := own_above HO.out b o hA
    simp only [World.size_alloc] at this
    omega


set_option maxHeartbeats 1000000 in
set_option maxRecDepth 100000 in
theorem Send_any (a : Int) (b : Int) (w : World) : Calls Tryd.prog 36 #[.int .i64 a, .int .i64 b] w (RetSel false [⟨1, a, b⟩] w) := by
  go_enter Tryd.func36, Tryd.ntmps36
  go_wp2_with fail
  refine (To_any a b _).mono ?_
  rintro e w1 ⟨rfl, hb1⟩
  have hb1' : Below w.heap.size w w1 := ((Below.refl _ _).alloc (Nat.le_refl _) _).trans (hb1.mono (by simp))
  have HX1 := Lib.hid ((Blk.new w 24 (Reqr.cells ⟨0, 0, 0, false, none, 0, 0⟩)).below hb1 (by simp))
  have HB1 := Lib.hid hb1'
  clear hb1 hb1'
  go_wp2_with fail
  refine (Select_any false (some ⟨w1.heap.size, 0, none⟩) 1 1 [⟨1, a, b⟩] _ rfl (by omega) (Blk.rd (cs := rows [(⟨1, a, b⟩ : Cse)]) (blk_new rfl))).mono ?_
  rintro e w2 ⟨A', n, c', rfl, hq, hn, hab, hb2⟩
  have hb12 : Below w1.heap.size w1 w2 := ((Below.refl _ _).alloc (Nat.le_refl _) _).trans (hb2.mono (by simp))
  have HQ := Lib.hid hq
  have HB2 := Lib.hid (HB1.out.trans (hb12.mono HB1.out.size))
  have hbx := HX1.out.below hb12 HX1.out.lt
  have hx1 := HX1.out.lt
  have HX := Lib.hid hbx
  have HN := Lib.hid hn
  have HAB := Lib.hid (fun b o h => Nat.lt_trans hx1 (Nat.lt_of_lt_of_le (Nat.lt_succ_self _) (by have := hab b o h; simp at this; omega)) : ∀ b o, A' = some ⟨b, o, none⟩ → w.heap.size < b)
  obtain ⟨x0, x1, x2, x3, x4⟩ := reqBox hbx
  have f0 := hbx.frozen 0
  have f1 := hbx.frozen 1
  have f2 := hbx.frozen 2
  have f3 := hbx.frozen 3
  have f4 := hbx.frozen 4
  have hlt := hbx.lt
  clear hq hb2 hb12 hbx HX1 HB1 hn hab hx1
  simp only at x0 x1 x2 x3 x4
  go_wp2
  obtain ⟨hB, hL⟩ := req_put HX.out ⟨3, 0, 0, false, A', n, c'⟩
  have hl := req_load hB
  have hbl := HB2.out.trans (hL _ (Nat.le_refl _))
  have hr := HQ.out.rd
  have hap : ∀ b o, A' = some ⟨b, o, none⟩ → b ≠ w.heap.size := fun b o h => by have := HAB.out b o h; omega
  refine bodyPost_ret (v := reqV ⟨3, 0, 0, false, A', n, c'⟩) (ret_cell (g := w.heap.size) rfl rfl hl) rfl ?_
  refine ⟨A', n, c', rfl, ⟨HQ.out.len, ?_⟩, HN.out, HAB.out, hbl⟩
  exact ((((hr.set_ hap _ _).set_ hap _ _).set_ hap _ _).set_ hap _ _).set_ hap _ _


set_option maxHeartbeats 1000000 in
set_option maxRecDepth 100000 in
theorem Recv_any (a : Int) (w : World) : Calls Tryd.prog 37 #[.int .i64 a] w (RetSel false [⟨2, a, 0⟩] w) := by
  go_enter Tryd.func37, Tryd.ntmps37
  go_wp2_with fail
  refine (From_any a _).mono ?_
  rintro e w1 ⟨rfl, hb1⟩
  have hb1' : Below w.heap.size w w1 := ((Below.refl _ _).alloc (Nat.le_refl _) _).trans (hb1.mono (by simp))
  have HX1 := Lib.hid ((Blk.new w 24 (Reqr.cells ⟨0, 0, 0, false, none, 0, 0⟩)).below hb1 (by simp))
  have HB1 := Lib.hid hb1'
  clear hb1 hb1'
  go_wp2_with fail
  refine (Select_any false (some ⟨w1.heap.size, 0, none⟩) 1 1 [⟨2, a, 0⟩] _ rfl (by omega) (Blk.rd (cs := rows [(⟨2, a, 0⟩ : Cse)]) (blk_new rfl))).mono ?_
  rintro e w2 ⟨A', n, c', rfl, hq, hn, hab, hb2⟩
  have hb12 : Below w1.heap.size w1 w2 := ((Below.refl _ _).alloc (Nat.le_refl _) _).trans (hb2.mono (by simp))
  have HQ := Lib.hid hq
  have HB2 := Lib.hid (HB1.out.trans (hb12.mono HB1.out.size))
  have hbx := HX1.out.below hb12 HX1.out.lt
  have hx1 := HX1.out.lt
  have HX := Lib.hid hbx
  have HN := Lib.hid hn
  have HAB := Lib.hid (fun b o h => Nat.lt_trans hx1 (Nat.lt_of_lt_of_le (Nat.lt_succ_self _) (by have := hab b o h; simp at this; omega)) : ∀ b o, A' = some ⟨b, o, none⟩ → w.heap.size < b)
  obtain ⟨x0, x1, x2, x3, x4⟩ := reqBox hbx
  have f0 := hbx.frozen 0
  have f1 := hbx.frozen 1
  have f2 := hbx.frozen 2
  have f3 := hbx.frozen 3
  have f4 := hbx.frozen 4
  have hlt := hbx.lt
  clear hq hb2 hb12 hbx HX1 HB1 hn hab hx1
  simp only at x0 x1 x2 x3 x4
  go_wp2
  obtain ⟨hB, hL⟩ := req_put HX.out ⟨3, 0, 0, false, A', n, c'⟩
  have hl := req_load hB
  have hbl := HB2.out.trans (hL _ (Nat.le_refl _))
  have hr := HQ.out.rd
  have hap : ∀ b o, A' = some ⟨b, o, none⟩ → b ≠ w.heap.size := fun b o h => by have := HAB.out b o h; omega
  refine bodyPost_ret (v := reqV ⟨3, 0, 0, false, A', n, c'⟩) (ret_cell (g := w.heap.size) rfl rfl hl) rfl ?_
  refine ⟨A', n, c', rfl, ⟨HQ.out.len, ?_⟩, HN.out, HAB.out, hbl⟩
  exact ((((hr.set_ hap _ _).set_ hap _ _).set_ hap _ _).set_ hap _ _).set_ hap _ _


set_option maxHeartbeats 1000000 in
set_option maxRecDepth 100000 in
theorem TrySend_any (a : Int) (b : Int) (w : World) : Calls Tryd.prog 41 #[.int .i64 a, .int .i64 b] w (RetSel true [⟨1, a, b⟩] w) := by
  go_enter Tryd.func41, Tryd.ntmps41
  go_wp2_with fail
  refine (To_any a b _).mono ?_
  rintro e w1 ⟨rfl, hb1⟩
  have hb1' : Below w.heap.size w w1 := ((Below.refl _ _).alloc (Nat.le_refl _) _).trans (hb1.mono (by simp))
  have HX1 := Lib.hid ((Blk.new w 24 (Reqr.cells ⟨0, 0, 0, false, none, 0, 0⟩)).below hb1 (by simp))
  have HB1 := Lib.hid hb1'
  clear hb1 hb1'
  go_wp2_with fail
  refine (Select_any true (some ⟨w1.heap.size, 0, none⟩) 1 1 [⟨1, a, b⟩] _ rfl (by omega) (Blk.rd (cs := rows [(⟨1, a, b⟩ : Cse)]) (blk_new rfl))).mono ?_
  rintro e w2 ⟨A', n, c', rfl, hq, hn, hab, hb2⟩
  have hb12 : Below w1.heap.size w1 w2 := ((Below.refl _ _).alloc (Nat.le_refl _) _).trans (hb2.mono (by simp))
  have HQ := Lib.hid hq
  have HB2 := Lib.hid (HB1.out.trans (hb12.mono HB1.out.size))
  have hbx := HX1.out.below hb12 HX1.out.lt
  have hx1 := HX1.out.lt
  have HX := Lib.hid hbx
  have HN := Lib.hid hn
  have HAB := Lib.hid (fun b o h => Nat.lt_trans hx1 (Nat.lt_of_lt_of_le (Nat.lt_succ_self _) (by have := hab b o h; simp at this; omega)) : ∀ b o, A' = some ⟨b, o, none⟩ → w.heap.size < b)
  obtain ⟨x0, x1, x2, x3, x4⟩ := reqBox hbx
  have f0 := hbx.frozen 0
  have f1 := hbx.frozen 1
  have f2 := hbx.frozen 2
  have f3 := hbx.frozen 3
  have f4 := hbx.frozen 4
  have hlt := hbx.lt
  clear hq hb2 hb12 hbx HX1 HB1 hn hab hx1
  simp only at x0 x1 x2 x3 x4
  go_wp2
  obtain ⟨hB, hL⟩ := req_put HX.out ⟨3, 0, 0, true, A', n, c'⟩
  have hl := req_load hB
  have hbl := HB2.out.trans (hL _ (Nat.le_refl _))
  have hr := HQ.out.rd
  have hap : ∀ b o, A' = some ⟨b, o, none⟩ → b ≠ w.heap.size := fun b o h => by have := HAB.out b o h; omega
  refine bodyPost_ret (v := reqV ⟨3, 0, 0, true, A', n, c'⟩) (ret_cell (g := w.heap.size) rfl rfl hl) rfl ?_
  refine ⟨A', n, c', rfl, ⟨HQ.out.len, ?_⟩, HN.out, HAB.out, hbl⟩
  exact ((((hr.set_ hap _ _).set_ hap _ _).set_ hap _ _).set_ hap _ _).set_ hap _ _


set_option maxHeartbeats 1000000 in
set_option maxRecDepth 100000 in
theorem TryRecv_any (a : Int) (w : World) : Calls Tryd.prog 39 #[.int .i64 a] w (RetSel true [⟨2, a, 0⟩] w) := by
  go_enter Tryd.func39, Tryd.ntmps39
  go_wp2_with fail
  refine (From_any a _).mono ?_
  rintro e w1 ⟨rfl, hb1⟩
  have hb1' : Below w.heap.size w w1 := ((Below.refl _ _).alloc (Nat.le_refl _) _).trans (hb1.mono (by simp))
  have HX1 := Lib.hid ((Blk.new w 24 (Reqr.cells ⟨0, 0, 0, false, none, 0, 0⟩)).below hb1 (by simp))
  have HB1 := Lib.hid hb1'
  clear hb1 hb1'
  go_wp2_with fail
  refine (Select_any true (some ⟨w1.heap.size, 0, none⟩) 1 1 [⟨2, a, 0⟩] _ rfl (by omega) (Blk.rd (cs := rows [(⟨2, a, 0⟩ : Cse)]) (blk_new rfl))).mono ?_
  rintro e w2 ⟨A', n, c', rfl, hq, hn, hab, hb2⟩
  have hb12 : Below w1.heap.size w1 w2 := ((Below.refl _ _).alloc (Nat.le_refl _) _).trans (hb2.mono (by simp))
  have HQ := Lib.hid hq
  have HB2 := Lib.hid (HB1.out.trans (hb12.mono HB1.out.size))
  have hbx := HX1.out.below hb12 HX1.out.lt
  have hx1 := HX1.out.lt
  have HX := Lib.hid hbx
  have HN := Lib.hid hn
  have HAB := Lib.hid (fun b o h => Nat.lt_trans hx1 (Nat.lt_of_lt_of_le (Nat.lt_succ_self _) (by have := hab b o h; simp at this; omega)) : ∀ b o, A' = some ⟨b, o, none⟩ → w.heap.size < b)
  obtain ⟨x0, x1, x2, x3, x4⟩ := reqBox hbx
  have f0 := hbx.frozen 0
  have f1 := hbx.frozen 1
  have f2 := hbx.frozen 2
  have f3 := hbx.frozen 3
  have f4 := hbx.frozen 4
  have hlt := hbx.lt
  clear hq hb2 hb12 hbx HX1 HB1 hn hab hx1
  simp only at x0 x1 x2 x3 x4
  go_wp2
  obtain ⟨hB, hL⟩ := req_put HX.out ⟨3, 0, 0, true, A', n, c'⟩
  have hl := req_load hB
  have hbl := HB2.out.trans (hL _ (Nat.le_refl _))
  have hr := HQ.out.rd
  have hap : ∀ b o, A' = some ⟨b, o, none⟩ → b ≠ w.heap.size := fun b o h => by have := HAB.out b o h; omega
  refine bodyPost_ret (v := reqV ⟨3, 0, 0, true, A', n, c'⟩) (ret_cell (g := w.heap.size) rfl rfl hl) rfl ?_
  refine ⟨A', n, c', rfl, ⟨HQ.out.len, ?_⟩, HN.out, HAB.out, hbl⟩
  exact ((((hr.set_ hap _ _).set_ hap _ _).set_ hap _ _).set_ hap _ _).set_ hap _ _


set_option maxHeartbeats 4000000 in
set_option maxRecDepth 100000 in
theorem Waits_any (q : Reqr) (w : World) :
    Calls Tryd.prog 40 #[reqV q] w fun e w' => e = .returned (.bool (q.kind == 3 && !q.dflt && decide (0 < q.n))) ∧ Below w.heap.size w w' := by
  obtain ⟨kind, arg, value, dflt, A, n, c⟩ := q
  unfold reqV
  simp only
  by_cases h3 : kind = 3
  · have b1 : (kind == 3) = true := by simp [h3]
    have H3 := Lib.hid b1
    clear h3
    cases dflt
    · by_cases hn : 0 < n
      · have q1 : (0 : Int) < (n : Int) := by omega
        have HN := Lib.hid hn
        clear hn
        go_enter Tryd.func40, Tryd.ntmps40
        go_wp2
        go_ret
        exact ⟨ret_bool (by simp [H3.out, HN.out]), (Below.refl _ _).alloc (Nat.le_refl _) _⟩
      · have q1 : ¬ (0 : Int) < (n : Int) := by omega
        have HN := Lib.hid hn
        clear hn
        go_enter Tryd.func40, Tryd.ntmps40
        go_wp2
        go_ret
        exact ⟨ret_bool (by simp [HN.out]), (Below.refl _ _).alloc (Nat.le_refl _) _⟩
    · go_enter Tryd.func40, Tryd.ntmps40
      go_wp2
      go_ret
      exact ⟨ret_bool (by simp), (Below.refl _ _).alloc (Nat.le_refl _) _⟩
  · have b1 : (kind == 3) = false := by simp [h3]
    have H3 := Lib.hid b1
    clear h3
    go_enter Tryd.func40, Tryd.ntmps40
    go_wp2
    go_ret
    exact ⟨ret_bool (by simp [H3.out]), (Below.refl _ _).alloc (Nat.le_refl _) _⟩

end Go.Proofs.YtknlhkkpheahlaaDoor

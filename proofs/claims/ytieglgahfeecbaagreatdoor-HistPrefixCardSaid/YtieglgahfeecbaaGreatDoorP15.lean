/- lifo: a stack behind a call: walked. (printed by gen_lf2.py) -/
import Derived.Test.YtieglgahfeecbaaGreatDoorP3
import Derived.Test.YtieglgahfeecbaaGreatDoorP6
set_option maxHeartbeats 64000000
set_option maxRecDepth 100000
namespace Go.Proofs.YtieglgahfeecbaaGreatDoor
open Go.RowKit Go.Sort
attribute [local go_sem ↓] Go.wp_at_zero Go.wp_at_succ
theorem ret_tmpC {fn : Func} {p q : Tmp} {ty : TypeId} (h : fn.results = #[.tmp q, .cell p ty]) {tmps : Array Value} {w : World} {g : Nat} {v a : Value}
  (ht : tmps.getD p undef = .pointer (some ⟨g, 0, none⟩)) (hl : (loadVar ty ⟨g, 0, none⟩).run Tryz.prog w = .ok v w) (hq : tmps.getD q undef = a) :
  (results fn tmps).run Tryz.prog w = .ok (.tuple #[a, v]) w := by
 have ha : ∀ g : Nat, (asAddr (.pointer (some ⟨g, 0, none⟩))).run Tryz.prog w = .ok ⟨g, 0, none⟩ w := fun g => by simp [asAddr, go_sem]
 simp only [Array.getD_eq_getD_getElem?] at ht hq
 simp [results, h, ht, hq, hl, ha]
theorem put4 {w : World} {g : Nat} {t : TypeId} {a b c d v0 v1 v2 v3 : Value} (h : Blk w g t [a, b, c, d]) : Blk ((((w.setCell ⟨g, 0, none⟩ v0).setCell ⟨g, 1, none⟩ v1).setCell ⟨g, 2, none⟩ v2).setCell ⟨g, 3, none⟩ v3) g t [v0, v1, v2, v3] := (((h.set_ 0 v0).set_ 1 v1).set_ 2 v2).set_ 3 v3
theorem own_put4 {w : World} {base : Nat} {e e' : TypeId} {s n g : Nat} {v : Value} {xs cs : List Value} {v0 v1 v2 v3 : Value} (h : w.ownsRow base e s v n xs) (hg : Blk w g e' cs) (hne : e ≠ e') :
  ((((w.setCell ⟨g, 0, none⟩ v0).setCell ⟨g, 1, none⟩ v1).setCell ⟨g, 2, none⟩ v2).setCell ⟨g, 3, none⟩ v3).ownsRow base e s v n xs :=
 own_ty (own_ty (own_ty (own_ty h hg hne 0 v0) (hg.set_ 0 v0) hne 1 v1) ((hg.set_ 0 v0).set_ 1 v1) hne 2 v2) (((hg.set_ 0 v0).set_ 1 v1).set_ 2 v2) hne 3 v3
theorem own_blk_neL {w : World} {base s n g : Nat} {e t : TypeId} {v : Value} {xs cs : List Value} (h : w.ownsRow base e s v n xs) (hb : Blk w g t cs) (hne : e ≠ t) : some g ≠ v.ownBlock := by
 rcases h.2 with ⟨rfl, _⟩ | ⟨b, cap, cur, rfl, _, hh, _⟩
 . simp [Value.ownBlock]
 . simp only [Value.ownBlock, ne_eq, Option.some.injEq]
   rintro rfl
   have h2 : w.heap[g]? = some (.cells cs.toArray t (0, 0)) := hb
   rw [hh] at h2
   simp only [Option.some.injEq, Obj.cells.injEq] at h2
   exact hne h2.2.1
def RetStep (p : List Int × Int × Int) (w : World) (e : Ending) (w' : World) : Prop :=
 ∃ A c0 n, n = p.1.length /\ e = .returned (.tuple #[.slice A n c0, rsV ⟨0, 0, p.2.1, p.2.2⟩]) /\ w'.ownsRow w.heap.size 3 1 (.slice A n c0) n (ints p.1) /\ Below w.heap.size w w'
theorem lStep_any (A : Option Addr) (c0 : Nat) (li : List Int) (cap : Int) (q : Reqr) (l : List Cse) (w : World) (hR : Rd w A (ints li)) (hl : li.length <= 1048576) (hcap : li.length <= c0) :
  Calls Tryz.prog 164 #[.slice A li.length c0, .int .i64 cap, reqV q] w (RetStep (stpC true cap li (q.p l)) w) := by
 obtain ⟨b0, b1, hb2⟩ := box2 w 40 42 q.cells [.int .i64 0, .int .i64 0, .int .i64 0, .int .i64 0]
 have HY0 := Zd b0
 have HY1 := Zd b1
 have HBX := Zd hb2
 have HVS : Hid (stpC true cap li (q.p l) = if q.kind = 8 then (if (li.length : Int) < cap then (li ++ [q.value], 0, 0) else (li, 10, 0))
  else if q.kind = 9 then (if li.length = 0 then (li, 10, 0) else (li.take (li.length - 1), 0, li.getD (li.length - 1) 0))
  else if q.kind = 5 then (li, 0, (li.length : Int)) else if q.kind = 6 then (li, 0, cap) else (li, 1, 0)) := Zd rfl
 have HCI := Zd (fun W (hb : Below w.heap.size w W) => CloneI_any A li.length c0 (ints li) W (by omega) (by rw [ints_length]; omega) (ints_one _) (hR.below hb))
 generalize stpC true cap li (q.p l) = R at *
 have HR := Zd hR
 have HLI : Hid (li.length = li.length) := Zd rfl
 clear b0 b1 hb2 hR
 unfold Reqr.cells at HY0 HBX HY1
 have hful : (q.kind = 8 /\ ¬ (li.length : Int) < cap) -> Calls Tryz.prog 164 #[.slice A li.length c0, .int .i64 cap, reqV q] w (RetStep R w) := by
  intro hyp
  have HS : Hid (R = (li, 10, 0)) := Zd (by rw [HVS.out]; rw [if_pos hyp.1, if_neg hyp.2])
  clear HVS
  have e8 : (q.kind == 8) = true := by simp [hyp.1]
  have e9 : (q.kind == 9) = false := by simp [hyp.1]
  have hge := hyp.2
  unfold reqV
  generalize hn : li.length = n at *
  have HN := Zd hn
  clear hn hyp
  go_enter Tryz.func164, Tryz.ntmps164
  go_upto_region 1 with fail
  generalize ((w.alloc (.cells #[.int .i64 q.kind, .int .i64 q.arg, .int .i64 q.value, .bool q.dflt, .slice q.A q.n q.c] 40)).alloc (.cells #[.int .i64 0, .int .i64 0, .int .i64 0, .int .i64 0] 42)) = W0 at *
  obtain ⟨q0, q1, q2, q3, q4⟩ := reqBox (q := q) HY0.out
  go_wp2_with (refine (HCI.out _ HBX.out).mono ?_
               rintro er w1 ⟨A1, c1, rfl, how1, hb1⟩
               have HO1 := Zd how1
               have HB1 := Zd hb1
               have HR1 := Zd (HY0.out.below hb1 HY0.out.lt)
               have HX1 := Zd (HY1.out.below hb1 HY1.out.lt)
               obtain ⟨q0, q1, q2, q3, q4⟩ := reqBox (q := q) HR1.out
               have e0 := HX1.out.cell (i := 0) rfl
               have ze0 := HX1.out.frozen 0
               have e1 := HX1.out.cell (i := 1) rfl
               have ze1 := HX1.out.frozen 1
               have e2 := HX1.out.cell (i := 2) rfl
               have ze2 := HX1.out.frozen 2
               have e3 := HX1.out.cell (i := 3) rfl
               have ze3 := HX1.out.frozen 3
               clear how1 hb1)
  refine bodyPost_ret (v := .tuple #[.slice A1 n c1, rsV ⟨0, 0, 10, 0⟩]) (ret_tmpC (g := w.heap.size + 1) rfl rfl (rsl_load (r := ⟨0, 0, 10, 0⟩) (put4 HX1.out)) rfl) rfl ?_
  exact ⟨A1, c1, n, by rw [HS.out, HN.out], by rw [HS.out], by rw [HS.out]; exact own_put4 (own_lower HO1.out HBX.out.size) HX1.out (by decide), below4 (HBX.out.trans (HB1.out.mono HBX.out.size)) (by omega)⟩
 have hemp : (q.kind = 9 /\ li.length = 0) -> Calls Tryz.prog 164 #[.slice A li.length c0, .int .i64 cap, reqV q] w (RetStep R w) := by
  intro hyp
  have HS : Hid (R = (li, 10, 0)) := Zd (by rw [HVS.out]; rw [if_neg (by rw [hyp.1]; decide), if_pos hyp.1, if_pos hyp.2])
  clear HVS
  have e9 : (q.kind == 9) = true := by simp [hyp.1]
  have e8 : (q.kind == 8) = false := by simp [hyp.1]
  have hge : ¬ (0 : Int) < (li.length : Int) := by have := hyp.2; omega
  have hge2 : ¬ 0 < li.length := by have := hyp.2; omega
  unfold reqV
  generalize hn : li.length = n at *
  have HN := Zd hn
  clear hn hyp
  go_enter Tryz.func164, Tryz.ntmps164
  go_upto_region 1 with fail
  generalize ((w.alloc (.cells #[.int .i64 q.kind, .int .i64 q.arg, .int .i64 q.value, .bool q.dflt, .slice q.A q.n q.c] 40)).alloc (.cells #[.int .i64 0, .int .i64 0, .int .i64 0, .int .i64 0] 42)) = W0 at *
  obtain ⟨q0, q1, q2, q3, q4⟩ := reqBox (q := q) HY0.out
  go_wp2_with (refine (HCI.out _ HBX.out).mono ?_
               rintro er w1 ⟨A1, c1, rfl, how1, hb1⟩
               have HO1 := Zd how1
               have HB1 := Zd hb1
               have HR1 := Zd (HY0.out.below hb1 HY0.out.lt)
               have HX1 := Zd (HY1.out.below hb1 HY1.out.lt)
               obtain ⟨q0, q1, q2, q3, q4⟩ := reqBox (q := q) HR1.out
               have e0 := HX1.out.cell (i := 0) rfl
               have ze0 := HX1.out.frozen 0
               have e1 := HX1.out.cell (i := 1) rfl
               have ze1 := HX1.out.frozen 1
               have e2 := HX1.out.cell (i := 2) rfl
               have ze2 := HX1.out.frozen 2
               have e3 := HX1.out.cell (i := 3) rfl
               have ze3 := HX1.out.frozen 3
               clear how1 hb1)
  refine bodyPost_ret (v := .tuple #[.slice A1 n c1, rsV ⟨0, 0, 10, 0⟩]) (ret_tmpC (g := w.heap.size + 1) rfl rfl (rsl_load (r := ⟨0, 0, 10, 0⟩) (put4 HX1.out)) rfl) rfl ?_
  exact ⟨A1, c1, n, by rw [HS.out, HN.out], by rw [HS.out], by rw [HS.out]; exact own_put4 (own_lower HO1.out HBX.out.size) HX1.out (by decide), below4 (HBX.out.trans (HB1.out.mono HBX.out.size)) (by omega)⟩
 have hlen : (q.kind = 5) -> Calls Tryz.prog 164 #[.slice A li.length c0, .int .i64 cap, reqV q] w (RetStep R w) := by
  intro hyp
  have HS : Hid (R = (li, 0, (li.length : Int))) := Zd (by rw [HVS.out]; rw [if_neg (by rw [hyp]; decide), if_neg (by rw [hyp]; decide), if_pos hyp])
  clear HVS
  have e8 : (q.kind == 8) = false := by simp [hyp]
  have e9 : (q.kind == 9) = false := by simp [hyp]
  have e5 : (q.kind == 5) = true := by simp [hyp]
  unfold reqV
  generalize hn : li.length = n at *
  have HN := Zd hn
  clear hn hyp
  go_enter Tryz.func164, Tryz.ntmps164
  go_upto_region 1 with fail
  generalize ((w.alloc (.cells #[.int .i64 q.kind, .int .i64 q.arg, .int .i64 q.value, .bool q.dflt, .slice q.A q.n q.c] 40)).alloc (.cells #[.int .i64 0, .int .i64 0, .int .i64 0, .int .i64 0] 42)) = W0 at *
  obtain ⟨q0, q1, q2, q3, q4⟩ := reqBox (q := q) HY0.out
  go_wp2_with (refine (HCI.out _ HBX.out).mono ?_
               rintro er w1 ⟨A1, c1, rfl, how1, hb1⟩
               have HO1 := Zd how1
               have HB1 := Zd hb1
               have HR1 := Zd (HY0.out.below hb1 HY0.out.lt)
               have HX1 := Zd (HY1.out.below hb1 HY1.out.lt)
               obtain ⟨q0, q1, q2, q3, q4⟩ := reqBox (q := q) HR1.out
               have e0 := HX1.out.cell (i := 0) rfl
               have ze0 := HX1.out.frozen 0
               have e1 := HX1.out.cell (i := 1) rfl
               have ze1 := HX1.out.frozen 1
               have e2 := HX1.out.cell (i := 2) rfl
               have ze2 := HX1.out.frozen 2
               have e3 := HX1.out.cell (i := 3) rfl
               have ze3 := HX1.out.frozen 3
               clear how1 hb1)
  refine bodyPost_ret (v := .tuple #[.slice A1 n c1, rsV ⟨0, 0, 0, (n : Int)⟩]) (ret_tmpC (g := w.heap.size + 1) rfl rfl (rsl_load (r := ⟨0, 0, 0, (n : Int)⟩) (put4 HX1.out)) rfl) rfl ?_
  exact ⟨A1, c1, n, by rw [HS.out, HN.out], by rw [HS.out], by rw [HS.out]; exact own_put4 (own_lower HO1.out HBX.out.size) HX1.out (by decide), below4 (HBX.out.trans (HB1.out.mono HBX.out.size)) (by omega)⟩
 have hcap6 : (q.kind = 6) -> Calls Tryz.prog 164 #[.slice A li.length c0, .int .i64 cap, reqV q] w (RetStep R w) := by
  intro hyp
  have HS : Hid (R = (li, 0, cap)) := Zd (by rw [HVS.out]; rw [if_neg (by rw [hyp]; decide), if_neg (by rw [hyp]; decide), if_neg (by rw [hyp]; decide), if_pos hyp])
  clear HVS
  have e8 : (q.kind == 8) = false := by simp [hyp]
  have e9 : (q.kind == 9) = false := by simp [hyp]
  have e5 : (q.kind == 5) = false := by simp [hyp]
  have e6 : (q.kind == 6) = true := by simp [hyp]
  unfold reqV
  generalize hn : li.length = n at *
  have HN := Zd hn
  clear hn hyp
  go_enter Tryz.func164, Tryz.ntmps164
  go_upto_region 1 with fail
  generalize ((w.alloc (.cells #[.int .i64 q.kind, .int .i64 q.arg, .int .i64 q.value, .bool q.dflt, .slice q.A q.n q.c] 40)).alloc (.cells #[.int .i64 0, .int .i64 0, .int .i64 0, .int .i64 0] 42)) = W0 at *
  obtain ⟨q0, q1, q2, q3, q4⟩ := reqBox (q := q) HY0.out
  go_wp2_with (refine (HCI.out _ HBX.out).mono ?_
               rintro er w1 ⟨A1, c1, rfl, how1, hb1⟩
               have HO1 := Zd how1
               have HB1 := Zd hb1
               have HR1 := Zd (HY0.out.below hb1 HY0.out.lt)
               have HX1 := Zd (HY1.out.below hb1 HY1.out.lt)
               obtain ⟨q0, q1, q2, q3, q4⟩ := reqBox (q := q) HR1.out
               have e0 := HX1.out.cell (i := 0) rfl
               have ze0 := HX1.out.frozen 0
               have e1 := HX1.out.cell (i := 1) rfl
               have ze1 := HX1.out.frozen 1
               have e2 := HX1.out.cell (i := 2) rfl
               have ze2 := HX1.out.frozen 2
               have e3 := HX1.out.cell (i := 3) rfl
               have ze3 := HX1.out.frozen 3
               clear how1 hb1)
  refine bodyPost_ret (v := .tuple #[.slice A1 n c1, rsV ⟨0, 0, 0, cap⟩]) (ret_tmpC (g := w.heap.size + 1) rfl rfl (rsl_load (r := ⟨0, 0, 0, cap⟩) (put4 HX1.out)) rfl) rfl ?_
  exact ⟨A1, c1, n, by rw [HS.out, HN.out], by rw [HS.out], by rw [HS.out]; exact own_put4 (own_lower HO1.out HBX.out.size) HX1.out (by decide), below4 (HBX.out.trans (HB1.out.mono HBX.out.size)) (by omega)⟩
 have hno : (¬ q.kind = 8 /\ ¬ q.kind = 9 /\ ¬ q.kind = 5 /\ ¬ q.kind = 6) -> Calls Tryz.prog 164 #[.slice A li.length c0, .int .i64 cap, reqV q] w (RetStep R w) := by
  intro hyp
  have HS : Hid (R = (li, 1, 0)) := Zd (by rw [HVS.out]; rw [if_neg hyp.1, if_neg hyp.2.1, if_neg hyp.2.2.1, if_neg hyp.2.2.2])
  clear HVS
  have e8 : (q.kind == 8) = false := by simp [hyp.1]
  have e9 : (q.kind == 9) = false := by simp [hyp.2.1]
  have e5 : (q.kind == 5) = false := by simp [hyp.2.2.1]
  have e6 : (q.kind == 6) = false := by simp [hyp.2.2.2]
  unfold reqV
  generalize hn : li.length = n at *
  have HN := Zd hn
  clear hn hyp
  go_enter Tryz.func164, Tryz.ntmps164
  go_upto_region 1 with fail
  generalize ((w.alloc (.cells #[.int .i64 q.kind, .int .i64 q.arg, .int .i64 q.value, .bool q.dflt, .slice q.A q.n q.c] 40)).alloc (.cells #[.int .i64 0, .int .i64 0, .int .i64 0, .int .i64 0] 42)) = W0 at *
  obtain ⟨q0, q1, q2, q3, q4⟩ := reqBox (q := q) HY0.out
  go_wp2_with (refine (HCI.out _ HBX.out).mono ?_
               rintro er w1 ⟨A1, c1, rfl, how1, hb1⟩
               have HO1 := Zd how1
               have HB1 := Zd hb1
               have HR1 := Zd (HY0.out.below hb1 HY0.out.lt)
               have HX1 := Zd (HY1.out.below hb1 HY1.out.lt)
               obtain ⟨q0, q1, q2, q3, q4⟩ := reqBox (q := q) HR1.out
               have e0 := HX1.out.cell (i := 0) rfl
               have ze0 := HX1.out.frozen 0
               have e1 := HX1.out.cell (i := 1) rfl
               have ze1 := HX1.out.frozen 1
               have e2 := HX1.out.cell (i := 2) rfl
               have ze2 := HX1.out.frozen 2
               have e3 := HX1.out.cell (i := 3) rfl
               have ze3 := HX1.out.frozen 3
               clear how1 hb1)
  refine bodyPost_ret (v := .tuple #[.slice A1 n c1, rsV ⟨0, 0, 1, 0⟩]) (ret_tmpC (g := w.heap.size + 1) rfl rfl (rsl_load (r := ⟨0, 0, 1, 0⟩) (put4 HX1.out)) rfl) rfl ?_
  exact ⟨A1, c1, n, by rw [HS.out, HN.out], by rw [HS.out], by rw [HS.out]; exact own_put4 (own_lower HO1.out HBX.out.size) HX1.out (by decide), below4 (HBX.out.trans (HB1.out.mono HBX.out.size)) (by omega)⟩
 have hput : (q.kind = 8 /\ (li.length : Int) < cap) -> Calls Tryz.prog 164 #[.slice A li.length c0, .int .i64 cap, reqV q] w (RetStep R w) := by
  intro hyp
  have HS : Hid (R = (li ++ [q.value], 0, 0)) := Zd (by rw [HVS.out]; rw [if_pos hyp.1, if_pos hyp.2])
  clear HVS
  have e8 : (q.kind == 8) = true := by simp [hyp.1]
  have hge := hyp.2
  unfold reqV
  generalize hn : li.length = n at *
  have HN := Zd hn
  clear hn hyp
  have HNB := Zd hl
  clear hl
  go_enter Tryz.func164, Tryz.ntmps164
  go_upto_region 1 with fail
  generalize ((w.alloc (.cells #[.int .i64 q.kind, .int .i64 q.arg, .int .i64 q.value, .bool q.dflt, .slice q.A q.n q.c] 40)).alloc (.cells #[.int .i64 0, .int .i64 0, .int .i64 0, .int .i64 0] 42)) = W0 at *
  obtain ⟨q0, q1, q2, q3, q4⟩ := reqBox (q := q) HY0.out
  go_upto_region 3 with fail
  have g0 := HY0.out.lt
  have g1 := HY1.out.lt
  refine wp_region_held_drew (S := fun w' => w'.cell? ⟨w.heap.size, 2, none⟩ = some (.int .i64 q.value)) (by kernel_rfl) (q2) (fun hHeld => ?_)
  refine tkHp 0 (.slice A n c0) rfl hHeld ?_
  refine tkHp 2 (.pointer (some ⟨w.heap.size, 2, none⟩)) rfl hHeld ?_
  refine tkHp 3 (.int .i64 q.value) rfl hHeld ?_
  refine tkHp 6 (.agg #[.int .i64 0, .int .i64 0, .int .i64 0, .int .i64 0]) rfl hHeld ?_
  try simp only [Nrq, Nrs]
  refine wpAnyH_ready (rs := [1, 4]) (by kernel_rfl) (by simp) ?_
  refine AllReadyH.cons rfl (fun K hK => ?_) (AllReadyH.cons rfl (fun K hK => ?_) AllReadyH.nil)
  . rw [if_pos (by rfl)]
    simp only [Nrq]
    go_simp
    refine (HCI.out W0.drew HBX.out.drew).mono ?_
    rintro er w1 ⟨A1, c1, rfl, how1, hb1'⟩
    have hb1 : Below W0.heap.size W0 w1 := ⟨hb1'.os, hb1'.tape, hb1'.output, hb1'.size, hb1'.block⟩
    have HO1 := Zd how1
    have HB1 := Zd hb1
    have HX1 := Zd (HY1.out.below hb1 g1)
    have hs1 := (hb1.cell (p := ⟨w.heap.size, 2, none⟩) g0).trans q2
    clear how1 hb1 hb1'
    go_wp2_with fail
    refine hK.out _ _ hs1 (fun hHeld => ?_)
    clear hK K
    try simp only [Nrq, Nrs]
    refine wpAnyH_ready (rs := [4]) (by kernel_rfl) (by simp) ?_
    refine AllReadyH.cons rfl (fun K hK => ?_) AllReadyH.nil
    rw [if_pos (by rfl)]
    simp only [Nrq]
    go_simp
    have HA := Zd ((Below.refl w1.heap.size w1).alloc (Nat.le_refl _) (.cells #[.int .i64 q.value] 3))
    have HRA : Hid (Rd (w1.alloc (.cells #[.int .i64 q.value] 3)) (some ⟨w1.heap.size, 0, none⟩) (ints [q.value])) := Zd (blk_new (cs := ints [q.value]) rfl).rd
    have HKK := Zd (own_blk_neL HO1.out HX1.out (by decide))
    have hs2 := (HA.out.cell (p := ⟨w.heap.size, 2, none⟩) (Nat.lt_of_lt_of_le g0 HB1.out.size)).trans hs1
    refine hK.out _ _ hs2 (fun hHeld => ?_)
    clear hK K
    try simp only [Nrq, Nrs]
    refine wpAnyH_ready (rs := [5]) (by kernel_rfl) (by simp) ?_
    refine AllReadyH.cons rfl (fun K hK => ?_) AllReadyH.nil
    rw [if_pos (by rfl)]
    simp only [Nrq]
    refine wp_app (.tmp 21) (.tmp 24) 22 3 rfl W0.heap.size (.int .i64 0) 1 8 Tryz.underlying22 int_info rfl (by decide) A1 n c1 (ints li) (by rfl) (own_below HO1.out HA.out) (some ⟨w1.heap.size, 0, none⟩) 1 1 (ints [q.value]) (by rfl) (by simp) rfl (HRA.out) (ints_one _) (n + 1) rfl (ints (li ++ [q.value])) (by simp [ints]) (by have := HNB.out; unfold maxLen; omega) (by have := HNB.out; omega) (by have := HB1.out.size; have := HA.out.size; omega) ?_
    intro A6 d6 w6 hown6 hg6 hb6
    have HX6 := Zd (blk_grown (HX1.out.alloc _) hg6 HKK.out)
    have HO6 := Zd hown6
    have HB6 := Zd ((HB1.out.trans (HA.out.mono HB1.out.size)).trans hb6)
    have s0 := HX6.out.cell (i := 0) rfl
    have z0 := HX6.out.frozen 0
    have s1 := HX6.out.cell (i := 1) rfl
    have z1 := HX6.out.frozen 1
    have s2 := HX6.out.cell (i := 2) rfl
    have z2 := HX6.out.frozen 2
    have s3 := HX6.out.cell (i := 3) rfl
    have z3 := HX6.out.frozen 3
    have hs6 := (HB6.out.cell (p := ⟨w.heap.size, 2, none⟩) g0).trans q2
    clear hown6 hg6 hb6
    refine hK.out _ _ hs6 (fun hHeld => ?_)
    clear hK K
    try simp only [Act.put, List.setIfInBounds_toArray, List.set_cons_zero, List.set_cons_succ]
    refine tkHp 7 (.slice A6 (n + 1) d6) rfl hHeld ?_
    try simp only [Nrq, Nrs]
    refine wpAnyH_ready (rs := [8]) (by kernel_rfl) (by simp) ?_
    refine AllReadyH.cons rfl (fun K hK => ?_) AllReadyH.nil
    rw [if_pos (by rfl)]
    go_simp
    refine hK.out _ _ (((below4 (Below.refl (w.heap.size + 1) w6) (Nat.le_refl _)).cell (p := ⟨w.heap.size, 2, none⟩) (by simp)).trans hs6) (fun hHeld => ?_)
    clear hK K
    clear hHeld
    refine wpAnyH_done (by kernel_rfl) ?_ _
    go_wp2_with fail
    refine bodyPost_ret (v := .tuple #[.slice A6 (n + 1) d6, rsV ⟨0, 0, 0, 0⟩]) (ret_tmpC (g := w.heap.size + 1) rfl rfl (rsl_load (r := ⟨0, 0, 0, 0⟩) (put4 HX6.out)) rfl) rfl ?_
    exact ⟨A6, d6, n + 1, by rw [HS.out]; simp [HN.out], by rw [HS.out], by rw [HS.out]; exact own_put4 (own_lower HO6.out HBX.out.size) HX6.out (by decide), below4 (HBX.out.trans (HB6.out.mono HBX.out.size)) (by omega)⟩
  . rw [if_pos (by rfl)]
    simp only [Nrq]
    go_simp
    have HA := Zd ((Below.refl W0.heap.size W0).alloc (Nat.le_refl _) (.cells #[.int .i64 q.value] 3))
    have HRA0 : Hid (Blk (W0.alloc (.cells #[.int .i64 q.value] 3)) W0.heap.size 3 (ints [q.value])) := Zd (blk_new rfl)
    have hs2 := (HA.out.drew.cell (p := ⟨w.heap.size, 2, none⟩) g0).trans q2
    refine hK.out _ _ hs2 (fun hHeld => ?_)
    clear hK K
    try simp only [Nrq, Nrs]
    refine wpAnyH_ready (rs := [1]) (by kernel_rfl) (by simp) ?_
    refine AllReadyH.cons rfl (fun K hK => ?_) AllReadyH.nil
    rw [if_pos (by rfl)]
    simp only [Nrq]
    go_simp
    refine (HCI.out (W0.alloc (.cells #[.int .i64 q.value] 3)).drew (HBX.out.trans (HA.out.drew.mono HBX.out.size))).mono ?_
    rintro er w1 ⟨A1, c1, rfl, how1, hb1'⟩
    have hb1 : Below (W0.alloc (.cells #[.int .i64 q.value] 3)).heap.size (W0.alloc (.cells #[.int .i64 q.value] 3)) w1 := ⟨hb1'.os, hb1'.tape, hb1'.output, hb1'.size, hb1'.block⟩
    have HO1 := Zd how1
    have HB1 := Zd (btr HA.out hb1)
    have HX1 := Zd ((HY1.out.alloc (.cells #[.int .i64 q.value] 3)).below hb1 (HY1.out.alloc _).lt)
    have HRA := Zd ((HRA0.out.below hb1 HRA0.out.lt).rd)
    have HKK := Zd (own_blk_neL HO1.out HX1.out (by decide))
    have hs1 := (HB1.out.cell (p := ⟨w.heap.size, 2, none⟩) g0).trans q2
    clear how1 hb1 hb1'
    go_wp2_with fail
    refine hK.out _ _ hs1 (fun hHeld => ?_)
    clear hK K
    try simp only [Nrq, Nrs]
    refine wpAnyH_ready (rs := [5]) (by kernel_rfl) (by simp) ?_
    refine AllReadyH.cons rfl (fun K hK => ?_) AllReadyH.nil
    rw [if_pos (by rfl)]
    simp only [Nrq]
    refine wp_app (.tmp 21) (.tmp 24) 22 3 rfl W0.heap.size (.int .i64 0) 1 8 Tryz.underlying22 int_info rfl (by decide) A1 n c1 (ints li) (by rfl) (own_lower HO1.out HA.out.size) (some ⟨W0.heap.size, 0, none⟩) 1 1 (ints [q.value]) (by rfl) (by simp) rfl (HRA.out) (ints_one _) (n + 1) rfl (ints (li ++ [q.value])) (by simp [ints]) (by have := HNB.out; unfold maxLen; omega) (by have := HNB.out; omega) (by have := HB1.out.size; omega) ?_
    intro A6 d6 w6 hown6 hg6 hb6
    have HX6 := Zd (blk_grown (HX1.out) hg6 HKK.out)
    have HO6 := Zd hown6
    have HB6 := Zd ((HB1.out).trans hb6)
    have s0 := HX6.out.cell (i := 0) rfl
    have z0 := HX6.out.frozen 0
    have s1 := HX6.out.cell (i := 1) rfl
    have z1 := HX6.out.frozen 1
    have s2 := HX6.out.cell (i := 2) rfl
    have z2 := HX6.out.frozen 2
    have s3 := HX6.out.cell (i := 3) rfl
    have z3 := HX6.out.frozen 3
    have hs6 := (HB6.out.cell (p := ⟨w.heap.size, 2, none⟩) g0).trans q2
    clear hown6 hg6 hb6
    refine hK.out _ _ hs6 (fun hHeld => ?_)
    clear hK K
    try simp only [Act.put, List.setIfInBounds_toArray, List.set_cons_zero, List.set_cons_succ]
    refine tkHp 7 (.slice A6 (n + 1) d6) rfl hHeld ?_
    try simp only [Nrq, Nrs]
    refine wpAnyH_ready (rs := [8]) (by kernel_rfl) (by simp) ?_
    refine AllReadyH.cons rfl (fun K hK => ?_) AllReadyH.nil
    rw [if_pos (by rfl)]
    go_simp
    refine hK.out _ _ (((below4 (Below.refl (w.heap.size + 1) w6) (Nat.le_refl _)).cell (p := ⟨w.heap.size, 2, none⟩) (by simp)).trans hs6) (fun hHeld => ?_)
    clear hK K
    clear hHeld
    refine wpAnyH_done (by kernel_rfl) ?_ _
    go_wp2_with fail
    refine bodyPost_ret (v := .tuple #[.slice A6 (n + 1) d6, rsV ⟨0, 0, 0, 0⟩]) (ret_tmpC (g := w.heap.size + 1) rfl rfl (rsl_load (r := ⟨0, 0, 0, 0⟩) (put4 HX6.out)) rfl) rfl ?_
    exact ⟨A6, d6, n + 1, by rw [HS.out]; simp [HN.out], by rw [HS.out], by rw [HS.out]; exact own_put4 (own_lower HO6.out HBX.out.size) HX6.out (by decide), below4 (HBX.out.trans (HB6.out.mono HBX.out.size)) (by omega)⟩
 have htake : (q.kind = 9 /\ ¬ li.length = 0) -> Calls Tryz.prog 164 #[.slice A li.length c0, .int .i64 cap, reqV q] w (RetStep R w) := by
  intro hyp
  have HS : Hid (R = (li.take (li.length - 1), 0, li.getD (li.length - 1) 0)) := Zd (by rw [HVS.out]; rw [if_neg (by rw [hyp.1]; decide), if_pos hyp.1, if_neg hyp.2])
  clear HVS
  have e9 : (q.kind == 9) = true := by simp [hyp.1]
  have e8 : (q.kind == 8) = false := by simp [hyp.1]
  have hne := hyp.2
  obtain ⟨m, hm⟩ : ∃ m, li.length = m + 1 := ⟨li.length - 1, by omega⟩
  obtain ⟨b, o, hA, hbl, hcN⟩ := HR.out.at_ (by rw [ints_length]; omega)
  have hx := hcN m _ (ints_at (l := li) (k := m) (by omega))
  have HCL := Zd (fun W (hb : Below w.heap.size w W) => CloneI_any A m c0 (ints (li.take m)) W (by omega) (by rw [ints_length, List.length_take]; omega) (ints_one _) (by
   rw [hA]
   refine .inr ⟨b, o, rfl, Nat.lt_of_lt_of_le hbl hb.size, fun k v hk => ?_⟩
   rw [hb.cell (p := ⟨b, o + k, none⟩) hbl]
   refine hcN k v ?_
   simp only [ints, List.map_take] at hk
   rw [List.getElem?_take] at hk
   split at hk
   . exact hk
   . cases hk))
  rw [show li.length - 1 = m by omega] at HS
  have HTL : Hid ((li.take m).length = m) := Zd (by rw [List.length_take]; omega)
  have HML := Zd (show m + 1 <= c0 by omega)
  clear hcap hyp hcN HR
  unfold reqV
  generalize hn : li.length = n at *
  have HNB := Zd hl
  have hmn : (n : Int) - 1 = (m : Int) := by omega
  have hmw : IntKind.i64.wrap (m : Int) = (m : Int) := IntWalk.i64_in _ (by omega)
  have hpos : (0 : Int) < (n : Int) := by omega
  have hpos2 : 0 < n := by omega
  have hm2 : (m : Int) < (n : Int) := by omega
  have hm3 : (0 : Int) <= (m : Int) := by omega
  have hm4 : m <= c0 := by have := HML.out; omega
  have hm5 : m < n := by omega
  generalize li.take m = lt at *
  generalize li.getD m 0 = v at *
  have hm6 : (m : Int) <= (c0 : Int) := by omega
  have nb1 := Nat.ne_of_lt hbl
  subst hA
  clear hn hne hl hm
  go_enter Tryz.func164, Tryz.ntmps164
  go_upto_region 1 with fail
  have hx0 : ((w.alloc (.cells #[.int .i64 q.kind, .int .i64 q.arg, .int .i64 q.value, .bool q.dflt, .slice q.A q.n q.c] 40)).alloc (.cells #[.int .i64 0, .int .i64 0, .int .i64 0, .int .i64 0] 42)).cell? ⟨b, o + m, none⟩ = some (.int .i64 v) := by rw [HBX.out.cell (p := ⟨b, o + m, none⟩) hbl]; exact hx
  generalize ((w.alloc (.cells #[.int .i64 q.kind, .int .i64 q.arg, .int .i64 q.value, .bool q.dflt, .slice q.A q.n q.c] 40)).alloc (.cells #[.int .i64 0, .int .i64 0, .int .i64 0, .int .i64 0] 42)) = W0 at *
  obtain ⟨q0, q1, q2, q3, q4⟩ := reqBox (q := q) HY0.out
  go_upto_region 5 with fail
  have g0 := HY0.out.lt
  have g1 := HY1.out.lt
  have g2 : b < W0.heap.size := Nat.lt_of_lt_of_le hbl HBX.out.size
  have nb2 : w.heap.size + 1 ≠ b := by omega
  have nb2' := nb2.symm
  refine wp_region_held_drew (S := fun w' => w'.cell? ⟨b, o + m, none⟩ = some (.int .i64 v)) (by kernel_rfl) (hx0) (fun hHeld => ?_)
  refine tkHp 0 (.slice (some ⟨b, o, none⟩) n c0) rfl hHeld ?_
  refine tkHp 1 (.int .i64 (n : Int)) rfl hHeld ?_
  refine tkHp 2 (.int .i64 (m : Int)) rfl hHeld ?_
  refine tkHp 3 (.slice (some ⟨b, o, none⟩) m c0) rfl hHeld ?_
  refine tkHp 5 (.slice (some ⟨b, o, none⟩) n c0) rfl hHeld ?_
  refine tkHp 6 (.int .i64 (n : Int)) rfl hHeld ?_
  refine tkHp 7 (.int .i64 (m : Int)) rfl hHeld ?_
  refine tkHp 8 (.pointer (some ⟨b, o + m, none⟩)) rfl hHeld ?_
  refine tkHp 9 (.int .i64 v) rfl hHeld ?_
  refine tkHp 10 (.agg #[.int .i64 0, .int .i64 0, .int .i64 0, .int .i64 v]) rfl hHeld ?_
  try simp only [Nrq, Nrs]
  refine wpAnyH_ready (rs := [4]) (by kernel_rfl) (by simp) ?_
  refine AllReadyH.cons rfl (fun K hK => ?_) AllReadyH.nil
  rw [if_pos (by rfl)]
  simp only [Nrq]
  go_simp
  refine (HCL.out W0.drew HBX.out.drew).mono ?_
  rintro er w1 ⟨A1, c1, rfl, how1, hb1'⟩
  have hb1 : Below W0.heap.size W0 w1 := ⟨hb1'.os, hb1'.tape, hb1'.output, hb1'.size, hb1'.block⟩
  have HO1 := Zd how1
  have HB1 := Zd hb1
  have HX1 := Zd (HY1.out.below hb1 g1)
  have hs1 := (hb1.cell (p := ⟨b, o + m, none⟩) g2).trans hx0
  have e0 := HX1.out.cell (i := 0) rfl
  have ze0 := HX1.out.frozen 0
  have e1 := HX1.out.cell (i := 1) rfl
  have ze1 := HX1.out.frozen 1
  have e2 := HX1.out.cell (i := 2) rfl
  have ze2 := HX1.out.frozen 2
  have e3 := HX1.out.cell (i := 3) rfl
  have ze3 := HX1.out.frozen 3
  clear how1 hb1 hb1'
  go_wp2_with fail
  refine hK.out _ _ hs1 (fun hHeld => ?_)
  clear hK K
  try simp only [Nrq, Nrs]
  refine tkHp 11 (.slice A1 m c1) rfl hHeld ?_
  try simp only [Nrq, Nrs]
  refine wpAnyH_ready (rs := [12]) (by kernel_rfl) (by simp) ?_
  refine AllReadyH.cons rfl (fun K hK => ?_) AllReadyH.nil
  rw [if_pos (by rfl)]
  go_simp
  refine hK.out _ _ (((below4 (Below.refl (w.heap.size + 1) w1) (Nat.le_refl _)).cell (p := ⟨b, o + m, none⟩) (by simp; omega)).trans hs1) (fun hHeld => ?_)
  clear hK K
  clear hHeld
  refine wpAnyH_done (by kernel_rfl) ?_ _
  go_wp2_with fail
  refine bodyPost_ret (v := .tuple #[.slice A1 m c1, rsV ⟨0, 0, 0, v⟩]) (ret_tmpC (g := w.heap.size + 1) rfl rfl (rsl_load (r := ⟨0, 0, 0, v⟩) (put4 HX1.out)) rfl) rfl ?_
  exact ⟨A1, c1, m, by rw [HS.out]; exact HTL.out.symm, by rw [HS.out], by rw [HS.out]; exact own_put4 (own_lower HO1.out HBX.out.size) HX1.out (by decide), below4 (HBX.out.trans (HB1.out.mono HBX.out.size)) (by omega)⟩
 by_cases k8 : q.kind = 8
 . by_cases h : (li.length : Int) < cap
   . exact hput ⟨k8, h⟩
   . exact hful ⟨k8, h⟩
 by_cases k9 : q.kind = 9
 . by_cases h : li.length = 0
   . exact hemp ⟨k9, h⟩
   . exact htake ⟨k9, h⟩
 by_cases k5 : q.kind = 5
 . exact hlen k5
 by_cases k6 : q.kind = 6
 . exact hcap6 k6
 exact hno ⟨k8, k9, k5, k6⟩
theorem lApply_any (x : Clr) (t seq : Int) (q : Reqr) (l : List Cse) (w : World) (hx : ClrAt w x) (hxc : x.list.length <= x.lc) :
  Calls Tryz.prog 131 #[clrV x, .int .i64 t, .int .i64 seq, reqV q] w (RetClr (applyC true x.p t seq (q.p l)) w) := by
 obtain ⟨b0, b1, b2, hb3⟩ := box3 w 91 40 91 x.cells q.cells [.int .i64 0, .slice none 0 0, .slice none 0 0]
 have HY0 := Zd b0
 have HY1 := Zd b1
 have HY2 := Zd b2
 have HBX := Zd hb3
 have hfd := hx.fd
 have HST := Zd (fun W (hb : Below w.heap.size w W) => lStep_any x.LA x.lc x.list x.cap q l W (hx.rl.below hb) hx.fl hxc)
 have HCR := Zd (fun W (hb : Below w.heap.size w W) => CloneRs_any x.DA x.done.length x.dc (rows x.done) W (by omega) (by rw [rows_length]; rfl) (rows_one _) (hx.rd.below hb))
 have HVL : Hid ((applyC true x.p t seq (q.p l)) = ⟨x.cap, (stpC true x.cap x.list (q.p l)).1, setR x.done t ⟨seq, 0, (stpC true x.cap x.list (q.p l)).2.1, (stpC true x.cap x.list (q.p l)).2.2⟩⟩) := Zd rfl
 generalize stpC true x.cap x.list (q.p l) = S at *
 generalize applyC true x.p t seq (q.p l) = G at *
 clear b0 b1 b2 hb3 hx
 obtain ⟨cap, LA, lc, li, DA, dc, dn⟩ := x
 simp only [Clr.cells, Reqr.cells] at HST HCR HVL hfd HY0 HY1 HY2 HBX hxc
 unfold clrV reqV
 unfold reqV at HST
 simp only
 generalize hll : li.length = ln at *
 generalize hdl : dn.length = dl at *
 have HDL := Zd hdl
 obtain ⟨sl, sc, sv⟩ := S
 simp only at HVL
 clear hdl hxc hll
 go_enter Tryz.func131, Tryz.ntmps131
 go_upto_region 1 with fail
 generalize (((w.alloc (.cells #[.int .i64 cap, .slice LA ln lc, .slice DA dl dc] 91)).alloc (.cells #[.int .i64 q.kind, .int .i64 q.arg, .int .i64 q.value, .bool q.dflt, .slice q.A q.n q.c] 40)).alloc (.cells #[.int .i64 0, .slice none 0 0, .slice none 0 0] 91)) = W0 at *
 have y0 := HY0.out.cell (i := 0) rfl
 have y1 := HY0.out.cell (i := 1) rfl
 have y2 := HY0.out.cell (i := 2) rfl
 have g0 := HY0.out.lt
 have g1 := HY1.out.lt
 have g2 := HY2.out.lt
 have HSC : Hid (∀ W', Below W0.heap.size W0 W' -> W'.cell? ⟨w.heap.size, 0, none⟩ = some (.int .i64 cap) /\ W'.cell? ⟨w.heap.size, 2, none⟩ = some (.slice DA dl dc)) := Zd (fun W' hb => ⟨(hb.cell (p := ⟨w.heap.size, 0, none⟩) g0).trans y0, (hb.cell (p := ⟨w.heap.size, 2, none⟩) g0).trans y2⟩)
 refine wp_region_held_drew (S := fun w' => w'.cell? ⟨w.heap.size, 0, none⟩ = some (.int .i64 cap) /\ w'.cell? ⟨w.heap.size, 2, none⟩ = some (.slice DA dl dc)) (by kernel_rfl) (HSC.out _ (Below.refl W0.heap.size W0).drew) (fun hHeld => ?_)
 refine tkHp 0 (.pointer (some ⟨w.heap.size, 0, none⟩)) rfl hHeld ?_
 refine tkH 1 (.int .i64 cap) rfl (Or.inl ⟨by rfl, fun w hSw => by obtain ⟨h1, h2⟩ := hSw; go_simp⟩) hHeld ?_
 refine tkHp 2 (.pointer (some ⟨w.heap.size, 2, none⟩)) rfl hHeld ?_
 refine tkH 3 (.slice DA dl dc) rfl (Or.inl ⟨by rfl, fun w hSw => by obtain ⟨h1, h2⟩ := hSw; go_simp⟩) hHeld ?_
 try simp only [Nrq, Nrs]
 refine wpAnyH_ready (rs := [4, 6]) (by kernel_rfl) (by simp) ?_
 refine AllReadyH.cons rfl (fun K hK => ?_) (AllReadyH.cons rfl (fun K hK => ?_) AllReadyH.nil)
 . rw [if_pos (by rfl)]
   simp only [Nrq]
   go_simp
   refine (HCR.out W0.drew HBX.out.drew).mono ?_
   rintro er w1 ⟨A1, c1, rfl, how1, hb1'⟩
   have hb1 : Below W0.heap.size W0 w1 := ⟨hb1'.os, hb1'.tape, hb1'.output, hb1'.size, hb1'.block⟩
   have HO1 := Zd how1
   have HB1 := Zd hb1
   clear how1 hb1 hb1'
   go_wp2_with fail
   refine hK.out _ _ (HSC.out _ HB1.out) (fun hHeld => ?_)
   clear hK K
   try simp only [Nrq, Nrs]
   refine tkHp 5 (.agg #[.int .i64 cap, .slice none 0 0, .slice A1 dl c1]) rfl hHeld ?_
   try simp only [Nrq, Nrs]
   refine wpAnyH_ready (rs := [6]) (by kernel_rfl) (by simp) ?_
   refine AllReadyH.cons rfl (fun K hK => ?_) AllReadyH.nil
   rw [if_pos (by rfl)]
   go_simp
   have HA := Zd (fun o => (Below.refl w1.heap.size w1).alloc (Nat.le_refl _) o)
   refine hK.out _ _ (HSC.out _ (HB1.out.trans ((HA.out _).mono HB1.out.size))) (fun hHeld => ?_)
   clear hK K
   try simp only [Nrq, Nrs]
   refine wpAnyH_ready (rs := [7]) (by kernel_rfl) (by simp) ?_
   refine AllReadyH.cons rfl (fun K hK => ?_) AllReadyH.nil
   rw [if_pos (by rfl)]
   go_simp
   refine hK.out _ _ (HSC.out _ (HB1.out.trans ((HA.out _).mono HB1.out.size))) (fun hHeld => ?_)
   clear hK K hHeld
   refine wpAnyH_done (by kernel_rfl) ?_ _
   have HBk3 : Hid (Blk (w1.alloc (.cells #[.int .i64 cap, .slice none 0 0, .slice A1 dl c1] 91)) w1.heap.size 91 [.int .i64 cap, .slice none 0 0, .slice A1 dl c1]) := Zd (blk_new rfl)
   have HB3 := Zd (HB1.out.trans ((HA.out (.cells #[.int .i64 cap, .slice none 0 0, .slice A1 dl c1] 91)).mono HB1.out.size))
   have HOD3 : Hid ((w1.alloc (.cells #[.int .i64 cap, .slice none 0 0, .slice A1 dl c1] 91)).ownsRow W0.heap.size 42 4 (.slice A1 dl c1) dl (rows dn)) := Zd (own_below HO1.out (HA.out _))
   have HGB := Zd HB1.out.size
   clear HA
   generalize (w1.alloc (.cells #[.int .i64 cap, .slice none 0 0, .slice A1 dl c1] 91)) = W3 at *
   obtain ⟨gb, hgb⟩ : ∃ gb, gb = w1.heap.size := ⟨_, rfl⟩
   replace HBk3 : Hid (Blk W3 gb 91 [.int .i64 cap, .slice none 0 0, .slice A1 dl c1]) := Zd (by rw [hgb]; exact HBk3.out)
   replace HGB : Hid (W0.heap.size <= gb) := Zd (by rw [hgb]; exact HGB.out)
   rw [<- hgb]
   clear hgb
   clear y0 y1 y2
   have HZ0 := Zd (HY0.out.below HB3.out HY0.out.lt)
   have HZ1 := Zd (HY1.out.below HB3.out HY1.out.lt)
   have HZ2 := Zd (HY2.out.below HB3.out HY2.out.lt)
   have y0 := HZ0.out.cell (i := 0) rfl
   have y1 := HZ0.out.cell (i := 1) rfl
   obtain ⟨q0, q1, q2, q3, q4⟩ := reqBox (q := q) HZ1.out
   go_upto_region 3 with (go_at_call 164
                          refine (HST.out _ (HBX.out.trans (HB3.out.mono HBX.out.size))).mono ?_
                          rintro er w4 ⟨A4, c4, n4, hn4, rfl, how4, hb4⟩
                          obtain rfl : n4 = sl.length := hn4
                          have HB4 := Zd (btr HB3.out hb4)
                          have HK4 := Zd hb4
                          have HO4 := Zd how4
                          clear how4 hb4
                          simp only at HO4)
   have HA5 := Zd ((Below.refl w4.heap.size w4).alloc (Nat.le_refl _) (.cells #[.int .i64 0, .int .i64 0, .int .i64 sc, .int .i64 sv] 42))
   have HR5 : Hid (Blk (w4.alloc (.cells #[.int .i64 0, .int .i64 0, .int .i64 sc, .int .i64 sv] 42)) w4.heap.size 42 [.int .i64 0, .int .i64 0, .int .i64 sc, .int .i64 sv]) := Zd (blk_new rfl)
   have HK5 := Zd (HK4.out.trans (HA5.out.mono HK4.out.size))
   have HBk5 := Zd (HBk3.out.below HK5.out HBk3.out.lt)
   have HOD5 := Zd (own_below HOD3.out HK5.out)
   have HO5 := Zd (own_below HO4.out HA5.out)
   have HB5 := Zd (HB4.out.trans (HA5.out.mono HB4.out.size))
   have hne : gb ≠ w4.heap.size := by have := HBk3.out.lt; have := HK4.out.size; omega
   have hgr : W3.heap.size <= w4.heap.size := HK4.out.size
   clear y0 y1 q0 q1 q2 q3 q4
   generalize w4.alloc (.cells #[.int .i64 0, .int .i64 0, .int .i64 sc, .int .i64 sv] 42) = W5 at *
   generalize w4.heap.size = gr at *
   have s0 := HBk5.out.cell (i := 0) rfl
   have z0 := HBk5.out.frozen 0
   have s1 := HBk5.out.cell (i := 1) rfl
   have z1 := HBk5.out.frozen 1
   have s2 := HBk5.out.cell (i := 2) rfl
   go_upto_region 4 with fail
   have HBk6 := Zd (HBk5.out.set_ 1 (.slice A4 sl.length c4))
   have HR6 := Zd (HR5.out.other (g' := gb) (Ne.symm hne) 1 (.slice A4 sl.length c4))
   have HOD6 := Zd (own_ty HOD5.out HBk5.out (by decide) 1 (.slice A4 sl.length c4))
   have HO6 := Zd (own_ty HO5.out HBk5.out (by decide) 1 (.slice A4 sl.length c4))
   have HB6 := Zd (HB5.out.setCell (p := ⟨gb, 1, none⟩) HGB.out (.slice A4 sl.length c4))
   clear s0 z0 s1 z1 s2
   generalize W5.setCell ⟨gb, 1, none⟩ (.slice A4 sl.length c4) = W6 at *
   have s0 := HBk6.out.cell (i := 0) rfl
   have s1 := HBk6.out.cell (i := 1) rfl
   have s2 := HBk6.out.cell (i := 2) rfl
   have HSZ := Zd (Nat.le_trans HBX.out.size HB6.out.size)
   by_cases ht : 0 <= t /\ t < (dl : Int)
   . obtain ⟨u, rfl⟩ : ∃ u : Nat, t = u := ⟨t.toNat, by omega⟩
     have hul : u < dl := by omega
     have u0 : (0 : Int) <= (u : Int) := by omega
     have u1 : (u : Int) < (dl : Int) := ht.2
     obtain ⟨gd, rfl, hgd1, hgd2⟩ := own_some HOD6.out (by omega)
     have HG : Hid (G = ⟨cap, sl, dn.set u ⟨seq, 0, sc, sv⟩⟩) := Zd (by rw [HVL.out]; unfold setR; rw [if_pos (by unfold inL; rw [HDL.out]; omega), Int.toNat_natCast])
     clear ht
     have r0 := HR6.out.cell (i := 0) rfl
     have r0z := HR6.out.frozen 0
     have r1 := HR6.out.cell (i := 1) rfl
     have r2 := HR6.out.cell (i := 2) rfl
     have r3 := HR6.out.cell (i := 3) rfl
     have hne1 : gd ≠ gr := by have h := own_lt HOD3.out; omega
     have hne2 : gd ≠ gb := by have h := own_blk_neL HOD6.out HBk6.out (by decide); intro e; subst e; exact h rfl
     have hne1' := hne1.symm
     have hne2' := hne2.symm
     have hne' := hne.symm
     obtain ⟨d0, d1, d2, d3⟩ := rsr_cells (k := u) (x := dn.getD u Resr.none) (own_cellAt HOD6.out) (by rw [HDL.out]; exact hul) rfl
     simp only [Nat.zero_add] at d0 d1 d2 d3
     have zd := own_free HOD6.out
     go_upto_region 6 with fail
     have HR7 := Zd (HR6.out.set_ 0 (.int .i64 seq))
     have HBk7 := Zd (HBk6.out.other (g' := gr) hne 0 (.int .i64 seq))
     have HOD7 := Zd (own_far HOD6.out (N := W3.heap.size) (fun k hk => by simp only [Value.ownBlock, Option.some.injEq] at hk; subst hk; exact own_lt HOD3.out) hgr 0 (.int .i64 seq))
     have HO7 := Zd (own_ty HO6.out HR6.out (by decide) 0 (.int .i64 seq))
     have HB7 := Zd (HB6.out.setCell (p := ⟨gr, 0, none⟩) (Nat.le_trans HB3.out.size hgr) (.int .i64 seq))
     clear r0 r0z r1 r2 r3 d0 d1 d2 d3 zd s0 s1 s2
     generalize W6.setCell ⟨gr, 0, none⟩ (.int .i64 seq) = W7 at *
     have r0 := HR7.out.cell (i := 0) rfl
     have r1 := HR7.out.cell (i := 1) rfl
     have r2 := HR7.out.cell (i := 2) rfl
     have r3 := HR7.out.cell (i := 3) rfl
     have s2 := HBk7.out.cell (i := 2) rfl
     obtain ⟨d0, d1, d2, d3⟩ := rsr_cells (k := u) (x := dn.getD u Resr.none) (own_cellAt HOD7.out) (by rw [HDL.out]; exact hul) rfl
     simp only [Nat.zero_add] at d0 d1 d2 d3
     have zd := own_free HOD7.out
     go_upto_region 7 with fail
     have HOD8 : Hid (((((W7.setCell ⟨gd, u * 4, none⟩ (.int .i64 seq)).setCell ⟨gd, u * 4 + 1, none⟩ (.int .i64 0)).setCell ⟨gd, u * 4 + 2, none⟩ (.int .i64 sc)).setCell ⟨gd, u * 4 + 3, none⟩ (.int .i64 sv)).ownsRow W0.heap.size 42 4 (.slice (some ⟨gd, 0, none⟩) dl c1) dl (rows (dn.set u ⟨seq, 0, sc, sv⟩))) := Zd (own_whole HOD7.out HDL.out hul ⟨seq, 0, sc, sv⟩)
     have HBk8 : Hid (Blk ((((W7.setCell ⟨gd, u * 4, none⟩ (.int .i64 seq)).setCell ⟨gd, u * 4 + 1, none⟩ (.int .i64 0)).setCell ⟨gd, u * 4 + 2, none⟩ (.int .i64 sc)).setCell ⟨gd, u * 4 + 3, none⟩ (.int .i64 sv)) gb 91 [.int .i64 cap, .slice A4 sl.length c4, .slice (some ⟨gd, 0, none⟩) dl c1]) := Zd (Blk.sets HBk7.out hne2' (u * 4) (Resr.cells ⟨seq, 0, sc, sv⟩))
     have HO8 : Hid (((((W7.setCell ⟨gd, u * 4, none⟩ (.int .i64 seq)).setCell ⟨gd, u * 4 + 1, none⟩ (.int .i64 0)).setCell ⟨gd, u * 4 + 2, none⟩ (.int .i64 sc)).setCell ⟨gd, u * 4 + 3, none⟩ (.int .i64 sv)).ownsRow W3.heap.size 3 1 (.slice A4 sl.length c4) sl.length (ints sl)) := Zd (own_setsTy (by decide) (Resr.cells ⟨seq, 0, sc, sv⟩) W7 _ (u * 4) HO7.out (own_blk HOD7.out).choose_spec)
     have HB8 : Hid (Below W0.heap.size W0 ((((W7.setCell ⟨gd, u * 4, none⟩ (.int .i64 seq)).setCell ⟨gd, u * 4 + 1, none⟩ (.int .i64 0)).setCell ⟨gd, u * 4 + 2, none⟩ (.int .i64 sc)).setCell ⟨gd, u * 4 + 3, none⟩ (.int .i64 sv))) := Zd (below_setsAt hgd1 (Resr.cells ⟨seq, 0, sc, sv⟩) W7 (u * 4) HB7.out)
     clear r0 r1 r2 r3 d0 d1 d2 d3 zd s2
     generalize ((((W7.setCell ⟨gd, u * 4, none⟩ (.int .i64 seq)).setCell ⟨gd, u * 4 + 1, none⟩ (.int .i64 0)).setCell ⟨gd, u * 4 + 2, none⟩ (.int .i64 sc)).setCell ⟨gd, u * 4 + 3, none⟩ (.int .i64 sv)) = W8 at *
     have s0 := HBk8.out.cell (i := 0) rfl
     have s1 := HBk8.out.cell (i := 1) rfl
     have s2 := HBk8.out.cell (i := 2) rfl
     have HZ := Zd (HY2.out.below HB8.out HY2.out.lt)
     have t0 := HZ.out.cell (i := 0) rfl
     have t0z := HZ.out.frozen 0
     have t1 := HZ.out.cell (i := 1) rfl
     have t1z := HZ.out.frozen 1
     have t2 := HZ.out.cell (i := 2) rfl
     have t2z := HZ.out.frozen 2
     have n1 : gb ≠ w.heap.size + 1 + 1 := by have := HGB.out; omega
     have n1' := n1.symm
     go_wp2_with fail
     refine bodyPost_ret (v := clrV ⟨cap, A4, c4, sl, (some ⟨gd, 0, none⟩), c1, dn.set u ⟨seq, 0, sc, sv⟩⟩) (ret_cell (g := w.heap.size + 1 + 1) rfl rfl (clr_load (x := ⟨cap, A4, c4, sl, (some ⟨gd, 0, none⟩), c1, dn.set u ⟨seq, 0, sc, sv⟩⟩) (put3 HZ.out) (by simp only [Clr.cells, List.length_set, HDL.out]))) rfl ?_
     have HOL := own_put3 (v0 := .int .i64 cap) (v1 := .slice A4 sl.length c4) (v2 := .slice (some ⟨gd, 0, none⟩) dl c1) HO8.out HZ.out (by decide)
     have HOE := own_put3 (v0 := .int .i64 cap) (v1 := .slice A4 sl.length c4) (v2 := .slice (some ⟨gd, 0, none⟩) dl c1) HOD8.out HZ.out (by decide)
     refine ⟨⟨cap, A4, c4, sl, (some ⟨gd, 0, none⟩), c1, dn.set u ⟨seq, 0, sc, sv⟩⟩, rfl, by rw [HG.out]; rfl, ⟨own_lower HOL (Nat.le_trans HBX.out.size HB3.out.size), ?_⟩, below3 (HBX.out.trans (HB8.out.mono HBX.out.size)) (by omega)⟩
     simp only [List.length_set, HDL.out]
     exact own_lower HOE HBX.out.size
   . have HG : Hid (G = ⟨cap, sl, dn⟩) := Zd (by rw [HVL.out]; unfold setR; rw [if_neg (by unfold inL; rw [HDL.out]; omega)])
     by_cases h0 : 0 <= t
     . have h1 : ¬ t < (dl : Int) := fun h => ht ⟨h0, h⟩
       clear ht
       go_upto_region 7 with fail
       have HZ := Zd (HY2.out.below HB6.out HY2.out.lt)
       have t0 := HZ.out.cell (i := 0) rfl
       have t0z := HZ.out.frozen 0
       have t1 := HZ.out.cell (i := 1) rfl
       have t1z := HZ.out.frozen 1
       have t2 := HZ.out.cell (i := 2) rfl
       have t2z := HZ.out.frozen 2
       have n1 : gb ≠ w.heap.size + 1 + 1 := by have := HGB.out; omega
       have n1' := n1.symm
       go_wp2_with fail
       refine bodyPost_ret (v := clrV ⟨cap, A4, c4, sl, A1, c1, dn⟩) (ret_cell (g := w.heap.size + 1 + 1) rfl rfl (clr_load (x := ⟨cap, A4, c4, sl, A1, c1, dn⟩) (put3 HZ.out) (by simp only [Clr.cells, HDL.out]))) rfl ?_
       have HOL := own_put3 (v0 := .int .i64 cap) (v1 := .slice A4 sl.length c4) (v2 := .slice A1 dl c1) HO6.out HZ.out (by decide)
       have HOE := own_put3 (v0 := .int .i64 cap) (v1 := .slice A4 sl.length c4) (v2 := .slice A1 dl c1) HOD6.out HZ.out (by decide)
       refine ⟨⟨cap, A4, c4, sl, A1, c1, dn⟩, rfl, by rw [HG.out]; rfl, ⟨own_lower HOL (Nat.le_trans HBX.out.size HB3.out.size), ?_⟩, below3 (HBX.out.trans (HB6.out.mono HBX.out.size)) (by omega)⟩
       simp only [HDL.out]
       exact own_lower HOE HBX.out.size
     . clear ht
       go_upto_region 7 with fail
       have HZ := Zd (HY2.out.below HB6.out HY2.out.lt)
       have t0 := HZ.out.cell (i := 0) rfl
       have t0z := HZ.out.frozen 0
       have t1 := HZ.out.cell (i := 1) rfl
       have t1z := HZ.out.frozen 1
       have t2 := HZ.out.cell (i := 2) rfl
       have t2z := HZ.out.frozen 2
       have n1 : gb ≠ w.heap.size + 1 + 1 := by have := HGB.out; omega
       have n1' := n1.symm
       go_wp2_with fail
       refine bodyPost_ret (v := clrV ⟨cap, A4, c4, sl, A1, c1, dn⟩) (ret_cell (g := w.heap.size + 1 + 1) rfl rfl (clr_load (x := ⟨cap, A4, c4, sl, A1, c1, dn⟩) (put3 HZ.out) (by simp only [Clr.cells, HDL.out]))) rfl ?_
       have HOL := own_put3 (v0 := .int .i64 cap) (v1 := .slice A4 sl.length c4) (v2 := .slice A1 dl c1) HO6.out HZ.out (by decide)
       have HOE := own_put3 (v0 := .int .i64 cap) (v1 := .slice A4 sl.length c4) (v2 := .slice A1 dl c1) HOD6.out HZ.out (by decide)
       refine ⟨⟨cap, A4, c4, sl, A1, c1, dn⟩, rfl, by rw [HG.out]; rfl, ⟨own_lower HOL (Nat.le_trans HBX.out.size HB3.out.size), ?_⟩, below3 (HBX.out.trans (HB6.out.mono HBX.out.size)) (by omega)⟩
       simp only [HDL.out]
       exact own_lower HOE HBX.out.size
 . rw [if_pos (by rfl)]
   go_simp
   have HA := Zd ((Below.refl W0.heap.size W0).alloc (Nat.le_refl _) (.cells #[.int .i64 0, .slice none 0 0, .slice none 0 0] 91))
   have HBk : Hid (Blk (W0.alloc (.cells #[.int .i64 0, .slice none 0 0, .slice none 0 0] 91)) W0.heap.size 91 [.int .i64 0, .slice none 0 0, .slice none 0 0]) := Zd (blk_new rfl)
   refine hK.out _ _ (HSC.out _ HA.out.drew) (fun hHeld => ?_)
   clear hK K
   try simp only [Nrq, Nrs]
   refine wpAnyH_ready (rs := [4]) (by kernel_rfl) (by simp) ?_
   refine AllReadyH.cons rfl (fun K hK => ?_) AllReadyH.nil
   rw [if_pos (by rfl)]
   simp only [Nrq]
   go_simp
   refine (HCR.out (W0.alloc (.cells #[.int .i64 0, .slice none 0 0, .slice none 0 0] 91)).drew (HBX.out.trans (HA.out.drew.mono HBX.out.size))).mono ?_
   rintro er w1 ⟨A1, c1, rfl, how1, hb1'⟩
   have hb1 : Below (W0.alloc (.cells #[.int .i64 0, .slice none 0 0, .slice none 0 0] 91)).heap.size (W0.alloc (.cells #[.int .i64 0, .slice none 0 0, .slice none 0 0] 91)) w1 := ⟨hb1'.os, hb1'.tape, hb1'.output, hb1'.size, hb1'.block⟩
   have HO1 := Zd (own_lower how1 HA.out.size)
   have HB1 := Zd (btr HA.out hb1)
   have HBk1 := Zd (HBk.out.below hb1 HBk.out.lt)
   clear how1 hb1 hb1'
   go_wp2_with fail
   refine hK.out _ _ (HSC.out _ HB1.out) (fun hHeld => ?_)
   clear hK K
   try simp only [Nrq, Nrs]
   refine tkHp 5 (.agg #[.int .i64 cap, .slice none 0 0, .slice A1 dl c1]) rfl hHeld ?_
   try simp only [Nrq, Nrs]
   refine wpAnyH_ready (rs := [7]) (by kernel_rfl) (by simp) ?_
   refine AllReadyH.cons rfl (fun K hK => ?_) AllReadyH.nil
   rw [if_pos (by rfl)]
   have s0 := HBk1.out.cell (i := 0) rfl
   have z0 := HBk1.out.frozen 0
   have s1 := HBk1.out.cell (i := 1) rfl
   have z1 := HBk1.out.frozen 1
   have s2 := HBk1.out.cell (i := 2) rfl
   have z2 := HBk1.out.frozen 2
   go_simp
   refine hK.out _ _ (HSC.out _ (below3 HB1.out (Nat.le_refl _))) (fun hHeld => ?_)
   clear hK K hHeld
   refine wpAnyH_done (by kernel_rfl) ?_ _
   have HBk3 : Hid (Blk (((w1.setCell ⟨W0.heap.size, 0, none⟩ (.int .i64 cap)).setCell ⟨W0.heap.size, 1, none⟩ (.slice none 0 0)).setCell ⟨W0.heap.size, 2, none⟩ (.slice A1 dl c1)) W0.heap.size 91 [.int .i64 cap, .slice none 0 0, .slice A1 dl c1]) := Zd (put3 HBk1.out)
   have HB3 : Hid (Below W0.heap.size W0 (((w1.setCell ⟨W0.heap.size, 0, none⟩ (.int .i64 cap)).setCell ⟨W0.heap.size, 1, none⟩ (.slice none 0 0)).setCell ⟨W0.heap.size, 2, none⟩ (.slice A1 dl c1))) := Zd (below3 HB1.out (Nat.le_refl _))
   have HOD3 : Hid ((((w1.setCell ⟨W0.heap.size, 0, none⟩ (.int .i64 cap)).setCell ⟨W0.heap.size, 1, none⟩ (.slice none 0 0)).setCell ⟨W0.heap.size, 2, none⟩ (.slice A1 dl c1)).ownsRow W0.heap.size 42 4 (.slice A1 dl c1) dl (rows dn)) := Zd (own_put3 HO1.out HBk1.out (by decide))
   have HGB := Zd (Nat.le_refl W0.heap.size)
   clear s0 z0 s1 z1 s2 z2 HBk HBk1
   generalize (((w1.setCell ⟨W0.heap.size, 0, none⟩ (.int .i64 cap)).setCell ⟨W0.heap.size, 1, none⟩ (.slice none 0 0)).setCell ⟨W0.heap.size, 2, none⟩ (.slice A1 dl c1)) = W3 at *
   obtain ⟨gb, hgb⟩ : ∃ gb, gb = W0.heap.size := ⟨_, rfl⟩
   replace HBk3 : Hid (Blk W3 gb 91 [.int .i64 cap, .slice none 0 0, .slice A1 dl c1]) := Zd (by rw [hgb]; exact HBk3.out)
   replace HGB : Hid (W0.heap.size <= gb) := Zd (by rw [hgb]; exact HGB.out)
   rw [<- hgb]
   clear hgb
   clear y0 y1 y2
   have HZ0 := Zd (HY0.out.below HB3.out HY0.out.lt)
   have HZ1 := Zd (HY1.out.below HB3.out HY1.out.lt)
   have HZ2 := Zd (HY2.out.below HB3.out HY2.out.lt)
   have y0 := HZ0.out.cell (i := 0) rfl
   have y1 := HZ0.out.cell (i := 1) rfl
   obtain ⟨q0, q1, q2, q3, q4⟩ := reqBox (q := q) HZ1.out
   go_upto_region 3 with (go_at_call 164
                          refine (HST.out _ (HBX.out.trans (HB3.out.mono HBX.out.size))).mono ?_
                          rintro er w4 ⟨A4, c4, n4, hn4, rfl, how4, hb4⟩
                          obtain rfl : n4 = sl.length := hn4
                          have HB4 := Zd (btr HB3.out hb4)
                          have HK4 := Zd hb4
                          have HO4 := Zd how4
                          clear how4 hb4
                          simp only at HO4)
   have HA5 := Zd ((Below.refl w4.heap.size w4).alloc (Nat.le_refl _) (.cells #[.int .i64 0, .int .i64 0, .int .i64 sc, .int .i64 sv] 42))
   have HR5 : Hid (Blk (w4.alloc (.cells #[.int .i64 0, .int .i64 0, .int .i64 sc, .int .i64 sv] 42)) w4.heap.size 42 [.int .i64 0, .int .i64 0, .int .i64 sc, .int .i64 sv]) := Zd (blk_new rfl)
   have HK5 := Zd (HK4.out.trans (HA5.out.mono HK4.out.size))
   have HBk5 := Zd (HBk3.out.below HK5.out HBk3.out.lt)
   have HOD5 := Zd (own_below HOD3.out HK5.out)
   have HO5 := Zd (own_below HO4.out HA5.out)
   have HB5 := Zd (HB4.out.trans (HA5.out.mono HB4.out.size))
   have hne : gb ≠ w4.heap.size := by have := HBk3.out.lt; have := HK4.out.size; omega
   have hgr : W3.heap.size <= w4.heap.size := HK4.out.size
   clear y0 y1 q0 q1 q2 q3 q4
   generalize w4.alloc (.cells #[.int .i64 0, .int .i64 0, .int .i64 sc, .int .i64 sv] 42) = W5 at *
   generalize w4.heap.size = gr at *
   have s0 := HBk5.out.cell (i := 0) rfl
   have z0 := HBk5.out.frozen 0
   have s1 := HBk5.out.cell (i := 1) rfl
   have z1 := HBk5.out.frozen 1
   have s2 := HBk5.out.cell (i := 2) rfl
   go_upto_region 4 with fail
   have HBk6 := Zd (HBk5.out.set_ 1 (.slice A4 sl.length c4))
   have HR6 := Zd (HR5.out.other (g' := gb) (Ne.symm hne) 1 (.slice A4 sl.length c4))
   have HOD6 := Zd (own_ty HOD5.out HBk5.out (by decide) 1 (.slice A4 sl.length c4))
   have HO6 := Zd (own_ty HO5.out HBk5.out (by decide) 1 (.slice A4 sl.length c4))
   have HB6 := Zd (HB5.out.setCell (p := ⟨gb, 1, none⟩) HGB.out (.slice A4 sl.length c4))
   clear s0 z0 s1 z1 s2
   generalize W5.setCell ⟨gb, 1, none⟩ (.slice A4 sl.length c4) = W6 at *
   have s0 := HBk6.out.cell (i := 0) rfl
   have s1 := HBk6.out.cell (i := 1) rfl
   have s2 := HBk6.out.cell (i := 2) rfl
   have HSZ := Zd (Nat.le_trans HBX.out.size HB6.out.size)
   by_cases ht : 0 <= t /\ t < (dl : Int)
   . obtain ⟨u, rfl⟩ : ∃ u : Nat, t = u := ⟨t.toNat, by omega⟩
     have hul : u < dl := by omega
     have u0 : (0 : Int) <= (u : Int) := by omega
     have u1 : (u : Int) < (dl : Int) := ht.2
     obtain ⟨gd, rfl, hgd1, hgd2⟩ := own_some HOD6.out (by omega)
     have HG : Hid (G = ⟨cap, sl, dn.set u ⟨seq, 0, sc, sv⟩⟩) := Zd (by rw [HVL.out]; unfold setR; rw [if_pos (by unfold inL; rw [HDL.out]; omega), Int.toNat_natCast])
     clear ht
     have r0 := HR6.out.cell (i := 0) rfl
     have r0z := HR6.out.frozen 0
     have r1 := HR6.out.cell (i := 1) rfl
     have r2 := HR6.out.cell (i := 2) rfl
     have r3 := HR6.out.cell (i := 3) rfl
     have hne1 : gd ≠ gr := by have h := own_lt HOD3.out; omega
     have hne2 : gd ≠ gb := by have h := own_blk_neL HOD6.out HBk6.out (by decide); intro e; subst e; exact h rfl
     have hne1' := hne1.symm
     have hne2' := hne2.symm
     have hne' := hne.symm
     obtain ⟨d0, d1, d2, d3⟩ := rsr_cells (k := u) (x := dn.getD u Resr.none) (own_cellAt HOD6.out) (by rw [HDL.out]; exact hul) rfl
     simp only [Nat.zero_add] at d0 d1 d2 d3
     have zd := own_free HOD6.out
     go_upto_region 6 with fail
     have HR7 := Zd (HR6.out.set_ 0 (.int .i64 seq))
     have HBk7 := Zd (HBk6.out.other (g' := gr) hne 0 (.int .i64 seq))
     have HOD7 := Zd (own_far HOD6.out (N := W3.heap.size) (fun k hk => by simp only [Value.ownBlock, Option.some.injEq] at hk; subst hk; exact own_lt HOD3.out) hgr 0 (.int .i64 seq))
     have HO7 := Zd (own_ty HO6.out HR6.out (by decide) 0 (.int .i64 seq))
     have HB7 := Zd (HB6.out.setCell (p := ⟨gr, 0, none⟩) (Nat.le_trans HB3.out.size hgr) (.int .i64 seq))
     clear r0 r0z r1 r2 r3 d0 d1 d2 d3 zd s0 s1 s2
     generalize W6.setCell ⟨gr, 0, none⟩ (.int .i64 seq) = W7 at *
     have r0 := HR7.out.cell (i := 0) rfl
     have r1 := HR7.out.cell (i := 1) rfl
     have r2 := HR7.out.cell (i := 2) rfl
     have r3 := HR7.out.cell (i := 3) rfl
     have s2 := HBk7.out.cell (i := 2) rfl
     obtain ⟨d0, d1, d2, d3⟩ := rsr_cells (k := u) (x := dn.getD u Resr.none) (own_cellAt HOD7.out) (by rw [HDL.out]; exact hul) rfl
     simp only [Nat.zero_add] at d0 d1 d2 d3
     have zd := own_free HOD7.out
     go_upto_region 7 with fail
     have HOD8 : Hid (((((W7.setCell ⟨gd, u * 4, none⟩ (.int .i64 seq)).setCell ⟨gd, u * 4 + 1, none⟩ (.int .i64 0)).setCell ⟨gd, u * 4 + 2, none⟩ (.int .i64 sc)).setCell ⟨gd, u * 4 + 3, none⟩ (.int .i64 sv)).ownsRow W0.heap.size 42 4 (.slice (some ⟨gd, 0, none⟩) dl c1) dl (rows (dn.set u ⟨seq, 0, sc, sv⟩))) := Zd (own_whole HOD7.out HDL.out hul ⟨seq, 0, sc, sv⟩)
     have HBk8 : Hid (Blk ((((W7.setCell ⟨gd, u * 4, none⟩ (.int .i64 seq)).setCell ⟨gd, u * 4 + 1, none⟩ (.int .i64 0)).setCell ⟨gd, u * 4 + 2, none⟩ (.int .i64 sc)).setCell ⟨gd, u * 4 + 3, none⟩ (.int .i64 sv)) gb 91 [.int .i64 cap, .slice A4 sl.length c4, .slice (some ⟨gd, 0, none⟩) dl c1]) := Zd (Blk.sets HBk7.out hne2' (u * 4) (Resr.cells ⟨seq, 0, sc, sv⟩))
     have HO8 : Hid (((((W7.setCell ⟨gd, u * 4, none⟩ (.int .i64 seq)).setCell ⟨gd, u * 4 + 1, none⟩ (.int .i64 0)).setCell ⟨gd, u * 4 + 2, none⟩ (.int .i64 sc)).setCell ⟨gd, u * 4 + 3, none⟩ (.int .i64 sv)).ownsRow W3.heap.size 3 1 (.slice A4 sl.length c4) sl.length (ints sl)) := Zd (own_setsTy (by decide) (Resr.cells ⟨seq, 0, sc, sv⟩) W7 _ (u * 4) HO7.out (own_blk HOD7.out).choose_spec)
     have HB8 : Hid (Below W0.heap.size W0 ((((W7.setCell ⟨gd, u * 4, none⟩ (.int .i64 seq)).setCell ⟨gd, u * 4 + 1, none⟩ (.int .i64 0)).setCell ⟨gd, u * 4 + 2, none⟩ (.int .i64 sc)).setCell ⟨gd, u * 4 + 3, none⟩ (.int .i64 sv))) := Zd (below_setsAt hgd1 (Resr.cells ⟨seq, 0, sc, sv⟩) W7 (u * 4) HB7.out)
     clear r0 r1 r2 r3 d0 d1 d2 d3 zd s2
     generalize ((((W7.setCell ⟨gd, u * 4, none⟩ (.int .i64 seq)).setCell ⟨gd, u * 4 + 1, none⟩ (.int .i64 0)).setCell ⟨gd, u * 4 + 2, none⟩ (.int .i64 sc)).setCell ⟨gd, u * 4 + 3, none⟩ (.int .i64 sv)) = W8 at *
     have s0 := HBk8.out.cell (i := 0) rfl
     have s1 := HBk8.out.cell (i := 1) rfl
     have s2 := HBk8.out.cell (i := 2) rfl
     have HZ := Zd (HY2.out.below HB8.out HY2.out.lt)
     have t0 := HZ.out.cell (i := 0) rfl
     have t0z := HZ.out.frozen 0
     have t1 := HZ.out.cell (i := 1) rfl
     have t1z := HZ.out.frozen 1
     have t2 := HZ.out.cell (i := 2) rfl
     have t2z := HZ.out.frozen 2
     have n1 : gb ≠ w.heap.size + 1 + 1 := by have := HGB.out; omega
     have n1' := n1.symm
     go_wp2_with fail
     refine bodyPost_ret (v := clrV ⟨cap, A4, c4, sl, (some ⟨gd, 0, none⟩), c1, dn.set u ⟨seq, 0, sc, sv⟩⟩) (ret_cell (g := w.heap.size + 1 + 1) rfl rfl (clr_load (x := ⟨cap, A4, c4, sl, (some ⟨gd, 0, none⟩), c1, dn.set u ⟨seq, 0, sc, sv⟩⟩) (put3 HZ.out) (by simp only [Clr.cells, List.length_set, HDL.out]))) rfl ?_
     have HOL := own_put3 (v0 := .int .i64 cap) (v1 := .slice A4 sl.length c4) (v2 := .slice (some ⟨gd, 0, none⟩) dl c1) HO8.out HZ.out (by decide)
     have HOE := own_put3 (v0 := .int .i64 cap) (v1 := .slice A4 sl.length c4) (v2 := .slice (some ⟨gd, 0, none⟩) dl c1) HOD8.out HZ.out (by decide)
     refine ⟨⟨cap, A4, c4, sl, (some ⟨gd, 0, none⟩), c1, dn.set u ⟨seq, 0, sc, sv⟩⟩, rfl, by rw [HG.out]; rfl, ⟨own_lower HOL (Nat.le_trans HBX.out.size HB3.out.size), ?_⟩, below3 (HBX.out.trans (HB8.out.mono HBX.out.size)) (by omega)⟩
     simp only [List.length_set, HDL.out]
     exact own_lower HOE HBX.out.size
   . have HG : Hid (G = ⟨cap, sl, dn⟩) := Zd (by rw [HVL.out]; unfold setR; rw [if_neg (by unfold inL; rw [HDL.out]; omega)])
     by_cases h0 : 0 <= t
     . have h1 : ¬ t < (dl : Int) := fun h => ht ⟨h0, h⟩
       clear ht
       go_upto_region 7 with fail
       have HZ := Zd (HY2.out.below HB6.out HY2.out.lt)
       have t0 := HZ.out.cell (i := 0) rfl
       have t0z := HZ.out.frozen 0
       have t1 := HZ.out.cell (i := 1) rfl
       have t1z := HZ.out.frozen 1
       have t2 := HZ.out.cell (i := 2) rfl
       have t2z := HZ.out.frozen 2
       have n1 : gb ≠ w.heap.size + 1 + 1 := by have := HGB.out; omega
       have n1' := n1.symm
       go_wp2_with fail
       refine bodyPost_ret (v := clrV ⟨cap, A4, c4, sl, A1, c1, dn⟩) (ret_cell (g := w.heap.size + 1 + 1) rfl rfl (clr_load (x := ⟨cap, A4, c4, sl, A1, c1, dn⟩) (put3 HZ.out) (by simp only [Clr.cells, HDL.out]))) rfl ?_
       have HOL := own_put3 (v0 := .int .i64 cap) (v1 := .slice A4 sl.length c4) (v2 := .slice A1 dl c1) HO6.out HZ.out (by decide)
       have HOE := own_put3 (v0 := .int .i64 cap) (v1 := .slice A4 sl.length c4) (v2 := .slice A1 dl c1) HOD6.out HZ.out (by decide)
       refine ⟨⟨cap, A4, c4, sl, A1, c1, dn⟩, rfl, by rw [HG.out]; rfl, ⟨own_lower HOL (Nat.le_trans HBX.out.size HB3.out.size), ?_⟩, below3 (HBX.out.trans (HB6.out.mono HBX.out.size)) (by omega)⟩
       simp only [HDL.out]
       exact own_lower HOE HBX.out.size
     . clear ht
       go_upto_region 7 with fail
       have HZ := Zd (HY2.out.below HB6.out HY2.out.lt)
       have t0 := HZ.out.cell (i := 0) rfl
       have t0z := HZ.out.frozen 0
       have t1 := HZ.out.cell (i := 1) rfl
       have t1z := HZ.out.frozen 1
       have t2 := HZ.out.cell (i := 2) rfl
       have t2z := HZ.out.frozen 2
       have n1 : gb ≠ w.heap.size + 1 + 1 := by have := HGB.out; omega
       have n1' := n1.symm
       go_wp2_with fail
       refine bodyPost_ret (v := clrV ⟨cap, A4, c4, sl, A1, c1, dn⟩) (ret_cell (g := w.heap.size + 1 + 1) rfl rfl (clr_load (x := ⟨cap, A4, c4, sl, A1, c1, dn⟩) (put3 HZ.out) (by simp only [Clr.cells, HDL.out]))) rfl ?_
       have HOL := own_put3 (v0 := .int .i64 cap) (v1 := .slice A4 sl.length c4) (v2 := .slice A1 dl c1) HO6.out HZ.out (by decide)
       have HOE := own_put3 (v0 := .int .i64 cap) (v1 := .slice A4 sl.length c4) (v2 := .slice A1 dl c1) HOD6.out HZ.out (by decide)
       refine ⟨⟨cap, A4, c4, sl, A1, c1, dn⟩, rfl, by rw [HG.out]; rfl, ⟨own_lower HOL (Nat.le_trans HBX.out.size HB3.out.size), ?_⟩, below3 (HBX.out.trans (HB6.out.mono HBX.out.size)) (by omega)⟩
       simp only [HDL.out]
       exact own_lower HOE HBX.out.size
end Go.Proofs.YtieglgahfeecbaaGreatDoor

/- stopgateref27.Normal, walked. -/
import Derived.Test.YtmllbailfbjoeaaRNormal
namespace Go.Proofs.Ytmllbailfbjoeaa
open Go.RowKit Go.Sort
attribute [local go_sem ↓] Go.wp_at_zero Go.wp_at_succ

/-- Accesses in the one order. -/
def RetRNormal (l : List Acc) (w : World) (e : Ending) (w' : World) : Prop :=
  ∃ os : List Int, Sofar l l.length os ∧ ∃ A c, e = .returned (.slice A (os.map (at_ l)).length c) ∧ Rd w' A (accs (os.map (at_ l))) ∧ Below w.heap.size w w'

set_option maxHeartbeats 8000000 in
set_option maxRecDepth 100000 in
theorem rNormal_any (A : Option Addr) (c : Nat) (l : List Acc) (w : World) (hl : l.length ≤ 1048576) (hR : Rd w A (accs l)) :
    Calls Try.prog 51 #[.slice A l.length c] w (RetRNormal l w) := by
  have HR := Lib.hid hR
  have HLV := Lib.hid (fun W h => rLevels_any A c l W hl h)
  have HLL := Lib.hid (lvs_length l l.length)
  clear hR
  generalize hn : l.length = n at *
  have HN := Lib.hid hn
  clear hn
  go_enter Try.func51, Try.ntmps51
  go_wp2_with fail
  refine (HLV.out _ HR.out).mono ?_
  rintro er w1 ⟨L, cl, rfl, hrd, hb1⟩
  rw [HLL.out]
  have HRL := Lib.hid hrd
  have HB1 := Lib.hid hb1
  clear hrd hb1
  go_wp2
  go_loopg [4, 5, 13] n (fun g v u i wr => ∃ (k : Nat) (os : List Int) (V U : Option Addr) (cv cu : Nat), k ≤ n ∧ g = n - k ∧ i = .int .i64 k ∧ v = .slice V k cv ∧ u = .slice U k cu ∧ Sofar l k os ∧
      wr.ownsRow w1.heap.size 44 7 (.slice V k cv) k (accs (os.map (at_ l))) ∧ wr.ownsRow w1.heap.size 3 1 (.slice U k cu) k (ints (lvAt l os)) ∧ Below w1.heap.size w1 wr)
  case atStart => exact ⟨0, [], none, none, 0, 0, Nat.zero_le _, rfl, rfl, rfl, rfl, ⟨.refl _, .nil⟩, own_nil _ _ _ _, own_nil _ _ _ _, Below.refl _ _⟩
  case round =>
    obtain ⟨i, os, V, U, cv, cu, hi, hgk, rfl, rfl, rfl, hso, hov, hou, hb⟩ := hrel
    have HGK := Lib.hid hgk
    clear hgk
    have HSO := Lib.hid hso
    have HOV := Lib.hid hov
    have HOU := Lib.hid hou
    have HB := Lib.hid hb
    clear hso hov hou hb
    by_cases hlt : i < n
    · have hil : i < l.length := by rw [HN.out]; exact hlt
      obtain ⟨b, o, rfl, hbl, hc⟩ := HR.out.at_ (by rw [accs_length]; omega)
      have hbl1 : b < w1.heap.size := Nat.lt_of_lt_of_le hbl HB1.out.size
      have hcr : ∀ k v, (accs l)[k]? = some v → wr.cell? ⟨b, o + k, none⟩ = some v := fun k v hk => by
        rw [HB.out.cell (p := ⟨b, o + k, none⟩) hbl1, HB1.out.cell (p := ⟨b, o + k, none⟩) hbl]; exact hc k v hk
      generalize hx : l.getD i Acc.none = x
      obtain ⟨c0, c1, c2, c3, c4, c5, c6⟩ := acc_cells hcr hil hx
      have HX := Lib.hid hx
      clear hc hcr hx hil
      have q3 : (0 : Int) ≤ (i : Int) := by omega
      have q4 : (i : Int) < (n : Int) := by omega
      go_wp2
      have hbox : ∀ j v, x.cells[j]? = some v → (wr.alloc (.cells #[.int .i64 x.thread, .int .i64 x.kind, .int .i64 x.addr, .int .u64 x.want, .int .u64 x.old, .int .u64 x.now, .bool x.ok] 44)).cell? ⟨wr.heap.size, j, none⟩ = some v := fun j v hj => by
        rw [World.cell?_alloc_at (hn := rfl), ← hj]; simp [Acc.cells]
      have hbo := HB.out.alloc HB.out.size (.cells #[.int .i64 x.thread, .int .i64 x.kind, .int .i64 x.addr, .int .u64 x.want, .int .u64 x.old, .int .u64 x.now, .bool x.ok] 44)
      have hov := HOV.out.alloc (.cells #[.int .i64 x.thread, .int .i64 x.kind, .int .i64 x.addr, .int .u64 x.want, .int .u64 x.old, .int .u64 x.now, .bool x.ok] 44)
      have hou := HOU.out.alloc (.cells #[.int .i64 x.thread, .int .i64 x.kind, .int .i64 x.addr, .int .u64 x.want, .int .u64 x.old, .int .u64 x.now, .bool x.ok] 44)
      have hsz : wr.heap.size < (wr.alloc (.cells #[.int .i64 x.thread, .int .i64 x.kind, .int .i64 x.addr, .int .u64 x.want, .int .u64 x.old, .int .u64 x.now, .bool x.ok] 44)).heap.size := by simp
      have hgb1 : w1.heap.size ≤ wr.heap.size := HB.out.size
      clear HB HOV HOU c0 c1 c2 c3 c4 c5 c6
      generalize wr.alloc (.cells #[.int .i64 x.thread, .int .i64 x.kind, .int .i64 x.addr, .int .u64 x.want, .int .u64 x.old, .int .u64 x.now, .bool x.ok] 44) = wo at *
      generalize hgb : wr.heap.size = gb at *
      clear hgb
      have HBOX := Lib.hid hbox
      have HBO := Lib.hid hbo
      have HOV := Lib.hid hov
      have HOU := Lib.hid hou
      clear hbox hbo hov hou
      go_loopg [8] i (fun g j wi => ∃ (k d : Nat), k ≤ i ∧ g = k ∧ j = .int .i64 k ∧ wi = wo.drewN d ∧ ∀ q, k ≤ q → q < i → behind l i (os.getD q 0) = true)
      case atStart => exact ⟨i, 0, Nat.le_refl _, rfl, rfl, rfl, fun q h1 h2 => by omega⟩
      case round =>
        obtain ⟨k, d, hk, hgk, rfl, rfl, hbh⟩ := hrel
        have HBH := Lib.hid hbh
        have HGI := Lib.hid hgk
        clear hbh hgk
        have hlen := HSO.out.len
        go_upto_region 8 with (fail)
        go_cut [56] (fun s56 wx => ∃ nq, s56 = .bool (decide (0 < k) && behind l i (os.getD (k - 1) 0)) ∧ wx = (wo.drewN d).drewN nq)
        case first =>
          by_cases hk0 : 0 < k
          · have hki : k - 1 < os.length := by omega
            obtain ⟨gv, rfl, hgv, hgv2⟩ := own_some HOV.out (by omega)
            obtain ⟨gu, rfl, hgu, hgu2⟩ := own_some HOU.out (by omega)
            obtain ⟨_, _, hev, _, hcv⟩ := (own_rd HOV.out).at_ (by rw [accs_length, List.length_map]; omega)
            obtain ⟨_, _, heu, _, hcu⟩ := (own_rd HOU.out).at_ (by rw [ints_length, lvAt, List.length_map]; omega)
            simp only [Option.some.injEq, Addr.mk.injEq, and_true] at hev heu
            obtain ⟨rfl, rfl⟩ := hev
            obtain ⟨rfl, rfl⟩ := heu
            obtain ⟨bL, oL, rfl, hbL, hcL⟩ := HRL.out.at_ (by rw [ints_length, HLL.out]; omega)
            have f1 := (acc_cells hcv (k := k - 1) (by rw [List.length_map]; exact hki) rfl).1
            have f2 := hcu (k - 1) _ (ints_at (by rw [lvAt, List.length_map]; exact hki))
            have f3 := hcL i _ (ints_at (by rw [HLL.out]; exact hlt))
            have f4 := HBOX.out 0 _ rfl
            rw [← HBO.out.cell (p := ⟨bL, oL + i, none⟩) hbL] at f3
            rw [map_getD l os (k - 1) hki] at f1
            have e2 : (lvAt l os).getD (k - 1) 0 = lv l (os.getD (k - 1) 0).toNat := by simp [lvAt, List.getD, hki]
            have e3 : (lvs l n).getD i 0 = lv l i := by rw [lv, HN.out]
            rw [e2] at f2
            rw [e3] at f3
            have hbe : behind l i (os.getD (k - 1) 0) = (decide (lv l i < lv l (os.getD (k - 1) 0).toNat) || (lv l (os.getD (k - 1) 0).toNat == lv l i && decide (x.thread < (at_ l (os.getD (k - 1) 0)).thread))) := by
              rw [behind, ← HX.out]; rfl
            have HBE := Lib.hid hbe
            clear hcv hcu hcL e2 e3 hbe
            generalize lv l (os.getD (k - 1) 0).toNat = y at *
            generalize lv l i = z at *
            generalize (at_ l (os.getD (k - 1) 0)).thread = tp at *
            generalize hxt : x.thread = tx at *
            clear hxt
            simp only [Nat.zero_add] at f1 f2
            have g1 : decide ((0 : Int) < (k : Int)) = true := by simp; omega
            have g2 : IntKind.i64.wrap ((k : Int) - 1) = (k : Int) - 1 := IntWalk.i64_in _ (by omega)
            have g3 : ((k : Int) - 1).toNat = k - 1 := by omega
            have g4 : (1 : Int) ≤ (k : Int) := by omega
            have g5 : (k : Int) - 1 < (i : Int) := by omega
            have g6 : (0 : Int) ≤ (k : Int) - 1 := by omega
            cases t1 : decide (z < y)
            · cases t2 : (y == z)
              · go_quiet (fail)
                go_wp2_with fail
                go_meet
                exact ⟨nq, by rw [HBE.out, t1, t2]; simp, rfl⟩
              · cases t3 : decide (tx < tp)
                · go_quiet (fail)
                  go_wp2_with fail
                  go_meet
                  exact ⟨nq, by rw [HBE.out, t1, t2, t3]; simp, rfl⟩
                · go_quiet (fail)
                  go_wp2_with fail
                  go_meet
                  exact ⟨nq, by rw [HBE.out, t1, t2, t3]; simp [hk0], rfl⟩
            · go_quiet (fail)
              go_wp2_with fail
              go_meet
              exact ⟨nq, by rw [HBE.out, t1]; simp [hk0], rfl⟩
          · have t1 : decide (0 < k) = false := by simpa using hk0
            have HK0 := Lib.hid hk0
            clear hk0
            go_quiet (fail)
            go_wp2_with fail
            go_meet
            exact ⟨nq, by simp [HK0.out], rfl⟩
        case rest =>
          obtain ⟨nq, rfl, rfl⟩ := hcut
          cases hgo : (decide (0 < k) && behind l i (os.getD (k - 1) 0))
          · have HST := Lib.hid hgo
            clear hgo
            go_upto_region 10 with (fail)
            have hV : ((wo.drewN d).drewN nq).ownsRow w1.heap.size 44 7 (.slice V i cv) i (accs (os.map (at_ l))) := HOV.out
            have hU : ((wo.drewN d).drewN nq).ownsRow w1.heap.size 3 1 (.slice U i cu) i (ints (lvAt l os)) := HOU.out
            have hBW : Below w1.heap.size w1 ((wo.drewN d).drewN nq) := ⟨HBO.out.os, HBO.out.tape, HBO.out.output, HBO.out.size, HBO.out.block⟩
            have hbx : ∀ j v, x.cells[j]? = some v → ((wo.drewN d).drewN nq).cell? ⟨gb, j, none⟩ = some v := fun j v hj => HBOX.out j v hj
            have hgW : gb < ((wo.drewN d).drewN nq).heap.size := hsz
            generalize (wo.drewN d).drewN nq = W at *
            have b0 := hbx 0 _ rfl
            have b1 := hbx 1 _ rfl
            have b2 := hbx 2 _ rfl
            have b3 := hbx 3 _ rfl
            have b4 := hbx 4 _ rfl
            have b5 := hbx 5 _ rfl
            have b6 := hbx 6 _ rfl
            have kv : (k : Int) ≤ (cv : Int) := by have := own_le hV; omega
            have ku : (k : Int) ≤ (cu : Int) := by have := own_le hU; omega
            have k0 : (0 : Int) ≤ (k : Int) := by omega
            have ki : (k : Int) ≤ (i : Int) := by omega
            have hll : (accs (os.map (at_ l))).length = i * 7 := by rw [accs_length, List.length_map, hlen]
            have hR1 : Rd W V (accs ((os.map (at_ l)).take k)) ∧ (V = none → k = 0 ∧ cv = 0) ∧ (accs ((os.map (at_ l)).take k)).length = k * 7 ∧ ∀ u ∈ accs ((os.map (at_ l)).take k), u.oneCell' = true :=
              ⟨by rw [← accs_take]; exact rd_take (own_rd hV) _, fun h => by have := own_none hV h; omega, by rw [accs_length, List.length_take, List.length_map]; omega, accs_one _⟩
            have hR2 : Rd W (if cv = k then V else V.map (fun x => x.add (k * 7))) (accs ((os.map (at_ l)).drop k)) ∧ ((if cv = k then V else V.map (fun x => x.add (k * 7))) = none → i - k = 0 ∧ cv - k = 0) ∧ (accs ((os.map (at_ l)).drop k)).length = (i - k) * 7 ∧ ∀ u ∈ accs ((os.map (at_ l)).drop k), u.oneCell' = true :=
              ⟨by rw [← accs_drop]; exact rd_cut (own_rd hV) hll hk (own_le hV), fun h => by have := own_none hV (cut_none h); omega, by rw [accs_length, List.length_drop, List.length_map]; omega, accs_one _⟩
            have HR1 := Lib.hid hR1
            have HR2 := Lib.hid hR2
            have HV := Lib.hid hV
            have HU := Lib.hid hU
            have HBW := Lib.hid hBW
            clear hV hU hBW hbx HOV HOU HBO HBOX hR1 hR2 hll
            go_cut [4] (fun s4 wx => ∃ A3 d3, s4 = .slice A3 (i + 1) d3 ∧ wx.ownsRow W.heap.size 44 7 (.slice A3 (i + 1) d3) (i + 1) (accs ((os.map (at_ l)).take k ++ x :: (os.map (at_ l)).drop k)) ∧ Below W.heap.size W wx)
            case first =>
              go_region_held3 (fun w' => w'.cell? ⟨gb, 0, none⟩ = some (.int .i64 x.thread) ∧ w'.cell? ⟨gb, 1, none⟩ = some (.int .i64 x.kind) ∧ w'.cell? ⟨gb, 2, none⟩ = some (.int .i64 x.addr) ∧ w'.cell? ⟨gb, 3, none⟩ = some (.int .u64 x.want) ∧ w'.cell? ⟨gb, 4, none⟩ = some (.int .u64 x.old) ∧ w'.cell? ⟨gb, 5, none⟩ = some (.int .u64 x.now) ∧ w'.cell? ⟨gb, 6, none⟩ = some (.bool x.ok)) (first | go_keep | (simp only [hkp]; go_keep)) (first
              | (refine step_app ?_ (.tmp 59) (.tmp 62) 41 44 ?_ W.heap.size (accV Acc.none) 7 56 Try.underlying41 CloneA_info ?_ ?_ _ 0 0 [] (by rfl) ?_ V k cv (accs ((os.map (at_ l)).take k)) ?_ HR1.out.2.1 HR1.out.2.2.1 ?_ HR1.out.2.2.2 k ?_ (accs ((os.map (at_ l)).take k)) ?_ ?_ ?_ ?_ ?_; rfl; rfl; rfl; decide; (first | exact own_blank (Blk.drew (blk_new (by simp))) (by simp) | exact own_blank (Blk.drew ((blk_new (by simp)).alloc _)) (by simp)); rfl; (first | exact HR1.out.1.below (below1 _ _) | exact HR1.out.1.below (below2 _ _ _)); omega; simp; (unfold maxLen; omega); omega; (focus (first | (simp; done) | (simp; omega))); intro A1 d1 w3 hown1 hg1 hb1; have hB1 : Below W.heap.size W w3 := (by first | exact (below1 _ _).trans hb1 | exact (below2 _ _ _).trans hb1); have hkp := fun o => hB1.cell (p := ⟨gb, o, none⟩) hgW)
              | (refine step_app ?_ (.tmp 63) (.tmp 65) 41 44 ?_ W.heap.size (accV Acc.none) 7 56 Try.underlying41 CloneA_info ?_ ?_ A1 k d1 (accs ((os.map (at_ l)).take k)) ?_ ?_ _ 1 1 (accs [x]) (by rfl) ?_ ?_ ?_ (accs_one [x]) (k + 1) rfl ((accs ((os.map (at_ l)).take k)) ++ (accs [x])) rfl ?_ ?_ ?_ ?_; rfl; rfl; rfl; decide; rfl; (first | exact hown1 | exact hown1.alloc _); simp; rfl; (first | exact (blk_new (by rfl)).rd | exact (blk_grown (Blk.drew ((blk_new (by simp)).alloc _)) hg1 (by simp [Value.ownBlock])).rd | exact (blk_grown (Blk.drew (blk_new (by simp))) hg1 (by simp [Value.ownBlock])).rd); (unfold maxLen; omega); omega; (focus (first | exact hB1.size | (simp; have := hB1.size; omega))); intro A2 d2 w4 hown2 hg2 hb2; have hB2 : Below W.heap.size W w4 := (by first | exact hB1.trans hb2 | exact (hB1.alloc hB1.size _).trans hb2); have hkp := fun o => hB2.cell (p := ⟨gb, o, none⟩) hgW)
              | (refine step_app ?_ (.tmp 66) (.tmp 69) 41 44 ?_ W.heap.size (accV Acc.none) 7 56 Try.underlying41 CloneA_info ?_ ?_ A2 (k + 1) d2 ((accs ((os.map (at_ l)).take k)) ++ (accs [x])) ?_ hown2 _ (i - k) (cv - k) (accs ((os.map (at_ l)).drop k)) (by rfl) HR2.out.2.1 HR2.out.2.2.1 (HR2.out.1.below hB2) HR2.out.2.2.2 (i + 1) ?_ (accs ((os.map (at_ l)).take k ++ x :: (os.map (at_ l)).drop k)) ?_ ?_ ?_ hB2.size ?_; rfl; rfl; rfl; decide; rfl; omega; simp [accs]; (unfold maxLen; omega); omega; intro A3 d3 w5 hown3 hg3 hb3; have hB3 : Below W.heap.size W w5 := hB2.trans hb3; have hkp := fun o => hB3.cell (p := ⟨gb, o, none⟩) hgW))
              all_goals (go_wp2_with fail)
              all_goals
                go_meet
                exact ⟨A3, d3, rfl, hown3, hB3⟩
            case rest =>
              obtain ⟨V3, dv, rfl, hown3, hB3⟩ := hcut
              go_upto_region 11 with (fail)
              have HV3 := Lib.hid hown3
              have HB3 := Lib.hid hB3
              clear hown3 b0 b1 b2 b3 b4 b5 b6
              have hU := HU.out
              have hll : (ints (lvAt l os)).length = i * 1 := by rw [ints_length, lvAt, List.length_map, hlen]; omega
              have hR1 : Rd W U (ints ((lvAt l os).take k)) ∧ (U = none → k = 0 ∧ cu = 0) ∧ (ints ((lvAt l os).take k)).length = k * 1 ∧ ∀ u ∈ ints ((lvAt l os).take k), u.oneCell' = true :=
                ⟨by rw [← ints_take]; exact rd_take (own_rd hU) _, fun h => by have := own_none hU h; omega, by rw [ints_length, List.length_take, lvAt, List.length_map]; omega, ints_one _⟩
              have hR2 : Rd W (if cu = k then U else U.map (fun x => x.add k)) (ints ((lvAt l os).drop k)) ∧ ((if cu = k then U else U.map (fun x => x.add k)) = none → i - k = 0 ∧ cu - k = 0) ∧ (ints ((lvAt l os).drop k)).length = (i - k) * 1 ∧ ∀ u ∈ ints ((lvAt l os).drop k), u.oneCell' = true :=
                ⟨by have h := rd_cut (own_rd hU) hll hk (own_le hU); rw [ints_drop] at h; simpa only [Nat.mul_one] using h, fun h => by have := own_none hU (cut_none (s := 1) (k := k) (cap := cu) (by simpa only [Nat.mul_one] using h)); omega, by rw [ints_length, List.length_drop, lvAt, List.length_map]; omega, ints_one _⟩
              replace HR1 := Lib.hid (And.intro (hR1.1.below hB3) hR1.2)
              replace HR2 := Lib.hid (And.intro (hR2.1.below hB3) hR2.2)
              obtain ⟨bL, oL, rfl, hbL, hcL⟩ := HRL.out.at_ (by rw [ints_length, HLL.out]; omega)
              have f3 := hcL i _ (ints_at (by rw [HLL.out]; exact hlt))
              rw [← HBW.out.cell (p := ⟨bL, oL + i, none⟩) hbL] at f3
              have hbLW : bL < W.heap.size := Nat.lt_of_lt_of_le hbL HBW.out.size
              rw [← hB3.cell (p := ⟨bL, oL + i, none⟩) hbLW] at f3
              have e3 : (lvs l n).getD i 0 = lv l i := by rw [lv, HN.out]
              rw [e3] at f3
              have hbLc : bL < wc.heap.size := Nat.lt_of_lt_of_le hbLW hB3.size
              clear hcL e3 hR1 hR2 hU hll hB3
              generalize hz : lv l i = z at f3
              have HZ := Lib.hid hz
              clear hz
              go_region_held3 (fun w' => w'.cell? ⟨bL, oL + i, none⟩ = some (.int .i64 z)) (first | go_keep | (simp only [hkp]; go_keep)) (first
              | (refine step_app ?_ (.tmp 71) (.tmp 74) 22 3 ?_ wc.heap.size (.int .i64 0) 1 8 Try.underlying22 int_info ?_ ?_ _ 0 0 [] (by rfl) ?_ U k cu (ints ((lvAt l os).take k)) ?_ HR1.out.2.1 HR1.out.2.2.1 ?_ HR1.out.2.2.2 k ?_ (ints ((lvAt l os).take k)) ?_ ?_ ?_ ?_ ?_; rfl; rfl; rfl; decide; (first | exact own_blank (Blk.drew (blk_new (by simp))) (by simp) | exact own_blank (Blk.drew ((blk_new (by simp)).alloc _)) (by simp)); rfl; (first | exact HR1.out.1.below (below1 _ _) | exact HR1.out.1.below (below2 _ _ _)); omega; simp; (unfold maxLen; omega); omega; (focus (first | (simp; done) | (simp; omega))); intro A1 d1 w3 hown1 hg1 hb1; have hB1 : Below wc.heap.size wc w3 := (by first | exact (below1 _ _).trans hb1 | exact (below2 _ _ _).trans hb1); have hkp := fun o => hB1.cell (p := ⟨bL, o, none⟩) hbLc)
              | (refine step_app ?_ (.tmp 75) (.tmp 80) 22 3 ?_ wc.heap.size (.int .i64 0) 1 8 Try.underlying22 int_info ?_ ?_ A1 k d1 (ints ((lvAt l os).take k)) ?_ ?_ _ 1 1 (ints [z]) (by rfl) ?_ ?_ ?_ (ints_one [z]) (k + 1) rfl ((ints ((lvAt l os).take k)) ++ (ints [z])) rfl ?_ ?_ ?_ ?_; rfl; rfl; rfl; decide; rfl; (first | exact hown1 | exact hown1.alloc _); simp; rfl; (first | exact (blk_new (by rfl)).rd | exact (blk_grown (Blk.drew ((blk_new (by simp)).alloc _)) hg1 (by simp [Value.ownBlock])).rd | exact (blk_grown (Blk.drew (blk_new (by simp))) hg1 (by simp [Value.ownBlock])).rd); (unfold maxLen; omega); omega; (focus (first | exact hB1.size | (simp; have := hB1.size; omega))); intro A2 d2 w4 hown2 hg2 hb2; have hB2 : Below wc.heap.size wc w4 := (by first | exact hB1.trans hb2 | exact (hB1.alloc hB1.size _).trans hb2); have hkp := fun o => hB2.cell (p := ⟨bL, o, none⟩) hbLc)
              | (refine step_app ?_ (.tmp 81) (.tmp 84) 22 3 ?_ wc.heap.size (.int .i64 0) 1 8 Try.underlying22 int_info ?_ ?_ A2 (k + 1) d2 ((ints ((lvAt l os).take k)) ++ (ints [z])) ?_ hown2 _ (i - k) (cu - k) (ints ((lvAt l os).drop k)) (by rfl) HR2.out.2.1 HR2.out.2.2.1 (HR2.out.1.below hB2) HR2.out.2.2.2 (i + 1) ?_ (ints ((lvAt l os).take k ++ z :: (lvAt l os).drop k)) ?_ ?_ ?_ hB2.size ?_; rfl; rfl; rfl; decide; rfl; omega; simp [ints]; (unfold maxLen; omega); omega; intro A3 d3 w5 hown3 hg3 hb3; have hB3 : Below wc.heap.size wc w5 := hB2.trans hb3; have hkp := fun o => hB3.cell (p := ⟨bL, o, none⟩) hbLc))
              all_goals (go_wp2)
              all_goals
                go_roundg (n - (i + 1))
                case measure => rw [HGK.out]; omega
                case rel =>
                  have hlo : w1.heap.size ≤ W.heap.size := HBW.out.size
                  have hlo3 : W.heap.size ≤ wc.heap.size := HB3.out.size
                  refine ⟨i + 1, os.take k ++ (i : Int) :: os.drop k, V3, A3, dv, d3, by omega, rfl, by go_num, rfl, rfl, ?_, ?_, ?_, ?_⟩
                  · refine HSO.out.put (by rw [HN.out]; exact hlt) hk HBH.out ?_
                    have h := HST.out
                    rw [Bool.and_eq_false_iff] at h
                    rcases h with h | h
                    · left; simpa using h
                    · right; exact h
                  · have h := own_below HV3.out hB3
                    rw [show (os.take k ++ (i : Int) :: os.drop k).map (at_ l) = (os.map (at_ l)).take k ++ x :: (os.map (at_ l)).drop k by rw [List.map_append, List.map_cons, List.map_take, List.map_drop, ← HX.out]; rfl]
                    exact own_lower h hlo
                  · rw [show lvAt l (os.take k ++ (i : Int) :: os.drop k) = (lvAt l os).take k ++ z :: (lvAt l os).drop k by unfold lvAt; rw [List.map_append, List.map_cons, List.map_take, List.map_drop, ← HZ.out]; rfl]
                    exact own_lower hown3 (by omega)
                  · exact (HBW.out.trans (HB3.out.mono hlo)).trans (hB3.mono (by omega))
          · have hbt : 0 < k ∧ behind l i (os.getD (k - 1) 0) = true := by simpa using hgo
            obtain ⟨hk1, hbt⟩ := hbt
            have HBT := Lib.hid hbt
            clear hgo hbt
            go_wp2
            go_roundg (k - 1)
            case measure => rw [HGI.out]; omega
            case rel =>
              refine ⟨k - 1, d + nq, by omega, rfl, by go_num, rfl, fun q h1 h2 => ?_⟩
              by_cases hq : q = k - 1
              · rw [hq]; exact HBT.out
              · exact HBH.out q (by omega) h2
    · go_wp2
      go_ret
      obtain rfl : i = n := by omega
      refine ⟨os, by rw [HN.out]; exact HSO.out, V, cv, by simp [HSO.out.len], own_rd HOV.out, HB1.out.trans (HB.out.mono HB1.out.size)⟩

end Go.Proofs.Ytmllbailfbjoeaa

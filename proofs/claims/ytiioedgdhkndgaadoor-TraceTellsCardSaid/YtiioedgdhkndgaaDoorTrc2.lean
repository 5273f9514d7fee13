/- trace.Undo: accesses taken back; the document's Redo and Undo: they answer as the program's do. -/
import Derived.Test.YtiioedgdhkndgaaDoorTrc1
namespace Go.Proofs.YtiioedgdhkndgaaDoor
open Go.RowKit Go.Sort

def backS (ws : List Int) : List Acc → List Int × Int
  | [] => (ws, 0)
  | a :: l => if fitsE ws a a.now = 0 then backS (ws.set a.addr.toNat a.old) l else ([], fitsE ws a a.now)
def undoS (ws : List Int) (l : List Acc) : List Int × Int := backS ws l.reverse

theorem undo_step {ws : List Int} {l : List Acc} {k : Nat} (hk : k < l.length) {x : Acc} (hx : l.getD k Acc.none = x) :
    backS ws (l.take (k + 1)).reverse = if fitsE ws x x.now = 0 then backS (ws.set x.addr.toNat x.old) (l.take k).reverse else ([], fitsE ws x x.now) := by
  simp only [List.getD, List.getElem?_eq_getElem hk, Option.getD_some] at hx
  rw [List.take_succ_eq_append_getElem hk, List.reverse_append, List.reverse_singleton, List.singleton_append, backS, hx]

set_option maxHeartbeats 2000000 in
set_option maxRecDepth 100000 in
theorem Undo_any (A B : Option Addr) (c d : Nat) (ws : List Int) (l : List Acc) (w : World) (hn : ws.length * 8 ≤ 140737488355328) (hl : l.length ≤ maxLen) (hA : Rd w A (words ws)) (hB : Rd w B (accs l)) :
    Calls Tryd.prog 41 #[.slice A ws.length c, .slice B l.length d] w (RetRedo (undoS ws l) w) := by
  unfold maxLen at hl
  have HA := Lib.hid hA
  have HB := Lib.hid hB
  clear hA hB
  generalize hm : ws.length = n at hn ⊢
  generalize hm2 : l.length = m at hl ⊢
  have HN := Lib.hid hm
  have HM := Lib.hid hm2
  clear hm hm2
  go_enter Tryd.func41, Tryd.ntmps41
  go_wp2_with fail
  refine (CloneW_any A n c (words ws) _ hn (by rw [words_length, HN.out]; simp) (words_one ws) HA.out).mono ?_
  rintro e w1 ⟨A1, c1, rfl, hown, hb1⟩
  have HO := Lib.hid hown
  have HB1 := Lib.hid hb1
  clear hown hb1
  go_wp2
  go_loopg [7] (m + 1) (fun g i wr => ∃ (k : Nat) (cur : List Int), g = k + 1 ∧ k ≤ m ∧ i = .int .i64 ((k : Int) - 1) ∧ cur.length = n ∧ undoS ws l = backS cur (l.take k).reverse ∧ wr.ownsRow w.heap.size 62 1 (.slice A1 n c1) n (words cur) ∧ Below w.heap.size w wr)
  case atStart => exact ⟨m, ws, rfl, Nat.le_refl _, rfl, HN.out, by rw [List.take_of_length_le (by rw [HM.out]; omega)]; rfl, HO.out, HB1.out⟩
  case round =>
    obtain ⟨k, cur, hgk, hk, rfl, hcl, hre, hown, hb⟩ := hrel
    have HG := Lib.hid hgk
    clear hgk
    have HCL := Lib.hid hcl
    have HRE := Lib.hid hre
    have HOW := Lib.hid hown
    have HBW := Lib.hid hb
    clear hcl hre hown hb
    by_cases h0 : k = 0
    · subst h0
      rw [show ((0 : Nat) : Int) - 1 = -1 from rfl]
      have HREZ := Lib.hid (show undoS ws l = (cur, 0) from HRE.out)
      clear HRE
      go_wp2
      go_ret2
      unfold RetRedo
      rw [HREZ.out]
      simp only [HCL.out]
      exact ⟨_, _, rfl, own_rd HOW.out, HBW.out⟩
    · obtain ⟨k, rfl⟩ : ∃ j, k = j + 1 := ⟨k - 1, by omega⟩
      rw [show ((k + 1 : Nat) : Int) - 1 = (k : Int) by omega]
      have hkl : k < l.length := by rw [HM.out]; omega
      have q1 : (0 : Int) ≤ (k : Int) := by omega
      have q2 : (k : Int) < (m : Int) := by omega
      clear h0
      obtain ⟨b, o, rfl, hbl, hc⟩ := HB.out.at_ (by rw [accs_length]; omega)
      have hcr : ∀ k v, (accs l)[k]? = some v → wr.cell? ⟨b, o + k, none⟩ = some v := fun k v hk => by
        rw [HBW.out.cell (p := ⟨b, o + k, none⟩) hbl]; exact hc k v hk
      generalize hx : l.getD k Acc.none = x
      obtain ⟨e0, e1, e2, e3, e4, e5, e6⟩ := acc_cells hcr hkl hx
      have hst := undo_step (ws := cur) hkl hx
      rw [← HRE.out] at hst
      have HST := Lib.hid hst
      clear hcr hc hx hkl hst
      have HF : Hid (∀ W, Rd W A1 (words cur) → Calls Tryd.prog 95 #[.slice A1 n c1, accV x, .int .u64 x.now] W fun e w' => e = .returned (.int .i64 (fitsE cur x x.now)) ∧ Below W.heap.size W w') := by
        intro W h
        have := fits_any A1 c1 cur x x.now W (by rw [HCL.out]; unfold maxLen; omega) h
        rwa [HCL.out] at this
      have HRD := Lib.hid (own_rd HOW.out)
      by_cases hf : fitsE cur x x.now = 0
      · rw [hf] at HF
        have HFA := Lib.hid (fits_addr hf)
        rw [HCL.out] at HFA
        obtain ⟨ha0, han⟩ := HFA.out
        rw [hf, if_pos rfl] at HST
        clear hf
        obtain ⟨g, rfl, hbg, hgl, hfz, hset⟩ := own_form HOW.out (by omega)
        have hrd := HRD.out.at_ (by rw [words_length, HCL.out]; omega)
        obtain ⟨g', o', hgo, _, hcc⟩ := hrd
        injection hgo with hgo
        injection hgo with hg1 hg2
        subst hg1 hg2
        have hold := hcc x.addr.toNat _ (words_at (by rw [HCL.out]; omega))
        rw [Nat.zero_add] at hold
        have HSET := Lib.hid (hset x.addr.toNat (.int .u64 x.old) (by omega))
        have HFZ := Lib.hid (hfz x.addr.toNat)
        clear hcc hset hfz
        generalize cur.getD x.addr.toNat 0 = y at hold
        have HOLD := Lib.hid hold
        clear hold
        go_wp2_with (go_at_call 95; refine (HF.out _ (HRD.out.alloc _)).mono ?_; rintro e w2 ⟨rfl, hb2⟩; have z1 := (hb2.cell (p := ⟨g, x.addr.toNat, none⟩) (by simp; omega)).trans ((World.cell?_alloc_lt wr _ ⟨g, x.addr.toNat, none⟩ hgl).trans HOLD.out); have z2 := (hb2.frozen (p := ⟨g, x.addr.toNat, none⟩) (by simp; omega)).trans ((Below.frozen ((Below.refl wr.heap.size wr).alloc (Nat.le_refl _) _) (p := ⟨g, x.addr.toNat, none⟩) hgl).trans HFZ.out); have z3 := (hb2.cell (p := ⟨wr.heap.size, 2, none⟩) (by simp)); simp at z3; have z4 := (hb2.cell (p := ⟨wr.heap.size, 4, none⟩) (by simp)); simp at z4; have HB2 := Lib.hid hb2; clear hb2)
        go_roundg (k + 1)
        case measure => rw [HG.out]; omega
        case rel =>
          have hbx := ((Below.refl wr.heap.size wr).alloc (Nat.le_refl _) _).trans (HB2.out.mono (by simp))
          refine ⟨k, cur.set x.addr.toNat x.old, rfl, by omega, rfl, by simpa using HCL.out, HST.out, ?_, ?_⟩
          · have h := own_form (own_below HOW.out hbx) (by omega)
            obtain ⟨g2, hg2, _, _, _, hs2⟩ := h
            injection hg2 with hg2
            injection hg2 with hg2
            subst hg2
            have h3 := hs2 x.addr.toNat (.int .u64 x.old) (by omega)
            rwa [words_set] at h3
          · exact ((HBW.out.trans (hbx.mono HBW.out.size))).setCell hbg _
      · rw [if_neg hf] at HST
        have hne : (fitsE cur x x.now != 0) = true := by simp [hf]
        clear hf
        go_wp2_with (go_at_call 95; refine (HF.out _ (HRD.out.alloc _)).mono ?_; rintro e w2 ⟨rfl, hb2⟩)
        go_ret2
        have hbx := ((Below.refl wr.heap.size wr).alloc (Nat.le_refl _) _).trans (hb2.mono (by simp))
        unfold RetRedo
        rw [HST.out]
        exact ⟨none, 0, rfl, .inl rfl, HBW.out.trans (hbx.mono HBW.out.size)⟩

set_option maxHeartbeats 4000000 in
set_option maxRecDepth 100000 in
theorem rRedo_any (A B : Option Addr) (c d : Nat) (ws : List Int) (l : List Acc) (w : World) (hn : ws.length * 8 ≤ 140737488355328) (hl : l.length ≤ maxLen) (hA : Rd w A (words ws)) (hA0 : A = none → ws.length = 0 ∧ c = 0) (hB : Rd w B (accs l)) :
    Calls Tryd.prog 40 #[.slice A ws.length c, .slice B l.length d] w (RetRedo (redoS ws l) w) := by
  unfold maxLen at hl
  have HA := Lib.hid hA
  have HB := Lib.hid hB
  have HA0 := Lib.hid hA0
  clear hA hB hA0
  generalize hm : ws.length = n at *
  generalize hm2 : l.length = m at hl ⊢
  have HN := Lib.hid hm
  have HM := Lib.hid hm2
  clear hm hm2
  go_enter Tryd.func40, Tryd.ntmps40
  go_wp2_with (at_builtin; refine wpList_app rfl (.tmp 10) (.tmp 11) 71 62 rfl w.heap.size (.int .u64 0) 1 8 Tryd.underlying71 CloneW_info rfl (by decide) (some ⟨w.heap.size, 0, none⟩) 0 0 [] rfl (own_empty w 62 1) A n c (words ws) rfl HA0.out (by rw [words_length, HN.out]; simp) (HA.out.alloc _) (words_one ws) n (by omega) (words ws) (by simp) (by unfold maxLen; omega) (by omega) (by simp) ?_; intro A1 c1 w1 hown hg hb1)
  have HO := Lib.hid hown
  have HB1 := Lib.hid (((Below.refl w.heap.size w).alloc (Nat.le_refl _) (.cells #[] 62)).trans hb1)
  clear hown hb1 hg
  go_wp2
  go_loopw [15] (fun i wr => ∃ (k : Nat) (cur : List Int), k ≤ m ∧ i = .int .i64 k ∧ cur.length = n ∧ redoS ws l = redoS cur (l.drop k) ∧ wr.ownsRow w.heap.size 62 1 (.slice A1 n c1) n (words cur) ∧ Below w.heap.size w wr) (fun i _ => m - (intOf i).toNat)
  case atStart => exact ⟨0, ws, Nat.zero_le _, rfl, HN.out, by simp, HO.out, HB1.out⟩
  case round =>
    obtain ⟨k, cur, hk, rfl, hcl, hre, hown, hb⟩ := hrel
    have HCL := Lib.hid hcl
    have HRE := Lib.hid hre
    have HOW := Lib.hid hown
    have HBW := Lib.hid hb
    clear hcl hre hown hb
    by_cases hlt : k < m
    · have hkl : k < l.length := by rw [HM.out]; exact hlt
      obtain ⟨b, o, rfl, hbl, hc⟩ := HB.out.at_ (by rw [accs_length]; omega)
      have hcr : ∀ k v, (accs l)[k]? = some v → wr.cell? ⟨b, o + k, none⟩ = some v := fun k v hk => by
        rw [HBW.out.cell (p := ⟨b, o + k, none⟩) hbl]; exact hc k v hk
      generalize hx : l.getD k Acc.none = x
      obtain ⟨e0, e1, e2, e3, e4, e5, e6⟩ := acc_cells hcr hkl hx
      have hst := redo_step (ws := cur) hkl hx
      rw [← HRE.out] at hst
      have HST := Lib.hid hst
      have HF := Lib.hid (fun W h1 h2 => one_any w.heap.size A1 c1 cur x false W (by rw [HCL.out]; unfold maxLen; omega) h1 h2)
      rw [HCL.out, show fromA x false = x.old from rfl] at HF
      have HOL : RowKit.Hid (oneL cur x false = if fitsE cur x x.old = 0 then cur.set x.addr.toNat x.now else cur) := Lib.hid rfl
      clear hcr hc hx hkl hst
      by_cases hf : fitsE cur x x.old = 0
      · rw [hf] at HF
        rw [hf, if_pos rfl] at HST HOL
        clear hf
        go_wp2_with fail
        refine (HF.out _ (by first | exact HOW.out.alloc _ | exact HOW.out) (by first | exact HBW.out.size | (have := HBW.out.size; simp; omega))).mono ?_
        rintro e w2 ⟨rfl, hown2, hb2⟩
        have HO2 := Lib.hid hown2
        have HB2 := Lib.hid (show Below w.heap.size w w2 from (by first | exact HBW.out.trans hb2 | exact (HBW.out.alloc HBW.out.size _).trans hb2))
        clear hown2 hb2
        go_wp2
        go_roundw
        case rel => exact ⟨k + 1, cur.set x.addr.toNat x.now, by omega, by go_num, by simpa using HCL.out, HST.out, by rw [← HOL.out]; exact HO2.out, HB2.out⟩
        case measure => simp [intOf]; omega
      · rw [if_neg hf] at HST
        have hne : (fitsE cur x x.old != 0) = true := by simp [hf]
        clear hf
        go_wp2_with fail
        refine (HF.out _ (by first | exact HOW.out.alloc _ | exact HOW.out) (by first | exact HBW.out.size | (have := HBW.out.size; simp; omega))).mono ?_
        rintro e w2 ⟨rfl, hown2, hb2⟩
        have HB2 := Lib.hid (show Below w.heap.size w w2 from (by first | exact HBW.out.trans hb2 | exact (HBW.out.alloc HBW.out.size _).trans hb2))
        clear hown2 hb2
        go_wp2
        go_ret2
        unfold RetRedo
        rw [HST.out]
        exact ⟨none, 0, rfl, .inl rfl, HB2.out⟩
    · go_wp2
      go_ret2
      have h := HRE.out
      rw [List.drop_of_length_le (by rw [HM.out]; omega), redoS] at h
      unfold RetRedo
      rw [h]
      simp only [HCL.out]
      exact ⟨_, _, rfl, own_rd HOW.out, HBW.out⟩

set_option maxHeartbeats 4000000 in
set_option maxRecDepth 100000 in
theorem rUndo_any (A B : Option Addr) (c d : Nat) (ws : List Int) (l : List Acc) (w : World) (hn : ws.length * 8 ≤ 140737488355328) (hl : l.length ≤ maxLen) (hA : Rd w A (words ws)) (hA0 : A = none → ws.length = 0 ∧ c = 0) (hB : Rd w B (accs l)) :
    Calls Tryd.prog 42 #[.slice A ws.length c, .slice B l.length d] w (RetRedo (undoS ws l) w) := by
  unfold maxLen at hl
  have HA := Lib.hid hA
  have HB := Lib.hid hB
  have HA0 := Lib.hid hA0
  clear hA hB hA0
  generalize hm : ws.length = n at *
  generalize hm2 : l.length = m at hl ⊢
  have HN := Lib.hid hm
  have HM := Lib.hid hm2
  clear hm hm2
  go_enter Tryd.func42, Tryd.ntmps42
  go_wp2_with (at_builtin; refine wpList_app rfl (.tmp 9) (.tmp 10) 71 62 rfl w.heap.size (.int .u64 0) 1 8 Tryd.underlying71 CloneW_info rfl (by decide) (some ⟨w.heap.size, 0, none⟩) 0 0 [] rfl (own_empty w 62 1) A n c (words ws) rfl HA0.out (by rw [words_length, HN.out]; simp) (HA.out.alloc _) (words_one ws) n (by omega) (words ws) (by simp) (by unfold maxLen; omega) (by omega) (by simp) ?_; intro A1 c1 w1 hown hg hb1)
  have HO := Lib.hid hown
  have HB1 := Lib.hid (((Below.refl w.heap.size w).alloc (Nat.le_refl _) (.cells #[] 62)).trans hb1)
  clear hown hb1 hg
  go_wp2
  go_loopw [14] (fun i wr => ∃ (k : Nat) (cur : List Int), k ≤ m ∧ i = .int .i64 k ∧ cur.length = n ∧ undoS ws l = backS cur (l.take (m - k)).reverse ∧ wr.ownsRow w.heap.size 62 1 (.slice A1 n c1) n (words cur) ∧ Below w.heap.size w wr) (fun i _ => m - (intOf i).toNat)
  case atStart => exact ⟨0, ws, Nat.zero_le _, rfl, HN.out, by rw [Nat.sub_zero, List.take_of_length_le (by rw [HM.out]; omega)]; rfl, HO.out, HB1.out⟩
  case round =>
    obtain ⟨k, cur, hk, rfl, hcl, hre, hown, hb⟩ := hrel
    have HCL := Lib.hid hcl
    have HRE := Lib.hid hre
    have HOW := Lib.hid hown
    have HBW := Lib.hid hb
    clear hcl hre hown hb
    by_cases hlt : k < m
    · have hkl : m - (k + 1) < l.length := by rw [HM.out]; omega
      obtain ⟨b, o, rfl, hbl, hc⟩ := HB.out.at_ (by rw [accs_length]; omega)
      have hcr : ∀ k v, (accs l)[k]? = some v → wr.cell? ⟨b, o + k, none⟩ = some v := fun k v hk => by
        rw [HBW.out.cell (p := ⟨b, o + k, none⟩) hbl]; exact hc k v hk
      generalize hx : l.getD (m - (k + 1)) Acc.none = x
      obtain ⟨e0, e1, e2, e3, e4, e5, e6⟩ := acc_cells hcr hkl hx
      have hst := undo_step (ws := cur) hkl hx
      rw [show m - (k + 1) + 1 = m - k by omega, ← HRE.out] at hst
      have HST := Lib.hid hst
      have HF := Lib.hid (fun W h1 h2 => one_any w.heap.size A1 c1 cur x true W (by rw [HCL.out]; unfold maxLen; omega) h1 h2)
      rw [HCL.out, show fromA x true = x.now from rfl] at HF
      have HOL : RowKit.Hid (oneL cur x true = if fitsE cur x x.now = 0 then cur.set x.addr.toNat x.old else cur) := Lib.hid rfl
      clear hcr hc hx hkl hst
      have w1 : IntKind.i64.wrap ((m : Int) - 1) = (m : Int) - 1 := IntWalk.i64_in _ (by omega)
      have w2 : IntKind.i64.wrap ((m : Int) - 1 - (k : Int)) = ((m - (k + 1) : Nat) : Int) := by rw [show (m : Int) - 1 - (k : Int) = ((m - (k + 1) : Nat) : Int) by omega]; exact IntWalk.i64_in _ (by omega)
      have q3 : (0 : Int) ≤ ((m - (k + 1) : Nat) : Int) := by omega
      have q4 : ((m - (k + 1) : Nat) : Int) < (m : Int) := by omega
      have q5 : (m : Int) - 1 - (k : Int) = ((m - (k + 1) : Nat) : Int) := by omega
      by_cases hf : fitsE cur x x.now = 0
      · rw [hf] at HF
        rw [hf, if_pos rfl] at HST HOL
        clear hf
        go_wp2_with fail
        refine (HF.out _ (by first | exact HOW.out.alloc _ | exact HOW.out) (by first | exact HBW.out.size | (have := HBW.out.size; simp; omega))).mono ?_
        rintro e w2 ⟨rfl, hown2, hb2⟩
        have HO2 := Lib.hid hown2
        have HB2 := Lib.hid (show Below w.heap.size w w2 from (by first | exact HBW.out.trans hb2 | exact (HBW.out.alloc HBW.out.size _).trans hb2))
        clear hown2 hb2
        go_wp2
        go_roundw
        case rel => exact ⟨k + 1, cur.set x.addr.toNat x.old, by omega, by go_num, by simpa using HCL.out, by rw [HST.out], by rw [← HOL.out]; exact HO2.out, HB2.out⟩
        case measure => simp [intOf]; omega
      · rw [if_neg hf] at HST
        have hne : (fitsE cur x x.now != 0) = true := by simp [hf]
        clear hf
        go_wp2_with fail
        refine (HF.out _ (by first | exact HOW.out.alloc _ | exact HOW.out) (by first | exact HBW.out.size | (have := HBW.out.size; simp; omega))).mono ?_
        rintro e w2 ⟨rfl, hown2, hb2⟩
        have HB2 := Lib.hid (show Below w.heap.size w w2 from (by first | exact HBW.out.trans hb2 | exact (HBW.out.alloc HBW.out.size _).trans hb2))
        clear hown2 hb2
        go_wp2
        go_ret2
        unfold RetRedo
        rw [HST.out]
        exact ⟨none, 0, rfl, .inl rfl, HB2.out⟩
    · go_wp2
      go_ret2
      have h := HRE.out
      rw [show m - k = 0 by omega, List.take_zero, List.reverse_nil, backS] at h
      unfold RetRedo
      rw [h]
      simp only [HCL.out]
      exact ⟨_, _, rfl, own_rd HOW.out, HBW.out⟩

end Go.Proofs.YtiioedgdhkndgaaDoor

/- trace.Redo: accesses done to words, one by one. -/
import Derived.Test.YtiioedgdhkndgaaDoorRedo
import Derived.Test.YtiioedgdhkndgaaDoorClone
namespace Go.Proofs.YtiioedgdhkndgaaDoor
open Go.RowKit Go.Sort

theorem own_form {w : World} {base : Nat} {e : TypeId} {s n : Nat} {A : Option Addr} {c : Nat} {xs : List Value} (h : w.ownsRow base e s (.slice A n c) n xs) (hn : 0 < n) :
    ∃ g, A = some ⟨g, 0, none⟩ ∧ base ≤ g ∧ g < w.heap.size ∧ (∀ i, w.frozen? ⟨g, i, none⟩ = false) ∧
      ∀ j u, j < n * s → (w.setCell ⟨g, j, none⟩ u).ownsRow base e s (.slice A n c) n (xs.set j u) := by
  rcases h with ⟨h1, ⟨hv, h0⟩ | ⟨g, cap, cur, hv, hg, hh, hnc, hm, hsz, hx⟩⟩
  · omega
  · injection hv with hA hn' hc
    subst hA
    have hlt : g < w.heap.size := by
      rcases Nat.lt_or_ge g w.heap.size with hlt | hge
      · exact hlt
      · rw [Array.getElem?_eq_none hge] at hh; cases hh
    refine ⟨g, rfl, hg, hlt, fun i => by simp [World.frozen?, hh], fun j u hj => ?_⟩
    refine ⟨by simpa using h1, .inr ⟨g, cap, cur.setIfInBounds j u, by rw [hc], hg, ?_, hnc, hm, by simpa using hsz, ?_⟩⟩
    · simp [World.setCell, Array.getElem?_modify, hh]
    · rw [← hx]
      simp only [Array.toList_setIfInBounds]
      rw [List.take_set]

def redoS (ws : List Int) : List Acc → List Int × Int
  | [] => (ws, 0)
  | a :: l => if fitsE ws a a.old = 0 then redoS (ws.set a.addr.toNat a.now) l else ([], fitsE ws a a.old)

theorem fits_addr {ws : List Int} {a : Acc} {x : Int} (h : fitsE ws a x = 0) : 0 ≤ a.addr ∧ a.addr < ws.length := by
  unfold fitsE at h
  grind

theorem redo_step {ws : List Int} {l : List Acc} {k : Nat} (hk : k < l.length) {x : Acc} (hx : l.getD k Acc.none = x) :
    redoS ws (l.drop k) = if fitsE ws x x.old = 0 then redoS (ws.set x.addr.toNat x.now) (l.drop (k + 1)) else ([], fitsE ws x x.old) := by
  rw [List.drop_eq_getElem_cons hk, redoS]
  simp only [List.getD, List.getElem?_eq_getElem hk, Option.getD_some] at hx
  rw [hx]

theorem words_set (l : List Int) (i : Nat) (x : Int) : (words l).set i (.int .u64 x) = words (l.set i x) := by simp [words, List.map_set]
theorem words_one (l : List Int) : ∀ u ∈ words l, u.oneCell' = true := by
  intro u hu; simp only [words, List.mem_map] at hu; obtain ⟨x, _, rfl⟩ := hu; rfl

/-- Words, and a number of an error, handed back. -/
def RetRedo (r : List Int × Int) (w : World) (e : Ending) (w' : World) : Prop :=
  ∃ A c, e = .returned (.tuple #[.slice A r.1.length c, .int .i64 r.2]) ∧ Rd w' A (words r.1) ∧ Below w.heap.size w w'

set_option maxHeartbeats 2000000 in
set_option maxRecDepth 100000 in
theorem Redo_any (A B : Option Addr) (c d : Nat) (ws : List Int) (l : List Acc) (w : World) (hn : ws.length * 8 ≤ 140737488355328) (hl : l.length ≤ maxLen) (hA : Rd w A (words ws)) (hB : Rd w B (accs l)) :
    Calls Tryd.prog 39 #[.slice A ws.length c, .slice B l.length d] w (RetRedo (redoS ws l) w) := by
  unfold maxLen at hl
  have HA := Lib.hid hA
  have HB := Lib.hid hB
  clear hA hB
  generalize hm : ws.length = n at hn ⊢
  generalize hm2 : l.length = m at hl ⊢
  have HN := Lib.hid hm
  have HM := Lib.hid hm2
  clear hm hm2
  go_enter Tryd.func39, Tryd.ntmps39
  go_wp2_with fail
  refine (CloneW_any A n c (words ws) _ hn (by rw [words_length, HN.out]; simp) (words_one ws) HA.out).mono ?_
  rintro e w1 ⟨A1, c1, rfl, hown, hb1⟩
  have HO := Lib.hid hown
  have HB1 := Lib.hid hb1
  clear hown hb1
  go_wp2
  go_loopw [14] (fun i wr => ∃ (k : Nat) (cur : List Int), k ≤ m ∧ i = .int .i64 k ∧ cur.length = n ∧ redoS ws l = redoS cur (l.drop k) ∧ wr.ownsRow w.heap.size 62 1 (.slice A1 n c1) n (words cur) ∧ Below w.heap.size w wr) (fun i _ => m - (intOf i).toNat)
  case atStart => exact ⟨0, ws, Nat.zero_le _, rfl, HN.out, by simp, HO.out, HB1.out⟩
  case round =>
    obtain ⟨k, cur, hk, rfl, hcl, hre, hown, hb⟩ := hrel
    have HCL := Lib.hid hcl
    have HRE := Lib.hid hre
    have HOW := Lib.hid hown
    have HBW := Lib.hid hb
    clear hcl hre hown hb
    by_cases hlt : k < m
    · have hkl : k < l.length := by rw [HM.out]; exact hlt
      obtain ⟨b, o, rfl, hbl, hc⟩ := HB.out.at_ (by rw [accs_length]; omega)
      have hcr : ∀ k v, (accs l)[k]? = some v → wr.cell? ⟨b, o + k, none⟩ = some v := fun k v hk => by
        rw [HBW.out.cell (p := ⟨b, o + k, none⟩) hbl]; exact hc k v hk
      generalize hx : l.getD k Acc.none = x
      obtain ⟨e0, e1, e2, e3, e4, e5, e6⟩ := acc_cells hcr hkl hx
      have hst := redo_step (ws := cur) hkl hx
      rw [← HRE.out] at hst
      have HST := Lib.hid hst
      clear hcr hc hx hkl hst
      have HF : Hid (∀ W, Rd W A1 (words cur) → Calls Tryd.prog 95 #[.slice A1 n c1, accV x, .int .u64 x.old] W fun e w' => e = .returned (.int .i64 (fitsE cur x x.old)) ∧ Below W.heap.size W w') := by
        intro W h
        have := fits_any A1 c1 cur x x.old W (by rw [HCL.out]; unfold maxLen; omega) h
        rwa [HCL.out] at this
      have HRD := Lib.hid (own_rd HOW.out)
      by_cases hf : fitsE cur x x.old = 0
      · rw [hf] at HF
        have HFA := Lib.hid (fits_addr hf)
        rw [HCL.out] at HFA
        obtain ⟨ha0, han⟩ := HFA.out
        rw [hf, if_pos rfl] at HST
        clear hf
        obtain ⟨g, rfl, hbg, hgl, hfz, hset⟩ := own_form HOW.out (by omega)
        have hrd := HRD.out.at_ (by rw [words_length, HCL.out]; omega)
        obtain ⟨g', o', hgo, _, hcc⟩ := hrd
        injection hgo with hgo
        injection hgo with hg1 hg2
        subst hg1 hg2
        have hold := hcc x.addr.toNat _ (words_at (by rw [HCL.out]; omega))
        rw [Nat.zero_add] at hold
        have HSET := Lib.hid (hset x.addr.toNat (.int .u64 x.now) (by omega))
        have HFZ := Lib.hid (hfz x.addr.toNat)
        clear hcc hset hfz
        generalize cur.getD x.addr.toNat 0 = y at hold
        have HOLD := Lib.hid hold
        clear hold
        go_wp2_with (go_at_call 95; refine (HF.out _ (HRD.out.alloc _)).mono ?_; rintro e w2 ⟨rfl, hb2⟩; have z1 := (hb2.cell (p := ⟨g, x.addr.toNat, none⟩) (by simp; omega)).trans ((World.cell?_alloc_lt wr _ ⟨g, x.addr.toNat, none⟩ hgl).trans HOLD.out); have z2 := (hb2.frozen (p := ⟨g, x.addr.toNat, none⟩) (by simp; omega)).trans ((Below.frozen ((Below.refl wr.heap.size wr).alloc (Nat.le_refl _) _) (p := ⟨g, x.addr.toNat, none⟩) hgl).trans HFZ.out); have z3 := (hb2.cell (p := ⟨wr.heap.size, 2, none⟩) (by simp)); simp at z3; have z4 := (hb2.cell (p := ⟨wr.heap.size, 5, none⟩) (by simp)); simp at z4; have HB2 := Lib.hid hb2; clear hb2)
        go_roundw
        case rel =>
          have hbx := ((Below.refl wr.heap.size wr).alloc (Nat.le_refl _) _).trans (HB2.out.mono (by simp))
          refine ⟨k + 1, cur.set x.addr.toNat x.now, by omega, by go_num, by simpa using HCL.out, HST.out, ?_, ?_⟩
          · have h := own_form (own_below HOW.out hbx) (by omega)
            obtain ⟨g2, hg2, _, _, _, hs2⟩ := h
            injection hg2 with hg2
            injection hg2 with hg2
            subst hg2
            have h3 := hs2 x.addr.toNat (.int .u64 x.now) (by omega)
            rwa [words_set] at h3
          · exact ((HBW.out.trans (hbx.mono HBW.out.size))).setCell hbg _
        case measure => simp [intOf]; omega
      · rw [if_neg hf] at HST
        have hne : (fitsE cur x x.old != 0) = true := by simp [hf]
        clear hf
        go_wp2_with (go_at_call 95; refine (HF.out _ (HRD.out.alloc _)).mono ?_; rintro e w2 ⟨rfl, hb2⟩)
        go_ret2
        have hbx := ((Below.refl wr.heap.size wr).alloc (Nat.le_refl _) _).trans (hb2.mono (by simp))
        unfold RetRedo
        rw [HST.out]
        exact ⟨none, 0, rfl, .inl rfl, HBW.out.trans (hbx.mono HBW.out.size)⟩
    · go_wp2
      go_ret2
      have h := HRE.out
      rw [List.drop_of_length_le (by rw [HM.out]; omega), redoS] at h
      unfold RetRedo
      rw [h]
      simp only [HCL.out]
      exact ⟨_, _, rfl, own_rd HOW.out, HBW.out⟩

end Go.Proofs.YtiioedgdhkndgaaDoor

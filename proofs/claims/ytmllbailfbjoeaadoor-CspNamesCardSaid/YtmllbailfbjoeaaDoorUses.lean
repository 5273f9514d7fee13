/- csp: Uses, walked; what it tells, plain. -/
import Derived.Test.YtmllbailfbjoeaaDoorHasI
import Derived.Test.YtmllbailfbjoeaaDoorCsp1
namespace Go.Proofs.YtmllbailfbjoeaaDoor
open Go.RowKit Go.Sort

def addH (o : List Int) (h : Int) : List Int := if o.contains h then o else o ++ [h]
def usesTo (l : List Cse) : Nat → List Int
  | 0 => []
  | k + 1 => addH (usesTo l k) (l.getD k Cse.none).handle
def usesS (q : Reqr) (l : List Cse) : List Int :=
  if q.kind = 3 then usesTo l l.length else if q.kind = 2 ∨ 4 ≤ q.kind ∧ q.kind ≤ 6 then [q.arg] else []

theorem usesTo_len (l : List Cse) : ∀ k, (usesTo l k).length ≤ k
  | 0 => by simp [usesTo]
  | k + 1 => by
    have := usesTo_len l k
    rw [usesTo, addH]
    split
    · omega
    · simp; omega

theorem usesTo_has (l : List Cse) (h : Int) : ∀ k, k ≤ l.length → (usesTo l k).contains h = (l.take k).any (fun a => a.handle == h)
  | 0, _ => by simp [usesTo]
  | k + 1, hk => by
    have ih := usesTo_has l h k (by omega)
    have ih2 := usesTo_has l (l.getD k Cse.none).handle k (by omega)
    rw [List.take_succ_eq_append_getElem (by omega), List.any_append, ← ih, usesTo, addH]
    have hg : l.getD k Cse.none = l[k] := by simp [List.getD, show k < l.length by omega]
    rw [hg]
    split
    · rename_i hc
      by_cases he : l[k].handle = h
      · rw [he] at hc; simp [he] at hc ⊢; exact hc
      · simp [he]
    · rw [List.contains_append]; congr 1; rw [Bool.eq_iff_iff]; simp; exact eq_comm

theorem int_blk {w : World} {x : Int} {g : Nat} (hg : g = w.heap.size) : Rd (w.alloc (.cells #[.int .i64 x] 3)) (some ⟨g, 0, none⟩) (ints [x]) := (blk_new (cs := ints [x]) hg).rd

set_option maxHeartbeats 4000000 in
set_option maxRecDepth 100000 in
theorem Uses_one (q : Reqr) (l : List Cse) (w : World) (hk : q.kind = 2 ∨ 4 ≤ q.kind ∧ q.kind ≤ 6) :
    Calls Tryd.prog 30 #[reqV q] w (RetIntsO (usesS q l) w) := by
  have HU : RowKit.Hid (usesS q l = [q.arg]) := Lib.hid (by unfold usesS; rw [if_neg (by omega), if_pos hk])
  rw [HU.out]
  clear HU
  unfold reqV
  have hk' : q.kind = 2 ∨ q.kind = 4 ∨ q.kind = 5 ∨ q.kind = 6 := by omega
  clear hk
  rcases hk' with hk | hk | hk | hk
  all_goals
    rw [hk]
    clear hk
    go_enter Tryd.func30, Tryd.ntmps30
    go_wp2_with (at_builtin; refine wpList_app rfl (.tmp 13) (.tmp 16) 49 3 rfl w.heap.size (.int .i64 0) 1 8 Tryd.underlying49 int_info rfl (by decide) none 0 0 [] rfl (own_nil _ _ _ _) (some ⟨w.heap.size + 1, 0, none⟩) 1 1 (ints [q.arg]) rfl (by simp) rfl (blk_new (by simp)).rd (ints_one _) 1 rfl (ints [q.arg]) (by simp) (by unfold maxLen; omega) (by omega) (by simp; omega) ?_; intro V cv w3 hown3 hg3 hb3)
    go_ret
    exact ⟨V, cv, rfl, hown3, (((Below.refl _ _).alloc (Nat.le_refl _) _).alloc (by simp) _).trans hb3⟩

set_option maxHeartbeats 4000000 in
set_option maxRecDepth 100000 in
theorem Uses_none (q : Reqr) (l : List Cse) (w : World) (hk : ¬ (q.kind = 2 ∨ 4 ≤ q.kind ∧ q.kind ≤ 6)) (hk3 : q.kind ≠ 3) :
    Calls Tryd.prog 30 #[reqV q] w (RetIntsO (usesS q l) w) := by
  have HU : RowKit.Hid (usesS q l = []) := Lib.hid (by unfold usesS; rw [if_neg hk3, if_neg hk])
  rw [HU.out]
  clear HU
  unfold reqV
  have b2 : (q.kind == 2) = false := by simp; omega
  have b3 : (q.kind == 3) = false := by simp; omega
  have b4 : (q.kind == 4) = false := by simp; omega
  have b5 : (q.kind == 5) = false := by simp; omega
  have b6 : (q.kind == 6) = false := by simp; omega
  clear hk hk3
  go_enter Tryd.func30, Tryd.ntmps30
  go_wp2
  go_ret
  exact ⟨none, 0, rfl, own_nil _ _ _ _, (Below.refl _ _).alloc (Nat.le_refl _) _⟩

set_option maxHeartbeats 4000000 in
set_option maxRecDepth 100000 in
theorem Uses_sel (q : Reqr) (l : List Cse) (w : World) (h : ReqAt w q l) (hn : l.length * 24 ≤ 140737488355328) (hk : q.kind = 3) :
    Calls Tryd.prog 30 #[reqV q] w (RetIntsO (usesS q l) w) := by
  have HU : RowKit.Hid (usesS q l = usesTo l l.length) := Lib.hid (by unfold usesS; rw [if_pos hk])
  rw [HU.out]
  clear HU
  have HR := Lib.hid h.rd
  have hlen := h.len
  obtain ⟨kind, arg, value, dflt, A, n, c⟩ := q
  unfold reqV
  simp only at hk hlen HR ⊢
  subst hk
  rw [hlen] at hn ⊢
  have HLN := Lib.hid hlen
  clear h hlen
  go_enter Tryd.func30, Tryd.ntmps30
  go_wp2
  go_loopg [3, 23] n (fun g v i wr => ∃ (k : Nat) (V : Option Addr) (cv : Nat), k ≤ n ∧ g = n - k ∧ i = .int .i64 k ∧ v = .slice V (usesTo l k).length cv ∧ wr.ownsRow w.heap.size 3 1 (.slice V (usesTo l k).length cv) (usesTo l k).length (ints (usesTo l k)) ∧ Below w.heap.size w wr)
  case atStart => exact ⟨0, none, 0, Nat.zero_le _, rfl, rfl, rfl, own_nil _ _ _ _, (Below.refl _ _).alloc (Nat.le_refl _) _⟩
  case round =>
    obtain ⟨k, V, cv, hk, hg, rfl, rfl, hown, hb⟩ := hrel
    have HG := Lib.hid hg
    have HB := Lib.hid hb
    have HOWN := Lib.hid hown
    have hul := usesTo_len l k
    clear hg hb hown
    by_cases hlt : k < n
    · have hkl : k < l.length := by rw [HLN.out]; exact hlt
      obtain ⟨b, o, rfl, hbl, hc⟩ := HR.out.at_ (by rw [rows_length]; exact Nat.mul_pos (by omega) (by decide))
      have hcr : ∀ j v, (rows l)[j]? = some v → wr.cell? ⟨b, o + j, none⟩ = some v := fun j v hj => by
        rw [HB.out.cell (p := ⟨b, o + j, none⟩) hbl]; exact hc j v hj
      obtain ⟨c0, c1, c2⟩ := cse_cells hcr hkl rfl
      have HSTEP : RowKit.Hid (usesTo l (k + 1) = addH (usesTo l k) (l.getD k Cse.none).handle) := Lib.hid rfl
      generalize l.getD k Cse.none = x at *
      generalize usesTo l k = us at *
      generalize hus : us.length = un at *
      have HUS := Lib.hid hus
      clear hc hcr hkl hus
      have q1 : (0 : Int) ≤ (k : Int) := by omega
      have q2 : (k : Int) < (n : Int) := by omega
      have HH := Lib.hid (HasI_any V cv us x.handle (wr.alloc (.cells #[.int .i64 x.dir, .int .i64 x.handle, .int .i64 x.value] 37)) (by rw [HUS.out]; unfold maxLen; omega) ((own_rd HOWN.out).alloc _))
      rw [HUS.out] at HH
      have HO2 := Lib.hid (HOWN.out.alloc (.cells #[.int .i64 x.dir, .int .i64 x.handle, .int .i64 x.value] 37))
      have HB2 := Lib.hid (HB.out.alloc HB.out.size (.cells #[.int .i64 x.dir, .int .i64 x.handle, .int .i64 x.value] 37))
      cases hct : us.contains x.handle
      · have HE : RowKit.Hid (usesTo l (k + 1) = us ++ [x.handle]) := Lib.hid (by rw [HSTEP.out, addH, hct]; rfl)
        rw [hct] at HH
        clear hct
        go_wp2_with (first | (go_at_call 62; refine HH.out.mono ?_; rintro e w2 ⟨rfl, rfl⟩) | (at_builtin; refine wpList_app rfl (.tmp 32) (.tmp 35) 49 3 rfl w.heap.size (.int .i64 0) 1 8 Tryd.underlying49 int_info rfl (by decide) V un cv (ints us) rfl (HO2.out.alloc _) (some ⟨wr.heap.size + 1, 0, none⟩) 1 1 (ints [x.handle]) rfl (by simp) rfl (blk_new (by simp)).rd (ints_one _) (un + 1) rfl (ints (us ++ [x.handle])) (by simp [ints]) (by unfold maxLen; omega) (by omega) (Nat.le_trans HB2.out.size (by simp)) ?_; intro V3 cv3 w3 hown3 hg3 hb3))
        go_roundg (n - (k + 1))
        case measure => rw [HG.out]; omega
        case rel =>
          refine ⟨k + 1, V3, cv3, by omega, rfl, by go_num, ?_, ?_, (HB2.out.alloc HB2.out.size _).trans hb3⟩
          · rw [HE.out]; simp [HUS.out]
          · rw [HE.out]
            simp only [List.length_append, List.length_cons, List.length_nil, HUS.out]
            exact hown3
      · have HE : RowKit.Hid (usesTo l (k + 1) = us) := Lib.hid (by rw [HSTEP.out, addH, hct]; rfl)
        rw [hct] at HH
        clear hct
        go_wp2_with (first | (go_at_call 62; refine HH.out.mono ?_; rintro e w2 ⟨rfl, rfl⟩))
        go_roundg (n - (k + 1))
        case measure => rw [HG.out]; omega
        case rel =>
          refine ⟨k + 1, V, cv, by omega, rfl, by go_num, ?_, ?_, HB2.out⟩
          · rw [HE.out, HUS.out]
          · rw [HE.out, HUS.out]; exact HO2.out
    · obtain rfl : k = n := by omega
      go_wp2
      go_ret
      exact ⟨V, cv, rfl, HOWN.out, HB.out⟩

theorem Uses_any (q : Reqr) (l : List Cse) (w : World) (h : ReqAt w q l) (hn : l.length * 24 ≤ 140737488355328) :
    Calls Tryd.prog 30 #[reqV q] w (RetIntsO (usesS q l) w) := by
  by_cases hk : q.kind = 2 ∨ 4 ≤ q.kind ∧ q.kind ≤ 6
  · exact Uses_one q l w hk
  · by_cases h3 : q.kind = 3
    · exact Uses_sel q l w h hn h3
    · exact Uses_none q l w hk h3

end Go.Proofs.YtmllbailfbjoeaaDoor

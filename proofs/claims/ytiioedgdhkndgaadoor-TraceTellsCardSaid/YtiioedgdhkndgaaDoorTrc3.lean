/- The accesses of one thread, of one word: trace.Of, the document's Of and At, walked. -/
import Derived.Test.YtiioedgdhkndgaaDoorAppA
import Derived.Test.YtiioedgdhkndgaaDoorTrc1
namespace Go.Proofs.YtiioedgdhkndgaaDoor
open Go.RowKit Go.Sort

def ofB (t : Int) (a : Acc) : Bool := a.thread == t
def atB (t : Int) (a : Acc) : Bool := a.addr == t

def RetSel (l : List Acc) (w : World) (e : Ending) (w' : World) : Prop :=
  ∃ A c, e = .returned (.slice A l.length c) ∧ Rd w' A (accs l) ∧ Below w.heap.size w w'

theorem sel_le (p : Acc → Bool) (l : List Acc) : (l.filter p).length ≤ l.length := List.length_filter_le _ _
theorem sel_snoc (p : Acc → Bool) (l : List Acc) (x : Acc) : (l ++ [x]).filter p = if p x then l.filter p ++ [x] else l.filter p := by
  rw [List.filter_append]
  cases h : p x <;> simp [h]
theorem takeC {l : List Acc} {k : Nat} (hk : k < l.length) {x : Acc} (hx : l.getD k Acc.none = x) : l.take (k + 1) = l.take k ++ [x] := by
  rw [List.take_succ_eq_append_getElem hk]
  simp only [List.getD, List.getElem?_eq_getElem hk, Option.getD_some] at hx
  rw [hx]

set_option maxHeartbeats 4000000 in
set_option maxRecDepth 100000 in
theorem Of_any (B : Option Addr) (c : Nat) (l : List Acc) (t : Int) (w : World) (hl : l.length ≤ 2097152) (hR : Rd w B (accs l)) :
    Calls Tryd.prog 54 #[.slice B l.length c, .int .i64 t] w (RetSel (l.filter (ofB t)) w) := by
  have HR := Lib.hid hR
  generalize hn : l.length = n at *
  have HN := Lib.hid hn
  clear hR hn
  go_enter Tryd.func54, Tryd.ntmps54
  go_wp2
  go_loopg [5, 10] n (fun g s i wr => ∃ (k m : Nat) (V : Option Addr) (cv : Nat), k ≤ n ∧ g = n - k ∧ i = .int .i64 k ∧ s = .slice V m cv ∧ ((l.take k).filter (ofB t)).length = m ∧ wr.ownsRow w.heap.size 74 7 (.slice V m cv) m (accs ((l.take k).filter (ofB t))) ∧ Below w.heap.size w wr)
  case atStart => exact ⟨0, 0, none, 0, Nat.zero_le _, rfl, rfl, rfl, rfl, own_nil _ _ _ _, Below.refl _ _⟩
  case round =>
    obtain ⟨k, m, V, cv, hk, hg, rfl, rfl, hcm, hown, hb⟩ := hrel
    have HG := Lib.hid hg
    have HB := Lib.hid hb
    have HCM := Lib.hid hcm
    have HO := Lib.hid hown
    have hmk : m ≤ k := by have := sel_le (ofB t) (l.take k); rw [hcm, List.length_take] at this; omega
    clear hg hb hcm hown
    by_cases hlt : k < n
    · have hkl : k < l.length := by rw [HN.out]; exact hlt
      obtain ⟨b, o, rfl, hbl, hc⟩ := HR.out.at_ (by rw [accs_length, HN.out]; omega)
      have hcr : ∀ j v, (accs l)[j]? = some v → wr.cell? ⟨b, o + j, none⟩ = some v := fun j v hj => by
        rw [HB.out.cell (p := ⟨b, o + j, none⟩) hbl]; exact hc j v hj
      generalize hx : l.getD k Acc.none = x
      obtain ⟨e0, e1, e2, e3, e4, e5, e6⟩ := acc_cells hcr hkl hx
      have HTK := Lib.hid (takeC hkl hx)
      have HSN := Lib.hid (sel_snoc (ofB t) (l.take k) x)
      have HBX := Lib.hid (HB.out.alloc HB.out.size (.cells #[.int .i64 x.thread, .int .i64 x.kind, .int .i64 x.addr, .int .u64 x.want, .int .u64 x.old, .int .u64 x.now, .bool x.ok] 74))
      have HOX := Lib.hid (HO.out.alloc (.cells #[.int .i64 x.thread, .int .i64 x.kind, .int .i64 x.addr, .int .u64 x.want, .int .u64 x.old, .int .u64 x.now, .bool x.ok] 74))
      clear hcr hc hx hkl
      have hpb : ofB t x = (x.thread == t) := rfl
      cases hcb : x.thread == t
      all_goals
        rw [hpb, hcb] at HSN
        clear hpb
        go_wp2_with (first
          | (at_builtin; refine append_acc (.tmp 18) (.tmp 20) rfl rfl w.heap.size V m cv ((l.take k).filter (ofB t)) x (wr.heap.size + 1) 1 rfl (HOX.out.alloc (.cells #[.int .i64 x.thread, .int .i64 x.kind, .int .i64 x.addr, .int .u64 x.want, .int .u64 x.old, .int .u64 x.now, .bool x.ok] 74)) rfl (by have h9 := new_acc (wr.alloc (.cells #[.int .i64 x.thread, .int .i64 x.kind, .int .i64 x.addr, .int .u64 x.want, .int .u64 x.old, .int .u64 x.now, .bool x.ok] 74)) x; rwa [World.size_alloc] at h9) (by omega) (by have := HB.out.size; simp; omega) ?_; intro A3 c3 w3 hown3 hb3 hg3))
      · go_roundg (n - (k + 1))
        case measure => rw [HG.out]; omega
        case rel => exact ⟨k + 1, m, V, cv, by omega, rfl, by go_num, rfl, by rw [HTK.out, HSN.out]; exact HCM.out, by rw [HTK.out, HSN.out]; exact HOX.out, HBX.out⟩
      · go_roundg (n - (k + 1))
        case measure => rw [HG.out]; omega
        case rel => exact ⟨k + 1, m + 1, A3, c3, by omega, rfl, by go_num, rfl, by rw [HTK.out, HSN.out]; simp [HCM.out], by rw [HTK.out, HSN.out]; exact hown3, (HBX.out.alloc HBX.out.size _).trans hb3⟩
    · obtain rfl : n = k := by omega
      go_wp2
      go_ret
      have hcm := HCM.out
      have hown := own_rd HO.out
      rw [List.take_of_length_le (by rw [HN.out]; omega)] at hcm hown
      exact ⟨V, cv, by rw [hcm]; rfl, hown, HB.out⟩

set_option maxHeartbeats 4000000 in
set_option maxRecDepth 100000 in
theorem rOf_any (B : Option Addr) (c : Nat) (l : List Acc) (t : Int) (w : World) (hl : l.length ≤ 2097152) (hR : Rd w B (accs l)) :
    Calls Tryd.prog 55 #[.slice B l.length c, .int .i64 t] w (RetSel (l.filter (ofB t)) w) := by
  have HR := Lib.hid hR
  generalize hn : l.length = n at *
  have HN := Lib.hid hn
  clear hR hn
  go_enter Tryd.func55, Tryd.ntmps55
  go_wp2
  go_loopg [5, 10] n (fun g s i wr => ∃ (k m : Nat) (V : Option Addr) (cv : Nat), k ≤ n ∧ g = n - k ∧ i = .int .i64 k ∧ s = .slice V m cv ∧ ((l.take k).filter (ofB t)).length = m ∧ wr.ownsRow w.heap.size 74 7 (.slice V m cv) m (accs ((l.take k).filter (ofB t))) ∧ Below w.heap.size w wr)
  case atStart => exact ⟨0, 0, none, 0, Nat.zero_le _, rfl, rfl, rfl, rfl, own_nil _ _ _ _, Below.refl _ _⟩
  case round =>
    obtain ⟨k, m, V, cv, hk, hg, rfl, rfl, hcm, hown, hb⟩ := hrel
    have HG := Lib.hid hg
    have HB := Lib.hid hb
    have HCM := Lib.hid hcm
    have HO := Lib.hid hown
    have hmk : m ≤ k := by have := sel_le (ofB t) (l.take k); rw [hcm, List.length_take] at this; omega
    clear hg hb hcm hown
    by_cases hlt : k < n
    · have hkl : k < l.length := by rw [HN.out]; exact hlt
      obtain ⟨b, o, rfl, hbl, hc⟩ := HR.out.at_ (by rw [accs_length, HN.out]; omega)
      have hcr : ∀ j v, (accs l)[j]? = some v → wr.cell? ⟨b, o + j, none⟩ = some v := fun j v hj => by
        rw [HB.out.cell (p := ⟨b, o + j, none⟩) hbl]; exact hc j v hj
      generalize hx : l.getD k Acc.none = x
      obtain ⟨e0, e1, e2, e3, e4, e5, e6⟩ := acc_cells hcr hkl hx
      have HTK := Lib.hid (takeC hkl hx)
      have HSN := Lib.hid (sel_snoc (ofB t) (l.take k) x)
      have HBX := Lib.hid (HB.out.alloc HB.out.size (.cells #[.int .i64 x.thread, .int .i64 x.kind, .int .i64 x.addr, .int .u64 x.want, .int .u64 x.old, .int .u64 x.now, .bool x.ok] 74))
      have HOX := Lib.hid (HO.out.alloc (.cells #[.int .i64 x.thread, .int .i64 x.kind, .int .i64 x.addr, .int .u64 x.want, .int .u64 x.old, .int .u64 x.now, .bool x.ok] 74))
      clear hcr hc hx hkl
      have hpb : ofB t x = (x.thread == t) := rfl
      cases hcb : x.thread == t
      all_goals
        rw [hpb, hcb] at HSN
        clear hpb
        go_wp2_with (first
          | (at_builtin; refine append_acc (.tmp 18) (.tmp 20) rfl rfl w.heap.size V m cv ((l.take k).filter (ofB t)) x (wr.heap.size + 1) 1 rfl (HOX.out.alloc (.cells #[.int .i64 x.thread, .int .i64 x.kind, .int .i64 x.addr, .int .u64 x.want, .int .u64 x.old, .int .u64 x.now, .bool x.ok] 74)) rfl (by have h9 := new_acc (wr.alloc (.cells #[.int .i64 x.thread, .int .i64 x.kind, .int .i64 x.addr, .int .u64 x.want, .int .u64 x.old, .int .u64 x.now, .bool x.ok] 74)) x; rwa [World.size_alloc] at h9) (by omega) (by have := HB.out.size; simp; omega) ?_; intro A3 c3 w3 hown3 hb3 hg3))
      · go_roundg (n - (k + 1))
        case measure => rw [HG.out]; omega
        case rel => exact ⟨k + 1, m, V, cv, by omega, rfl, by go_num, rfl, by rw [HTK.out, HSN.out]; exact HCM.out, by rw [HTK.out, HSN.out]; exact HOX.out, HBX.out⟩
      · go_roundg (n - (k + 1))
        case measure => rw [HG.out]; omega
        case rel => exact ⟨k + 1, m + 1, A3, c3, by omega, rfl, by go_num, rfl, by rw [HTK.out, HSN.out]; simp [HCM.out], by rw [HTK.out, HSN.out]; exact hown3, (HBX.out.alloc HBX.out.size _).trans hb3⟩
    · obtain rfl : n = k := by omega
      go_wp2
      go_ret
      have hcm := HCM.out
      have hown := own_rd HO.out
      rw [List.take_of_length_le (by rw [HN.out]; omega)] at hcm hown
      exact ⟨V, cv, by rw [hcm]; rfl, hown, HB.out⟩

set_option maxHeartbeats 4000000 in
set_option maxRecDepth 100000 in
theorem rAt_any (B : Option Addr) (c : Nat) (l : List Acc) (t : Int) (w : World) (hl : l.length ≤ 2097152) (hR : Rd w B (accs l)) :
    Calls Tryd.prog 57 #[.slice B l.length c, .int .i64 t] w (RetSel (l.filter (atB t)) w) := by
  have HR := Lib.hid hR
  generalize hn : l.length = n at *
  have HN := Lib.hid hn
  clear hR hn
  go_enter Tryd.func57, Tryd.ntmps57
  go_wp2
  go_loopg [5, 10] n (fun g s i wr => ∃ (k m : Nat) (V : Option Addr) (cv : Nat), k ≤ n ∧ g = n - k ∧ i = .int .i64 k ∧ s = .slice V m cv ∧ ((l.take k).filter (atB t)).length = m ∧ wr.ownsRow w.heap.size 74 7 (.slice V m cv) m (accs ((l.take k).filter (atB t))) ∧ Below w.heap.size w wr)
  case atStart => exact ⟨0, 0, none, 0, Nat.zero_le _, rfl, rfl, rfl, rfl, own_nil _ _ _ _, Below.refl _ _⟩
  case round =>
    obtain ⟨k, m, V, cv, hk, hg, rfl, rfl, hcm, hown, hb⟩ := hrel
    have HG := Lib.hid hg
    have HB := Lib.hid hb
    have HCM := Lib.hid hcm
    have HO := Lib.hid hown
    have hmk : m ≤ k := by have := sel_le (atB t) (l.take k); rw [hcm, List.length_take] at this; omega
    clear hg hb hcm hown
    by_cases hlt : k < n
    · have hkl : k < l.length := by rw [HN.out]; exact hlt
      obtain ⟨b, o, rfl, hbl, hc⟩ := HR.out.at_ (by rw [accs_length, HN.out]; omega)
      have hcr : ∀ j v, (accs l)[j]? = some v → wr.cell? ⟨b, o + j, none⟩ = some v := fun j v hj => by
        rw [HB.out.cell (p := ⟨b, o + j, none⟩) hbl]; exact hc j v hj
      generalize hx : l.getD k Acc.none = x
      obtain ⟨e0, e1, e2, e3, e4, e5, e6⟩ := acc_cells hcr hkl hx
      have HTK := Lib.hid (takeC hkl hx)
      have HSN := Lib.hid (sel_snoc (atB t) (l.take k) x)
      have HBX := Lib.hid (HB.out.alloc HB.out.size (.cells #[.int .i64 x.thread, .int .i64 x.kind, .int .i64 x.addr, .int .u64 x.want, .int .u64 x.old, .int .u64 x.now, .bool x.ok] 74))
      have HOX := Lib.hid (HO.out.alloc (.cells #[.int .i64 x.thread, .int .i64 x.kind, .int .i64 x.addr, .int .u64 x.want, .int .u64 x.old, .int .u64 x.now, .bool x.ok] 74))
      clear hcr hc hx hkl
      have hpb : atB t x = (x.addr == t) := rfl
      cases hcb : x.addr == t
      all_goals
        rw [hpb, hcb] at HSN
        clear hpb
        go_wp2_with (first
          | (at_builtin; refine append_acc (.tmp 18) (.tmp 20) rfl rfl w.heap.size V m cv ((l.take k).filter (atB t)) x (wr.heap.size + 1) 1 rfl (HOX.out.alloc (.cells #[.int .i64 x.thread, .int .i64 x.kind, .int .i64 x.addr, .int .u64 x.want, .int .u64 x.old, .int .u64 x.now, .bool x.ok] 74)) rfl (by have h9 := new_acc (wr.alloc (.cells #[.int .i64 x.thread, .int .i64 x.kind, .int .i64 x.addr, .int .u64 x.want, .int .u64 x.old, .int .u64 x.now, .bool x.ok] 74)) x; rwa [World.size_alloc] at h9) (by omega) (by have := HB.out.size; simp; omega) ?_; intro A3 c3 w3 hown3 hb3 hg3))
      · go_roundg (n - (k + 1))
        case measure => rw [HG.out]; omega
        case rel => exact ⟨k + 1, m, V, cv, by omega, rfl, by go_num, rfl, by rw [HTK.out, HSN.out]; exact HCM.out, by rw [HTK.out, HSN.out]; exact HOX.out, HBX.out⟩
      · go_roundg (n - (k + 1))
        case measure => rw [HG.out]; omega
        case rel => exact ⟨k + 1, m + 1, A3, c3, by omega, rfl, by go_num, rfl, by rw [HTK.out, HSN.out]; simp [HCM.out], by rw [HTK.out, HSN.out]; exact hown3, (HBX.out.alloc HBX.out.size _).trans hb3⟩
    · obtain rfl : n = k := by omega
      go_wp2
      go_ret
      have hcm := HCM.out
      have hown := own_rd HO.out
      rw [List.take_of_length_le (by rw [HN.out]; omega)] at hcm hown
      exact ⟨V, cv, by rw [hcm]; rfl, hown, HB.out⟩

end Go.Proofs.YtiioedgdhkndgaaDoor

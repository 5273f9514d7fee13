/- trace.Changed, walked: the words that were changed, rising. -/
import Derived.Test.YtiioedgdhkndgaaDoorTrc1
import Derived.Test.YtiioedgdhkndgaaDoorAppend
import Derived.Test.YtiioedgdhkndgaaDoorShelf2
import Derived.Sort.OwnSortedInts
namespace Go.Proofs.YtiioedgdhkndgaaDoor
open Go.RowKit Go.Sort

def chgA (l : List Acc) : List Int := (l.filter chgB).map (·.addr)
def chgS (l : List Acc) : List Int := Lib.compact ((chgA l).mergeSort fun x y => decide (x ≤ y))

theorem chgA_le (l : List Acc) : (chgA l).length ≤ l.length := by
  unfold chgA; rw [List.length_map]; exact List.length_filter_le _ _
theorem chgA_snoc (l : List Acc) (x : Acc) : chgA (l ++ [x]) = if chgB x then chgA l ++ [x.addr] else chgA l := by
  unfold chgA; rw [List.filter_append]
  cases h : chgB x <;> simp [h]
theorem takeA {l : List Acc} {k : Nat} (hk : k < l.length) {x : Acc} (hx : l.getD k Acc.none = x) : l.take (k + 1) = l.take k ++ [x] := by
  rw [List.take_succ_eq_append_getElem hk]
  simp only [List.getD, List.getElem?_eq_getElem hk, Option.getD_some] at hx
  rw [hx]

theorem compact_le (zs : List Int) : (Lib.compact zs).length ≤ zs.length := by
  unfold Lib.compact Lib.compactUpTo
  rw [List.length_map]
  refine Nat.le_trans (List.length_filter_le _ _) ?_
  simp

theorem int_blk1 (w : World) (x : Int) : Rd (w.alloc (.cells #[.int .i64 x] 3)) (some ⟨w.heap.size, 0, none⟩) (ints [x]) := (Blk.new w 3 [.int .i64 x]).rd

/-- slices.Sort, slices.Compact of a row of the call's own. -/
theorem sorted_own {w : World} {base : Nat} {A : Option Addr} {c : Nat} {zs : List Int} (h : w.ownsRow base 3 1 (.slice A zs.length c) zs.length (ints zs)) (hb : base ≤ w.heap.size) (hm : zs.length ≤ 2097152) :
    Calls Tryd.prog 102 #[.slice A zs.length c] w fun e w' => e = .returned (.tuple #[]) ∧ w'.ownsRow base 3 1 (.slice A zs.length c) zs.length (ints (zs.mergeSort fun x y => decide (x ≤ y))) ∧ Below base w w' := by
  rcases h with ⟨h1, ⟨hv, h0⟩ | ⟨g, cap, cur, hv, hg, hh, hnc, hmx, hsz, hx⟩⟩
  · injection hv with hA hl hc
    have hz : zs = [] := List.eq_nil_of_length_eq_zero h0
    subst hz
    refine (Tryd.slices_Sort_int_none A c w).mono fun e w' ⟨he, hw⟩ => ⟨he, ?_, by rw [hw]; exact Below.refl _ _⟩
    rw [hw, hA, hc]
    exact ⟨by simp [ints], .inl ⟨rfl, rfl⟩⟩
  · injection hv with hA hl hc
    subst hA hc
    have hlt : g < w.heap.size := by
      rcases Nat.lt_or_ge g w.heap.size with hlt | hge
      · exact hlt
      · rw [Array.getElem?_eq_none hge] at hh; cases hh
    have hH : Holds (Value.int .i64) w g 0 zs.toArray := holds_of_blockI hh (by rw [Nat.mul_one] at hx; exact hx)
    refine (Tryd.slices_Sort_int g 0 c zs w hH hlt (by omega)).mono fun e w' ⟨he, n, os, hw⟩ => ⟨he, ?_, ?_⟩
    · rw [hw]
      exact ownsRow_sortedI (List.length_mergeSort _) hg hh hnc hmx hsz
    · rw [hw]
      exact (Below.refl _ _).grown (grownBy_sortedI _) hb (fun k hk => by injection hk with hk; omega)

theorem compacted_own {w : World} {base : Nat} {A : Option Addr} {c : Nat} {zs : List Int} (h : w.ownsRow base 3 1 (.slice A zs.length c) zs.length (ints zs)) (hb : base ≤ w.heap.size) (hm : zs.length ≤ 2097152) :
    Calls Tryd.prog 103 #[.slice A zs.length c] w fun e w' => e = .returned (.slice A (Lib.compact zs).length c) ∧ Rd w' A (ints (Lib.compact zs)) ∧ Below base w w' := by
  rcases h with ⟨h1, ⟨hv, h0⟩ | ⟨g, cap, cur, hv, hg, hh, hnc, hmx, hsz, hx⟩⟩
  · have hz : zs = [] := List.eq_nil_of_length_eq_zero h0
    subst hz
    refine (Tryd.slices_Compact_int_empty A c w).mono fun e w' ⟨he, hw⟩ => ⟨he, .inl rfl, by rw [hw]; exact Below.refl _ _⟩
  · injection hv with hA hl hc
    subst hA hc
    have hlt : g < w.heap.size := by
      rcases Nat.lt_or_ge g w.heap.size with hlt | hge
      · exact hlt
      · rw [Array.getElem?_eq_none hge] at hh; cases hh
    have hH : Holds (Value.int .i64) w g 0 zs.toArray := holds_of_blockI hh (by rw [Nat.mul_one] at hx; exact hx)
    refine (Tryd.slices_Compact_int g 0 c zs w hH (by omega) hnc).mono fun e w' ⟨he, q, hw⟩ => ⟨he, ?_, ?_⟩
    · have hle := compact_le zs
      have hH2 : Holds (Value.int .i64) w' g 0 (Lib.compact zs ++ List.replicate (zs.length - (Lib.compact zs).length) 0).toArray := by
        rw [hw]
        refine holds_putRow _ _ _ _ zs.toArray _ ?_ (by simp; omega)
        exact fun j hj => hH j hj
      have hlt' : g < w'.heap.size := by rw [hw]; simpa [Sort.ahead] using hlt
      refine .inr ⟨g, 0, rfl, hlt', fun k v hk => ?_⟩
      have hkl : k < (Lib.compact zs).length := by
        have := (List.getElem?_eq_some_iff.1 hk).1
        rwa [ints_length] at this
      have h2 := (hH2 k (by simp; omega)).1
      rw [h2, ← hk, ints_at hkl]
      congr 2
      rw [getElem!_pos _ k (by simp; omega)]
      simp [List.getElem_append_left hkl, List.getD, hkl]
    · rw [hw]
      have := (Below.refl base w).grown (grownBy_sortedI (w := w) (g := g) (n := q) (os := #[]) (Lib.compact zs ++ List.replicate (zs.length - (Lib.compact zs).length) 0).toArray) hb (fun k hk => by injection hk with hk; omega)
      rwa [grow_empty] at this

set_option maxHeartbeats 4000000 in
set_option maxRecDepth 100000 in
theorem Changed_any (B : Option Addr) (c : Nat) (l : List Acc) (w : World) (hl : l.length ≤ 2097152) (hR : Rd w B (accs l)) :
    Calls Tryd.prog 59 #[.slice B l.length c] w fun e w' => ∃ A d, e = .returned (.slice A (chgS l).length d) ∧ Rd w' A (ints (chgS l)) ∧ Below w.heap.size w w' := by
  have HR := Lib.hid hR
  generalize hn : l.length = n at *
  have HN := Lib.hid hn
  clear hR hn
  go_enter Tryd.func59, Tryd.ntmps59
  go_wp2
  go_loopg [3, 8] n (fun g s i wr => ∃ (k m : Nat) (V : Option Addr) (cv : Nat), k ≤ n ∧ g = n - k ∧ i = .int .i64 k ∧ s = .slice V m cv ∧ (chgA (l.take k)).length = m ∧ wr.ownsRow w.heap.size 3 1 (.slice V m cv) m (ints (chgA (l.take k))) ∧ Below w.heap.size w wr)
  case atStart => exact ⟨0, 0, none, 0, Nat.zero_le _, rfl, rfl, rfl, rfl, own_nil _ _ _ _, Below.refl _ _⟩
  case round =>
    obtain ⟨k, m, V, cv, hk, hg, rfl, rfl, hcm, hown, hb⟩ := hrel
    have HG := Lib.hid hg
    have HB := Lib.hid hb
    have HCM := Lib.hid hcm
    have HO := Lib.hid hown
    have hmk : m ≤ k := by have := chgA_le (l.take k); rw [hcm, List.length_take] at this; omega
    clear hg hb hcm hown
    by_cases hlt : k < n
    · have hkl : k < l.length := by rw [HN.out]; exact hlt
      obtain ⟨b, o, rfl, hbl, hc⟩ := HR.out.at_ (by rw [accs_length, HN.out]; omega)
      have hcr : ∀ j v, (accs l)[j]? = some v → wr.cell? ⟨b, o + j, none⟩ = some v := fun j v hj => by
        rw [HB.out.cell (p := ⟨b, o + j, none⟩) hbl]; exact hc j v hj
      generalize hx : l.getD k Acc.none = x
      obtain ⟨e0, e1, e2, e3, e4, e5, e6⟩ := acc_cells hcr hkl hx
      have HTK := Lib.hid (takeA hkl hx)
      have HSN := Lib.hid (chgA_snoc (l.take k) x)
      have HF := Lib.hid (fun W => Changes_any x W)
      clear hcr hc hx hkl
      cases hcb : chgB x
      all_goals
        rw [hcb] at HF HSN
        clear hcb
        go_wp2_with (first
          | (go_at_call 51; refine (HF.out _).mono ?_; rintro e w2 ⟨rfl, hb2⟩; have z2 := (hb2.cell (p := ⟨wr.heap.size, 2, none⟩) (by simp)); simp at z2; have HB2 := Lib.hid (((Below.refl wr.heap.size wr).alloc (Nat.le_refl _) (.cells #[.int .i64 x.thread, .int .i64 x.kind, .int .i64 x.addr, .int .u64 x.want, .int .u64 x.old, .int .u64 x.now, .bool x.ok] 74)).trans (hb2.mono (by simp))); clear hb2)
          | (at_builtin; refine append_int (.tmp 14) (.tmp 17) rfl rfl w.heap.size V m cv (chgA (l.take k)) x.addr w2.heap.size 1 rfl (own_below (own_below HO.out HB2.out) ((Below.refl w2.heap.size w2).alloc (Nat.le_refl _) (.cells #[.int .i64 x.addr] 3))) rfl (by simp) (by omega) (by have := HB2.out.size; have := HB.out.size; simp; omega) ?_; intro A3 c3 w3 hown3 hb3 hg3))
      · go_roundg (n - (k + 1))
        case measure => rw [HG.out]; omega
        case rel => exact ⟨k + 1, m, V, cv, by omega, rfl, by go_num, rfl, by rw [HTK.out, HSN.out]; exact HCM.out, by rw [HTK.out, HSN.out]; exact own_below HO.out HB2.out, HB.out.trans (HB2.out.mono HB.out.size)⟩
      · go_roundg (n - (k + 1))
        case measure => rw [HG.out]; omega
        case rel => exact ⟨k + 1, m + 1, A3, c3, by omega, rfl, by go_num, rfl, by rw [HTK.out, HSN.out]; simp [HCM.out], by rw [HTK.out, HSN.out]; exact hown3, ((HB.out.trans (HB2.out.mono HB.out.size)).alloc (by have := HB2.out.size; have := HB.out.size; omega) (.cells #[.int .i64 x.addr] 3)).trans hb3⟩
    · obtain rfl : n = k := by omega
      have HA : RowKit.Hid (chgA (l.take n) = chgA l) := Lib.hid (by rw [List.take_of_length_le (by rw [HN.out]; omega)])
      rw [HA.out] at HO HCM
      have hso := sorted_own (by rw [HCM.out]; exact HO.out) HB.out.size (by rw [HCM.out]; omega)
      rw [HCM.out] at hso
      have HSO := Lib.hid hso
      clear hso
      have HCH : RowKit.Hid (chgS l = Lib.compact ((chgA l).mergeSort fun x y => decide (x ≤ y))) := Lib.hid rfl
      have HLM : RowKit.Hid (((chgA l).mergeSort fun x y => decide (x ≤ y)).length = m) := Lib.hid (by rw [List.length_mergeSort]; exact HCM.out)
      generalize ((chgA l).mergeSort fun x y => decide (x ≤ y)) = ms at *
      go_wp2_with fail
      refine HSO.out.mono ?_
      rintro e w2 ⟨rfl, hown2, hb2⟩
      have HB2 := Lib.hid (HB.out.trans hb2)
      have hco := compacted_own (by rw [HLM.out]; exact hown2) HB2.out.size (by rw [HLM.out]; omega)
      rw [HLM.out] at hco
      have HCO := Lib.hid hco
      clear hco hown2 hb2
      go_wp2_with fail
      refine HCO.out.mono ?_
      rintro e w3 ⟨rfl, hrd3, hb3⟩
      go_wp2
      go_ret
      exact ⟨V, cv, by rw [HCH.out]; rfl, by rw [HCH.out]; exact hrd3, HB2.out.trans hb3⟩

end Go.Proofs.YtiioedgdhkndgaaDoor

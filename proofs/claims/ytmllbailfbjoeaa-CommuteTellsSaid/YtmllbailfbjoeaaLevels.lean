/- commute.Levels and the document's Levels: how deep each access lies. -/
import Derived.Test.YtmllbailfbjoeaaAcc
import Derived.Test.YtmllbailfbjoeaaRow
namespace Go.Proofs.Ytmllbailfbjoeaa
open Go.RowKit Go.Sort

/-- How deep an access b lies behind accesses with their depths, n so far. -/
def lvOf (b : Acc) : List Acc → List Int → Int → Int
  | a :: ps, x :: xs, n => lvOf b ps xs (if freeB a b = true then n else max n (x + 1))
  | _, _, n => n

/-- The depths of the first i accesses. -/
def lvs (l : List Acc) : Nat → List Int
  | 0 => []
  | i + 1 => lvs l i ++ [lvOf (l.getD i Acc.none) (l.take i) (lvs l i) 0]

theorem lvs_length (l : List Acc) : ∀ i, (lvs l i).length = i
  | 0 => rfl
  | i + 1 => by simp [lvs, lvs_length l i]

theorem lvOf_snoc (b a : Acc) (x : Int) : ∀ (ps : List Acc) (xs : List Int) (n : Int), ps.length = xs.length →
    lvOf b (ps ++ [a]) (xs ++ [x]) n = if freeB a b = true then lvOf b ps xs n else max (lvOf b ps xs n) (x + 1)
  | [], [], n, _ => by simp [lvOf]
  | a' :: ps, x' :: xs, n, h => by simp only [List.cons_append, lvOf]; exact lvOf_snoc b a x ps xs _ (by simpa using h)

theorem lvOf_take (l : List Acc) (i k : Nat) (hi : i ≤ l.length) (hk : k < i) :
    lvOf (l.getD i Acc.none) (l.take (k + 1)) ((lvs l i).take (k + 1)) 0 =
      if freeB (l.getD k Acc.none) (l.getD i Acc.none) = true then lvOf (l.getD i Acc.none) (l.take k) ((lvs l i).take k) 0 else max (lvOf (l.getD i Acc.none) (l.take k) ((lvs l i).take k) 0) ((lvs l i).getD k 0 + 1) := by
  have hl := lvs_length l i
  rw [List.take_succ_eq_append_getElem (by omega : k < l.length), List.take_succ_eq_append_getElem (by omega : k < (lvs l i).length), lvOf_snoc _ _ _ _ _ _ (by simp; omega)]
  simp only [List.getD, List.getElem?_eq_getElem (by omega : k < l.length), List.getElem?_eq_getElem (by omega : k < (lvs l i).length), Option.getD_some]
  rfl

theorem lvOf_b (b : Acc) : ∀ (ps : List Acc) (xs : List Int) (n m : Int), 0 ≤ n → n ≤ m → (∀ x ∈ xs, 0 ≤ x ∧ x + 1 ≤ m) → 0 ≤ lvOf b ps xs n ∧ lvOf b ps xs n ≤ m
  | [], _, n, m, h0, h1, _ => by simp [lvOf]; omega
  | _ :: _, [], n, m, h0, h1, _ => by simp [lvOf]; omega
  | a :: ps, x :: xs, n, m, h0, h1, h => by
    have hx := h x (by simp)
    simp only [lvOf]
    refine lvOf_b b ps xs _ m ?_ ?_ (fun y hy => h y (by simp [hy]))
    · split <;> omega
    · split <;> omega

theorem lvs_b (l : List Acc) : ∀ i, ∀ x ∈ lvs l i, 0 ≤ x ∧ x + 1 ≤ (i : Int)
  | 0, x, hx => by simp [lvs] at hx
  | i + 1, x, hx => by
    simp only [lvs, List.mem_append, List.mem_singleton] at hx
    rcases hx with hx | rfl
    · have := lvs_b l i x hx; omega
    · have := lvOf_b (l.getD i Acc.none) (l.take i) (lvs l i) 0 i (by omega) (by omega) (lvs_b l i); omega

def lvRow (l : List Acc) (i : Nat) (m : Int) : List Int := lvs l i ++ (m :: List.replicate (l.length - i - 1) 0)

theorem lvRow_length (l : List Acc) (i : Nat) (m : Int) (h : i < l.length) : (lvRow l i m).length = l.length := by
  simp [lvRow, lvs_length]; omega
theorem lvRow_at (l : List Acc) (i : Nat) (m : Int) : (ints (lvRow l i m))[i]? = some (.int .i64 m) := by
  simp [lvRow, ints, lvs_length]
theorem lvRow_lo (l : List Acc) (i k : Nat) (m : Int) (hk : k < i) : (ints (lvRow l i m))[k]? = some (.int .i64 ((lvs l i).getD k 0)) := by
  have hl := lvs_length l i
  simp [lvRow, ints, List.getElem?_append_left, hl, hk, List.getD]
theorem lvRow_set (l : List Acc) (i : Nat) (m m' : Int) : (lvRow l i m).set i m' = lvRow l i m' := by
  have hl := lvs_length l i
  simp [lvRow, List.set_append_right, hl]
theorem lvRow_next (l : List Acc) (i : Nat) : lvRow l i (lvOf (l.getD i Acc.none) (l.take i) (lvs l i) 0) = lvs l (i + 1) ++ List.replicate (l.length - (i + 1)) 0 := by
  simp [lvRow, lvs, Nat.sub_sub]
theorem lvRow_first (l : List Acc) (i : Nat) (h : i < l.length) : lvs l i ++ List.replicate (l.length - i) 0 = lvRow l i 0 := by
  have : l.length - i = (l.length - i - 1) + 1 := by omega
  rw [lvRow, this, List.replicate_succ]; simp

/-- A row of numbers handed back in new memory. -/
def RetInts (l : List Int) (w : World) (e : Ending) (w' : World) : Prop :=
  ∃ A c, e = .returned (.slice A l.length c) ∧ Rd w' A (ints l) ∧ Below w.heap.size w w'

set_option maxHeartbeats 2000000 in
set_option maxRecDepth 100000 in
theorem Levels_any (A : Option Addr) (c : Nat) (l : List Acc) (w : World) (hl : l.length ≤ 1048576) (hlc : l.length ≤ c) (hR : Rd w A (accs l)) :
    Calls Try.prog 48 #[.slice A l.length c] w (RetInts (lvs l l.length) w) := by
  have HR := Lib.hid hR
  clear hR
  generalize hn : l.length = n at hl hlc ⊢
  have HN := Lib.hid hn
  clear hn
  have hmk := make_ints n hl
  go_enter Try.func48, Try.ntmps48
  go_wp2
  clear hmk
  go_loopw [13] (fun i wr => ∃ k : Nat, k ≤ n ∧ i = .int .i64 k ∧ Only w.heap.size w wr ∧ Blk wr w.heap.size 3 (ints (lvs l k ++ List.replicate (n - k) 0))) (fun i _ => n - (intOf i).toNat)
  case atStart => exact ⟨0, Nat.zero_le _, rfl, (Only.refl _ _).alloc _, by simpa [lvs] using Blk.new w 3 (ints (List.replicate n 0))⟩
  case round =>
    obtain ⟨i, hi, rfl, hO, hB⟩ := hrel
    have HB := Lib.hid hB
    have HO := Lib.hid hO
    clear hB hO
    by_cases hlt : i < n
    · have hil : i < l.length := by rw [HN.out]; exact hlt
      obtain ⟨b, o, rfl, hbl, hc⟩ := HR.out.at_ (by rw [accs_length]; omega)
      have hcr : ∀ k v, (accs l)[k]? = some v → wr.cell? ⟨b, o + k, none⟩ = some v := fun k v hk => by
        rw [HO.out.cell (p := ⟨b, o + k, none⟩) hbl (by show b ≠ _; omega)]; exact hc k v hk
      generalize hx : l.getD i Acc.none = x
      obtain ⟨c0, c1, c2, c3, c4, c5, c6⟩ := acc_cells hcr hil hx
      have HX := Lib.hid hx
      have HC := Lib.hid hc
      clear hc hcr hx hil
      go_wp2
      have hgl : w.heap.size < wr.heap.size := HB.out.lt
      have hbox : ∀ j v, x.cells[j]? = some v → (wr.alloc (.cells #[.int .i64 x.thread, .int .i64 x.kind, .int .i64 x.addr, .int .u64 x.want, .int .u64 x.old, .int .u64 x.now, .bool x.ok] 44)).cell? ⟨wr.heap.size, j, none⟩ = some v := fun j v hj => by
        rw [World.cell?_alloc_at (hn := rfl), ← hj]; simp [Acc.cells]
      replace HO := Lib.hid (HO.out.alloc (.cells #[.int .i64 x.thread, .int .i64 x.kind, .int .i64 x.addr, .int .u64 x.want, .int .u64 x.old, .int .u64 x.now, .bool x.ok] 44))
      replace HB := Lib.hid (HB.out.alloc (.cells #[.int .i64 x.thread, .int .i64 x.kind, .int .i64 x.addr, .int .u64 x.want, .int .u64 x.old, .int .u64 x.now, .bool x.ok] 44))
      have hsz : wr.heap.size < (wr.alloc (.cells #[.int .i64 x.thread, .int .i64 x.kind, .int .i64 x.addr, .int .u64 x.want, .int .u64 x.old, .int .u64 x.now, .bool x.ok] 44)).heap.size := by simp
      generalize wr.alloc (.cells #[.int .i64 x.thread, .int .i64 x.kind, .int .i64 x.addr, .int .u64 x.want, .int .u64 x.old, .int .u64 x.now, .bool x.ok] 44) = wo at *
      generalize hgb : wr.heap.size = gb at *
      clear hgb c0 c1 c2 c3 c4 c5 c6
      have HBOX := Lib.hid hbox
      clear hbox
      go_loopw [22] (fun j wi => ∃ k : Nat, k ≤ i ∧ j = .int .i64 k ∧ Only w.heap.size wo wi ∧ Blk wi w.heap.size 3 (ints (lvRow l i (lvOf x (l.take k) ((lvs l i).take k) 0)))) (fun j _ => i - (intOf j).toNat)
      case atStart =>
        refine ⟨0, Nat.zero_le _, rfl, Only.refl _ _, ?_⟩
        have h := HB.out
        rw [← HN.out, lvRow_first l i (by rw [HN.out]; exact hlt)] at h
        simpa [lvOf] using h
      case round =>
        obtain ⟨k, hk, rfl, hOi, hBi⟩ := hrel
        have HOI := Lib.hid hOi
        have HBI := Lib.hid hBi
        clear hOi hBi
        by_cases hki : k < i
        · have hkl : k < l.length := by have := HN.out; omega
          have hcr : ∀ k v, (accs l)[k]? = some v → wr.cell? ⟨b, o + k, none⟩ = some v := fun k v hk => by
            rw [HOI.out.cell (p := ⟨b, o + k, none⟩) (by show b < _; omega) (by show b ≠ _; omega), HO.out.cell (p := ⟨b, o + k, none⟩) hbl (by show b ≠ _; omega)]; exact HC.out k v hk
          generalize hy : l.getD k Acc.none = y
          obtain ⟨c0, c1, c2, c3, c4, c5, c6⟩ := acc_cells hcr hkl hy
          have hbr : ∀ j v, x.cells[j]? = some v → wr.cell? ⟨gb, j, none⟩ = some v := fun j v hj => by
            rw [HOI.out.cell (p := ⟨gb, j, none⟩) hsz (by show gb ≠ _; omega)]; exact HBOX.out j v hj
          have b0 := hbr 0 _ rfl
          have b1 := hbr 1 _ rfl
          have b2 := hbr 2 _ rfl
          have b3 := hbr 3 _ rfl
          have b4 := hbr 4 _ rfl
          have b5 := hbr 5 _ rfl
          have b6 := hbr 6 _ rfl
          have hgr : gb < wr.heap.size := Nat.lt_of_lt_of_le hsz HOI.out.size
          have HY := Lib.hid hy
          clear hcr hbr hkl hy
          cases hfr : freeB y x
          · go_wp2_with (go_at_call 47; refine (Free_any y x _).mono ?_; rintro e w1 ⟨rfl, hb1⟩)
            have hO1 := (HOI.out.alloc (.cells #[.int .i64 y.thread, .int .i64 y.kind, .int .i64 y.addr, .int .u64 y.want, .int .u64 y.old, .int .u64 y.now, .bool y.ok] 44)).trans (.of_below hb1)
            have hB1 := (HBI.out.alloc (.cells #[.int .i64 y.thread, .int .i64 y.kind, .int .i64 y.addr, .int .u64 y.want, .int .u64 y.old, .int .u64 y.now, .bool y.ok] 44)).below hb1 (by simp; omega)
            clear hb1 b0 b1 b2 b3 b4 b5 b6 c0 c1 c2 c3 c4 c5 c6
            have hlv := lvOf_take l i k (by have := HN.out; omega) hki
            rw [HX.out, HY.out, hfr, if_neg (by simp)] at hlv
            have hm := lvOf_b x (l.take k) ((lvs l i).take k) 0 i (by omega) (by omega) (fun z hz => lvs_b l i z (List.mem_of_mem_take hz))
            have hz : 0 ≤ (lvs l i).getD k 0 ∧ (lvs l i).getD k 0 + 1 ≤ (i : Int) := lvs_b l i _ (by have := lvs_length l i; simp [List.getD, this, hki])
            have hci := hB1.cell (lvRow_at l i _)
            have hck := hB1.cell (lvRow_lo l i k _ hki)
            have hfi := hB1.frozen i
            have HS := Lib.hid (fun m' => hB1.set_ i (.int .i64 m'))
            have HLV := Lib.hid hlv
            have HO1 := Lib.hid hO1
            clear hlv hB1 hO1
            generalize lvOf x (l.take k) ((lvs l i).take k) 0 = m at *
            generalize (lvs l i).getD k 0 = z at *
            obtain ⟨hm1, hm2⟩ := hm
            obtain ⟨hz1, hz2⟩ := hz
            go_region
            have hq : (if m < z + 1 then z + 1 else m) = max m (z + 1) := by split <;> omega
            rw [hq]
            have HBN := Lib.hid (HS.out (max m (z + 1)))
            replace HO1 := Lib.hid (HO1.out.set_ i (.int .i64 (max m (z + 1))))
            generalize w1.setCell ⟨w.heap.size, i, none⟩ (.int .i64 (max m (z + 1))) = w2 at *
            clear HS hci hck hfi hq
            generalize max m (z + 1) = q at *
            go_wp2
            refine ⟨⟨k + 1, by omega, by go_num, HO1.out.drew, ?_⟩, by simp [intOf]; omega⟩
            have h := HBN.out
            rw [ints_set, lvRow_set] at h
            rw [HLV.out]
            exact h.drew
          · go_wp2_with (go_at_call 47; refine (Free_any y x _).mono ?_; rintro e w1 ⟨rfl, hb1⟩)
            have hO1 := (HOI.out.alloc (.cells #[.int .i64 y.thread, .int .i64 y.kind, .int .i64 y.addr, .int .u64 y.want, .int .u64 y.old, .int .u64 y.now, .bool y.ok] 44)).trans (.of_below hb1)
            have hB1 := (HBI.out.alloc (.cells #[.int .i64 y.thread, .int .i64 y.kind, .int .i64 y.addr, .int .u64 y.want, .int .u64 y.old, .int .u64 y.now, .bool y.ok] 44)).below hb1 (by simp; omega)
            refine ⟨⟨k + 1, by omega, by go_num, hO1, ?_⟩, by simp [intOf]; omega⟩
            have h := lvOf_take l i k (by have := HN.out; omega) hki
            rw [HX.out, HY.out, hfr, if_pos rfl] at h
            rw [h]
            exact hB1
        · go_wp2
          refine ⟨⟨i + 1, by omega, by go_num, (HO.out).trans HOI.out, ?_⟩, by simp [intOf]; omega⟩
          have h := HBI.out
          obtain rfl : k = i := by omega
          have hll := lvs_length l k
          rw [List.take_of_length_le (l := lvs l k) (by omega), ← HX.out, lvRow_next, HN.out] at h
          exact h
    · go_wp2
      go_ret
      obtain rfl : i = n := by omega
      have h := HB.out
      rw [Nat.sub_self, List.replicate_zero, List.append_nil] at h
      unfold RetInts
      rw [lvs_length]
      exact ⟨_, _, rfl, h.rd, HO.out.below (Nat.le_refl _) (Nat.le_refl _)⟩

end Go.Proofs.Ytmllbailfbjoeaa

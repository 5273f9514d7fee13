/- How deep accesses lie, and how many of them clash: the program's counts and the document's. -/
import Derived.Test.YtmllbailfbjoeaaRLevels
namespace Go.Proofs.Ytmllbailfbjoeaa
open Go.RowKit Go.Sort

def depthS (ls : List Int) : Int := ls.foldl (fun n x => max n (x + 1)) 0

theorem depth_take (ls : List Int) (k : Nat) (h : k < ls.length) : depthS (ls.take (k + 1)) = max (depthS (ls.take k)) (ls.getD k 0 + 1) := by
  unfold depthS
  rw [List.take_succ_eq_append_getElem h, List.foldl_append]
  simp [List.getD, h]

theorem depth_b (ls : List Int) (m : Int) (hm : 0 ≤ m) (h : ∀ x ∈ ls, 0 ≤ x ∧ x + 1 ≤ m) : 0 ≤ depthS ls ∧ depthS ls ≤ m := by
  unfold depthS
  have : ∀ (ls : List Int) (n : Int), 0 ≤ n → n ≤ m → (∀ x ∈ ls, 0 ≤ x ∧ x + 1 ≤ m) → 0 ≤ ls.foldl (fun n x => max n (x + 1)) n ∧ ls.foldl (fun n x => max n (x + 1)) n ≤ m := by
    intro ls
    induction ls with
    | nil => intro n h1 h2 _; simp; omega
    | cons x r ih =>
      intro n h1 h2 h3
      have hx := h3 x (by simp)
      simp only [List.foldl_cons]
      exact ih (max n (x + 1)) (by omega) (by omega) (fun y hy => h3 y (by simp [hy]))
  exact this ls 0 (by omega) hm h

set_option maxHeartbeats 2000000 in
set_option maxRecDepth 100000 in
theorem Depth_any (A : Option Addr) (c : Nat) (l : List Acc) (w : World) (hl : l.length ≤ 1048576) (hlc : l.length ≤ c) (hR : Rd w A (accs l)) :
    Calls Try.prog 52 #[.slice A l.length c] w fun e w' => e = .returned (.int .i64 (depthS (lvs l l.length))) ∧ Below w.heap.size w w' := by
  have HL := Lib.hid (Levels_any A c l w hl hlc hR)
  have HLN := Lib.hid (lvs_length l l.length)
  have HLB := Lib.hid (lvs_b l l.length)
  clear hlc hR
  generalize l.length = n at *
  generalize lvs l n = ls at *
  go_enter Try.func52, Try.ntmps52
  go_wp2_with fail
  refine HL.out.mono ?_
  rintro e w1 ⟨V, cv, rfl, hv, hb1⟩
  rw [HLN.out]
  have HV := Lib.hid hv
  clear hv
  go_wp2
  go_loop [3, 9] (fun m i => ∃ k : Nat, k ≤ n ∧ i = .int .i64 k ∧ m = .int .i64 (depthS (ls.take k))) (fun _ i => n - (intOf i).toNat)
  case atStart => exact ⟨0, Nat.zero_le _, rfl, rfl⟩
  case round =>
    obtain ⟨k, hk, rfl, rfl⟩ := hrel
    by_cases hlt : k < n
    · have hkl : k < ls.length := by rw [HLN.out]; exact hlt
      obtain ⟨b, o, rfl, hbl, hc⟩ := HV.out.at_ (by rw [ints_length]; omega)
      have x1 := hc k _ (ints_at hkl)
      have hd := depth_take ls k hkl
      have hz := HLB.out (ls.getD k 0) (by simp [List.getD, hkl])
      have hm := depth_b (ls.take k) n (by omega) (fun x hx => HLB.out x (List.mem_of_mem_take hx))
      have HD := Lib.hid hd
      clear hc hd hkl
      generalize ls.getD k 0 = z at *
      generalize depthS (ls.take k) = m at *
      obtain ⟨z1, z2⟩ := hz
      obtain ⟨m1, m2⟩ := hm
      have hq : (if m < z + 1 then z + 1 else m) = max m (z + 1) := by split <;> omega
      go_wp2
      all_goals
        go_round
        case rel => exact ⟨k + 1, by omega, by go_num, by first | (rw [HD.out]; done) | (rw [HD.out]; congr 1; omega)⟩
        case measure => simp [intOf]; omega
    · go_wp2
      go_ret
      exact ⟨ret_int (by rw [List.take_of_length_le (by rw [HLN.out]; omega)]), hb1⟩

def clOf (b : Acc) (ps : List Acc) (n : Int) : Int := ps.foldl (fun n a => if (a.thread != b.thread && !freeB a b) = true then n + 1 else n) n
def cls (l : List Acc) : Nat → Int
  | 0 => 0
  | i + 1 => clOf (l.getD i Acc.none) (l.take i) (cls l i)

theorem clOf_take (b : Acc) (l : List Acc) (n : Int) (k : Nat) (h : k < l.length) :
    clOf b (l.take (k + 1)) n = if ((l.getD k Acc.none).thread != b.thread && !freeB (l.getD k Acc.none) b) = true then clOf b (l.take k) n + 1 else clOf b (l.take k) n := by
  unfold clOf
  rw [List.take_succ_eq_append_getElem h, List.foldl_append]
  simp [List.getD, h]

theorem clOf_b (b : Acc) : ∀ (ps : List Acc) (n : Int), n ≤ clOf b ps n ∧ clOf b ps n ≤ n + ps.length := by
  intro ps
  induction ps with
  | nil => intro n; simp [clOf]
  | cons a r ih =>
    intro n
    have := ih (if (a.thread != b.thread && !freeB a b) = true then n + 1 else n)
    simp only [clOf, List.foldl_cons, List.length_cons] at *
    split at this <;> rename_i h <;> simp only [h, if_true, Bool.false_eq_true, if_false] <;> omega

theorem cls_b (l : List Acc) : ∀ i, i ≤ 1048576 → 0 ≤ cls l i ∧ cls l i ≤ 1048576 * i
  | 0, _ => by simp [cls]
  | i + 1, h => by
    have h1 := cls_b l i (by omega)
    have h2 := clOf_b (l.getD i Acc.none) (l.take i) (cls l i)
    have h3 : ((l.take i).length : Int) ≤ i := by simp; omega
    simp only [cls]
    omega

set_option maxHeartbeats 8000000 in
set_option maxRecDepth 100000 in
theorem Clashes_any (A : Option Addr) (c : Nat) (l : List Acc) (w : World) (hl : l.length ≤ 1048576) (hlc : l.length ≤ c) (hR : Rd w A (accs l)) :
    Calls Try.prog 53 #[.slice A l.length c] w fun e w' => e = .returned (.int .i64 (cls l l.length)) ∧ Below w.heap.size w w' := by
  have HR := Lib.hid hR
  clear hR
  generalize hn : l.length = n at hl hlc ⊢
  have HN := Lib.hid hn
  clear hn
  go_enter Try.func53, Try.ntmps53
  go_wp2
  go_loopw [3, 10] (fun m i wr => ∃ k : Nat, k ≤ n ∧ i = .int .i64 k ∧ m = .int .i64 (cls l k) ∧ Below w.heap.size w wr) (fun _ i _ => n - (intOf i).toNat)
  case atStart => exact ⟨0, Nat.zero_le _, rfl, rfl, Below.refl _ _⟩
  case round =>
    obtain ⟨i, hi, rfl, rfl, hb⟩ := hrel
    have HB := Lib.hid hb
    clear hb
    by_cases hlt : i < n
    · have hil : i < l.length := by rw [HN.out]; exact hlt
      obtain ⟨b, o, rfl, hbl, hc⟩ := HR.out.at_ (by rw [accs_length]; omega)
      generalize hx : l.getD i Acc.none = x
      have hcb := cls_b l i (by omega)
      have hcr : ∀ k v, (accs l)[k]? = some v → wr.cell? ⟨b, o + k, none⟩ = some v := fun k v hk => by
        rw [HB.out.cell (p := ⟨b, o + k, none⟩) hbl]; exact hc k v hk
      obtain ⟨c0, c1, c2, c3, c4, c5, c6⟩ := acc_cells hcr hil hx
      clear hcr
      have HX := Lib.hid hx
      have HC := Lib.hid hc
      clear hc hx hil
      generalize hcl : cls l i = cl at hcb ⊢
      have HCL := Lib.hid hcl
      clear hcl
      obtain ⟨b1, b2⟩ := hcb
      go_wp2
      have hgl : b < wr.heap.size := Nat.lt_of_lt_of_le hbl HB.out.size
      have hbox : ∀ j v, x.cells[j]? = some v → (wr.alloc (.cells #[.int .i64 x.thread, .int .i64 x.kind, .int .i64 x.addr, .int .u64 x.want, .int .u64 x.old, .int .u64 x.now, .bool x.ok] 44)).cell? ⟨wr.heap.size, j, none⟩ = some v := fun j v hj => by
        rw [World.cell?_alloc_at (hn := rfl), ← hj]; simp [Acc.cells]
      replace HB := Lib.hid (HB.out.alloc HB.out.size (.cells #[.int .i64 x.thread, .int .i64 x.kind, .int .i64 x.addr, .int .u64 x.want, .int .u64 x.old, .int .u64 x.now, .bool x.ok] 44))
      have hsz : wr.heap.size < (wr.alloc (.cells #[.int .i64 x.thread, .int .i64 x.kind, .int .i64 x.addr, .int .u64 x.want, .int .u64 x.old, .int .u64 x.now, .bool x.ok] 44)).heap.size := by simp
      generalize wr.alloc (.cells #[.int .i64 x.thread, .int .i64 x.kind, .int .i64 x.addr, .int .u64 x.want, .int .u64 x.old, .int .u64 x.now, .bool x.ok] 44) = wo at *
      generalize hgb : wr.heap.size = gb at *
      clear hgb c0 c1 c2 c3 c4 c5 c6
      have HBOX := Lib.hid hbox
      clear hbox
      go_loopw [3, 19] (fun m j wi => ∃ k : Nat, k ≤ i ∧ j = .int .i64 k ∧ m = .int .i64 (clOf x (l.take k) cl) ∧ Below wo.heap.size wo wi) (fun _ j _ => i - (intOf j).toNat)
      case atStart => exact ⟨0, Nat.zero_le _, rfl, by simp [clOf], Below.refl _ _⟩
      case round =>
        obtain ⟨k, hk, rfl, rfl, hbi⟩ := hrel
        have HBI := Lib.hid hbi
        clear hbi
        by_cases hki : k < i
        · have hkl : k < l.length := by have := HN.out; omega
          have hil : i < l.length := by have := HN.out; omega
          have hbo : b < wo.heap.size := Nat.lt_of_lt_of_le hbl HB.out.size
          have hcr : ∀ k v, (accs l)[k]? = some v → wr.cell? ⟨b, o + k, none⟩ = some v := fun k v hk => by
            rw [HBI.out.cell (p := ⟨b, o + k, none⟩) hbo, HB.out.cell (p := ⟨b, o + k, none⟩) hbl]; exact HC.out k v hk
          generalize hy : l.getD k Acc.none = y
          obtain ⟨c0, c1, c2, c3, c4, c5, c6⟩ := acc_cells hcr hkl hy
          have hct := clOf_take x l cl k hkl
          rw [hy] at hct
          have hcb := clOf_b x (l.take k) cl
          have hlk : ((l.take k).length : Int) ≤ k := by simp; omega
          have HCT := Lib.hid hct
          have hcm0 : 0 ≤ clOf x (l.take k) cl ∧ clOf x (l.take k) cl ≤ 2199023255552 := by omega
          clear hct hy hkl hcb hlk
          generalize hcm : clOf x (l.take k) cl = cm at *
          clear hcm
          obtain ⟨b3, b4⟩ := hcm0
          clear hcr hil
          have hbr : ∀ j v, x.cells[j]? = some v → wr.cell? ⟨gb, j, none⟩ = some v := fun j v hj => by
            rw [HBI.out.cell (p := ⟨gb, j, none⟩) hsz]; exact HBOX.out j v hj
          have d0 := hbr 0 _ rfl
          have d1 := hbr 1 _ rfl
          have d2 := hbr 2 _ rfl
          have d3 := hbr 3 _ rfl
          have d4 := hbr 4 _ rfl
          have d5 := hbr 5 _ rfl
          have d6 := hbr 6 _ rfl
          have hgr : gb < wr.heap.size := Nat.lt_of_lt_of_le hsz HBI.out.size
          clear hbr
          have HF := Lib.hid (Free_any y x)
          cases hth : y.thread != x.thread
          · go_wp2
            refine ⟨⟨k + 1, by omega, by go_num, by rw [HCT.out, hth]; simp, HBI.out.alloc HBI.out.size _⟩, by simp [intOf]; omega⟩
          · cases hfr : freeB y x
            all_goals
              rw [hfr] at HF
              go_wp2_with (go_at_call 47; refine (HF.out _).mono ?_; rintro e w1 ⟨rfl, hb1⟩)
              refine ⟨⟨k + 1, by omega, by go_num, by rw [HCT.out, hth, hfr]; simp, (HBI.out.alloc HBI.out.size _).trans (hb1.mono (Nat.le_trans HBI.out.size (by simp)))⟩, by simp [intOf]; omega⟩
        · go_wp2
          obtain rfl : k = i := by omega
          refine ⟨⟨k + 1, by omega, by go_num, by rw [cls, HX.out, HCL.out], HB.out.trans (HBI.out.mono HB.out.size)⟩, by simp [intOf]; omega⟩
    · go_wp2
      go_ret
      obtain rfl : i = n := by omega
      exact ⟨rfl, HB.out⟩

end Go.Proofs.Ytmllbailfbjoeaa

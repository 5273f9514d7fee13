/- A call, out of its words: script.call, walked. -/
import Derived.Test.YtalkllfgedacoaaGreatDoorD19
import Derived.Test.YtalkllfgedacoaaGreatDoorD20
import Derived.Test.YtalkllfgedacoaaGreatDoorD15
import Derived.Laws.CopyOwn
import Derived.Great.Walk
import Derived.Deep.DeepCutAuto
namespace Go.Proofs.YtalkllfgedacoaaGreatDoor
open Go.RowKit Go.Sort

theorem two_cells {w : World} {b m : Nat} {x : List Nat} (hx : x.length = m) (hm : m ≤ 2) (h : w.heap[b]? = some (.cells (splice [Value.int .i64 0, .int .i64 0] 0 (ints (x.map Int.ofNat))).toArray 160 (0, 0))) :
    Blk w b 160 [.int .i64 (x.getD 0 0 : Nat), .int .i64 (x.getD 1 0 : Nat)] := by
  match x, hx with
  | [], _ => exact h
  | [p], _ => exact h
  | [p, q], _ => exact h
  | _ :: _ :: _ :: _, hx => exfalso; simp at hx; omega

theorem copy_two {W : World} {ab m cN : Nat} {AN : Option Addr} {x : List Nat} (hx : x.length = m) (hm : m ≤ 2) (hb : Blk W ab 160 [.int .i64 0, .int .i64 0])
    (ho : 0 < m → ∃ ad, AN = some ad ∧ ∀ j v, (ints (x.map Int.ofNat))[j]? = some v → W.cell? (ad.add j) = some v) :
    ∃ W4, (Builtin.copy_ #[53, 53] 3 #[.slice (some ⟨ab, 0, none⟩) 2 2, .slice AN m cN]).run Tryz.prog W = .ok (.int .i64 m) W4 ∧ Blk W4 ab 160 [.int .i64 (x.getD 0 0 : Nat), .int .i64 (x.getD 1 0 : Nat)] ∧ Below ab W W4 := by
  have hl : (ints (x.map Int.ofNat)).length = m := by rw [ints_length, List.length_map, hx]
  by_cases h0 : m = 0
  · subst h0
    have hx0 : x = [] := List.eq_nil_of_length_eq_zero hx
    subst hx0
    refine ⟨W, run_copy_none (P := Tryz.prog) W _ _ _ 3 (some ⟨ab, 0, none⟩) AN 2 2 0 cN Tryz.underlying53 (by kernel_rfl) rfl, hb, Below.refl _ _⟩
  · obtain ⟨ad, rfl, hsrc⟩ := ho (by omega)
    have hrun := run_copy_row (P := Tryz.prog) W 53 53 3 3 ab 0 2 2 ad m cN _ _ (ints (x.map Int.ofNat)) Tryz.underlying53 (by kernel_rfl) hb (by rw [hl]; show m = min m 2; omega) hsrc (by rw [hl]; show 0 + m ≤ 2; omega) (ints_one _)
    rw [hl] at hrun
    refine ⟨_, hrun, ?_, below_setRow (Below.refl _ _) (Nat.le_refl _) _⟩
    have hs := setRow_heap W ab _ (([Value.int .i64 0, .int .i64 0].take 0) ++ (ints (x.map Int.ofNat) ++ [Value.int .i64 0, .int .i64 0].drop (0 + (ints (x.map Int.ofNat)).length))).toArray _ _ hb
    rw [hl] at hs
    refine two_cells hx hm ?_
    have e : splice [Value.int .i64 0, .int .i64 0] 0 (ints (x.map Int.ofNat)) = (([Value.int .i64 0, .int .i64 0].take 0) ++ (ints (x.map Int.ofNat) ++ [Value.int .i64 0, .int .i64 0].drop (0 + m))) := by unfold splice; rw [hl]
    rw [e]
    exact hs

/-- A row of the table of calls. -/
structure Row12 where
  (many : Int)
  (q : Reqr)
  (cs : List Cse)
instance : Cellful Row12 where
  cells := fun a => .int .i64 a.many :: a.q.cells
  s := 6
  dflt := ⟨0, ⟨0, 0, 0, false, none, 0, 0⟩, []⟩
  len := fun _ => rfl
  one := fun a u hu => by
    simp only [Reqr.cells, List.mem_cons, List.not_mem_nil, or_false] at hu
    rcases hu with rfl | rfl | rfl | rfl | rfl | rfl <;> rfl
def tab12 (a b : Int) (A5 A6 A7 A8 : Option Addr) (c5 c6 c7 c8 : Nat) : List Row12 :=
  [⟨1, ⟨1, a, 0, false, none, 0, 0⟩, []⟩, ⟨1, ⟨2, a, 0, false, none, 0, 0⟩, []⟩, ⟨1, ⟨4, a, 0, false, none, 0, 0⟩, []⟩, ⟨1, ⟨5, a, 0, false, none, 0, 0⟩, []⟩, ⟨1, ⟨6, a, 0, false, none, 0, 0⟩, []⟩,
   ⟨2, ⟨3, 0, 0, false, A5, 1, c5⟩, [⟨1, a, b⟩]⟩, ⟨1, ⟨3, 0, 0, false, A6, 1, c6⟩, [⟨2, a, 0⟩]⟩, ⟨2, ⟨3, 0, 0, true, A7, 1, c7⟩, [⟨1, a, b⟩]⟩, ⟨1, ⟨3, 0, 0, true, A8, 1, c8⟩, [⟨2, a, 0⟩]⟩,
   ⟨2, ⟨7, a, b, false, none, 0, 0⟩, []⟩, ⟨1, ⟨8, 0, a, false, none, 0, 0⟩, []⟩, ⟨0, ⟨9, 0, 0, false, none, 0, 0⟩, []⟩]
def names12 : List ByteArray := [w_makeS, w_freeS, w_closeS, w_lenS, w_capS, w_sendS, w_recvS, w_trysendS, w_tryrecvS, w_cancelS, w_putS, w_takeS]

theorem tab_name (a b : Int) (A5 A6 A7 A8 : Option Addr) (c5 c6 c7 c8 : Nat) : ∀ k, k < 12 → nameS ((tab12 a b A5 A6 A7 A8 c5 c6 c7 c8).getD k Cellful.dflt).q ((tab12 a b A5 A6 A7 A8 c5 c6 c7 c8).getD k Cellful.dflt).cs = names12.getD k ⟨#[]⟩
  | 0, _ | 1, _ | 2, _ | 3, _ | 4, _ | 5, _ | 6, _ | 7, _ | 8, _ | 9, _ | 10, _ | 11, _ => rfl
theorem tab_at (a b : Int) (A5 A6 A7 A8 : Option Addr) (c5 c6 c7 c8 m : Nat) : ∀ k, k < 12 → tabQ (names12.getD k ⟨#[]⟩) m a b = if ((tab12 a b A5 A6 A7 A8 c5 c6 c7 c8).getD k Cellful.dflt).many = (m : Int) then some ⟨((tab12 a b A5 A6 A7 A8 c5 c6 c7 c8).getD k Cellful.dflt).q.kind, ((tab12 a b A5 A6 A7 A8 c5 c6 c7 c8).getD k Cellful.dflt).q.arg, ((tab12 a b A5 A6 A7 A8 c5 c6 c7 c8).getD k Cellful.dflt).q.value, ((tab12 a b A5 A6 A7 A8 c5 c6 c7 c8).getD k Cellful.dflt).q.dflt, ((tab12 a b A5 A6 A7 A8 c5 c6 c7 c8).getD k Cellful.dflt).cs⟩ else none
  | 0, _ | 1, _ | 2, _ | 3, _ | 4, _ | 6, _ | 8, _ | 10, _ => by
    show (if m = 1 then _ else none) = (if (1 : Int) = (m : Int) then _ else none)
    by_cases h : m = 1
    · rw [if_pos h, if_pos (by omega)]; rfl
    · rw [if_neg h, if_neg (by omega)]
  | 5, _ | 7, _ | 9, _ => by
    show (if m = 2 then _ else none) = (if (2 : Int) = (m : Int) then _ else none)
    by_cases h : m = 2
    · rw [if_pos h, if_pos (by omega)]; rfl
    · rw [if_neg h, if_neg (by omega)]
  | 11, _ => by
    show (if m = 0 then _ else none) = (if (0 : Int) = (m : Int) then _ else none)
    by_cases h : m = 0
    · rw [if_pos h, if_pos (by omega)]; rfl
    · rw [if_neg h, if_neg (by omega)]
theorem tab_none {h : ByteArray} {m : Nat} {a b : Int} (hno : ∀ j, j < 12 → ¬ names12.getD j ⟨#[]⟩ = h) : tabQ h m a b = none := by
  have g : ∀ j x, j < 12 → names12.getD j ⟨#[]⟩ = x → ¬ h = x := fun j x h1 h2 h3 => hno j h1 (h2.trans h3.symm)
  unfold tabQ
  rw [if_neg (g 0 w_makeS (by omega) rfl), if_neg (g 1 w_freeS (by omega) rfl), if_neg (g 2 w_closeS (by omega) rfl), if_neg (g 3 w_lenS (by omega) rfl), if_neg (g 4 w_capS (by omega) rfl), if_neg (g 5 w_sendS (by omega) rfl), if_neg (g 6 w_recvS (by omega) rfl), if_neg (g 7 w_trysendS (by omega) rfl), if_neg (g 8 w_tryrecvS (by omega) rfl), if_neg (g 9 w_cancelS (by omega) rfl), if_neg (g 10 w_putS (by omega) rfl), if_neg (g 11 w_takeS (by omega) rfl)]

theorem tab_reqs {a b : Int} {A5 A6 A7 A8 : Option Addr} {c5 c6 c7 c8 : Nat} {W : World} (h5 : ReqAt W ⟨3, 0, 0, false, A5, 1, c5⟩ [⟨1, a, b⟩]) (h6 : ReqAt W ⟨3, 0, 0, false, A6, 1, c6⟩ [⟨2, a, 0⟩]) (h7 : ReqAt W ⟨3, 0, 0, true, A7, 1, c7⟩ [⟨1, a, b⟩]) (h8 : ReqAt W ⟨3, 0, 0, true, A8, 1, c8⟩ [⟨2, a, 0⟩]) :
    ∀ k, k < 12 → ReqAt W ((tab12 a b A5 A6 A7 A8 c5 c6 c7 c8).getD k Cellful.dflt).q ((tab12 a b A5 A6 A7 A8 c5 c6 c7 c8).getD k Cellful.dflt).cs
  | 5, _ => h5
  | 6, _ => h6
  | 7, _ => h7
  | 8, _ => h8
  | 0, _ | 1, _ | 2, _ | 3, _ | 4, _ | 9, _ | 10, _ | 11, _ => ⟨rfl, .inl rfl⟩
theorem tab_apart {a b : Int} {A5 A6 A7 A8 : Option Addr} {c5 c6 c7 c8 z : Nat} (h5 : ∀ g o, A5 = some ⟨g, o, none⟩ → z < g) (h6 : ∀ g o, A6 = some ⟨g, o, none⟩ → z < g) (h7 : ∀ g o, A7 = some ⟨g, o, none⟩ → z < g) (h8 : ∀ g o, A8 = some ⟨g, o, none⟩ → z < g) :
    ∀ k, k < 12 → ∀ g o, ((tab12 a b A5 A6 A7 A8 c5 c6 c7 c8).getD k Cellful.dflt).q.A = some ⟨g, o, none⟩ → z < g
  | 5, _ => h5
  | 6, _ => h6
  | 7, _ => h7
  | 8, _ => h8
  | 0, _ | 1, _ | 2, _ | 3, _ | 4, _ | 9, _ | 10, _ | 11, _ => fun _ _ e => nomatch e

/-- What stands behind the table. -/
structure TabAt (w0 W4 : World) (a b : Int) (tb : Nat) (A5 A6 A7 A8 : Option Addr) (c5 c6 c7 c8 : Nat) (wx : World) : Prop where
  blk : Blk wx tb 162 (rows (tab12 a b A5 A6 A7 A8 c5 c6 c7 c8))
  at_ : ∀ k, k < 12 → ReqAt wx ((tab12 a b A5 A6 A7 A8 c5 c6 c7 c8).getD k Cellful.dflt).q ((tab12 a b A5 A6 A7 A8 c5 c6 c7 c8).getD k Cellful.dflt).cs
  apart : ∀ k, k < 12 → ∀ g o, ((tab12 a b A5 A6 A7 A8 c5 c6 c7 c8).getD k Cellful.dflt).q.A = some ⟨g, o, none⟩ → w0.heap.size < g
  bel : Below W4.heap.size W4 wx

set_option maxHeartbeats 16000000 in
set_option maxRecDepth 100000 in
theorem call24_num (AB : Nat) (oo c m : Nat) (l lt : List ByteArray) (h : ByteArray) (w : World) (hn : m + 1 ≤ 1048576) (hc : m + 1 ≤ c) (hbl : AB < w.heap.size) (x0 : w.cell? ⟨AB, oo, none⟩ = some (.string h))
    (hTL : lt.length = m) (hZT : ∀ x ∈ lt, x.size ≤ 1073741824) (hRT : Rd w (some ⟨AB, oo + 1, none⟩) (rows lt)) (hs : ¬ h = selS)
    (hVN0 : callQ l = match numsQ 4294967295 lt with
      | none => none
      | some n => wordN h n) (he : ErrT w) (ht : TabT w) :
    Calls Tryz.prog 66 #[.slice (some ⟨AB, oo, none⟩) (m + 1) c] w fun e w' => CallNo l w e w' ∨ CallOk l w e w' := by
  have HTL := Lib.hid hTL
  have HZT := Lib.hid hZT
  have HRT := Lib.hid hRT
  have HE := Lib.hid he
  have HT := Lib.hid ht
  have HVN0 := Lib.hid hVN0
  have e0 := eqL (l := [115, 101, 108, 101, 99, 116]) hs (by decide +kernel)
  have R1 := Lib.hid (Blk.new w 24 (Reqr.cells ⟨0, 0, 0, false, none, 0, 0⟩))
  have B1 := Lib.hid ((Below.refl w.heap.size w).alloc (Nat.le_refl _) (.cells (Reqr.cells ⟨0, 0, 0, false, none, 0, 0⟩).toArray 24))
  clear hTL hZT hRT he ht hVN0 hs
  go_enter Tryz.func66, Tryz.ntmps66
  go_upto_region 5 with (fail)
  have hW : RowKit.Hid (w.alloc (.cells (Reqr.cells ⟨0, 0, 0, false, none, 0, 0⟩).toArray 24) = w.alloc (.cells #[.int .i64 0, .int .i64 0, .int .i64 0, .bool false, .slice none 0 0] 24)) := Lib.hid rfl
  rw [hW.out] at R1 B1
  clear hW
  generalize w.alloc (.cells #[.int .i64 0, .int .i64 0, .int .i64 0, .bool false, .slice none 0 0] 24) = W0 at *
  go_cut [4, 5] (fun s4 s5 wx => Below W0.heap.size W0 wx ∧ ((numsQ 4294967295 lt = none ∧ s4 = .slice none 0 0 ∧ s5 = .bool false) ∨ ∃ x AN cN, numsQ 4294967295 lt = some x ∧ s4 = .slice AN m cN ∧ s5 = .bool true ∧ wx.ownsRow W0.heap.size 3 1 (.slice AN m cN) m (ints (x.map Int.ofNat))))
  case first =>
    by_cases hc1 : c = 1
    · subst hc1
      obtain rfl : m = 0 := by omega
      have hlt0 : lt = [] := List.eq_nil_of_length_eq_zero HTL.out
      subst hlt0
      have HNB := Lib.hid (numbers24_any 4294967295 (some ⟨AB, oo, none⟩) 0 0 ([] : List ByteArray) W0 (Nat.le_refl _) rfl (Nat.zero_le _) (.inl rfl) (fun x hx => by cases hx) (HE.out.below B1.out) (HT.out.below B1.out))
      unfold NumsPost NumsNo NumsOk at HNB
      go_wp2_with fail
      refine HNB.out.mono ?_
      rintro e w2 (⟨h1, _⟩ | ⟨x, AN, cN, h1, rfl, hown, hb2⟩)
      · cases h1
      have hxl : x.length = 0 := (numsQ_len h1)
      rw [hxl] at hown ⊢
      go_wp2_with fail
      go_meet
      exact ⟨hb2, .inr ⟨x, AN, cN, h1, rfl, rfl, hown⟩⟩
    · have q5 : ¬ c - 1 = 0 := by omega
      have HNB := Lib.hid (numbers24_any 4294967295 (some ⟨AB, oo + 1, none⟩) m (c - 1) lt W0 (Nat.le_refl _) HTL.out (by omega) (HRT.out.below B1.out) (fun x hx => by have := HZT.out x hx; omega) (HE.out.below B1.out) (HT.out.below B1.out))
      unfold NumsPost NumsNo NumsOk at HNB
      go_wp2_with fail
      refine HNB.out.mono ?_
      rintro e w2 (⟨h1, rfl, hb2⟩ | ⟨x, AN, cN, h1, rfl, hown, hb2⟩)
      · go_wp2_with fail
        go_meet
        exact ⟨hb2, .inl ⟨h1, rfl, rfl⟩⟩
      · have hxl : x.length = m := (numsQ_len h1).trans HTL.out
        rw [hxl] at hown ⊢
        go_wp2_with fail
        go_meet
        exact ⟨hb2, .inr ⟨x, AN, cN, h1, rfl, rfl, hown⟩⟩
  case rest =>
    obtain ⟨hb2, hcut⟩ := hcut
    rcases hcut with ⟨hq, rfl, rfl⟩ | ⟨x, AN, cN, hq, rfl, rfl, hown⟩
    · have HV : RowKit.Hid (callQ l = none) := Lib.hid (by rw [HVN0.out, hq])
      have R2 := Lib.hid (R1.out.below hb2 R1.out.lt)
      have B2 := Lib.hid (B1.out.trans (hb2.mono B1.out.size))
      clear hb2 hq x0
      have z0 := R2.out.cell (i := 0) rfl
      have f0 := R2.out.frozen 0
      have z1 := R2.out.cell (i := 1) rfl
      have f1 := R2.out.frozen 1
      have z2 := R2.out.cell (i := 2) rfl
      have f2 := R2.out.frozen 2
      have z3 := R2.out.cell (i := 3) rfl
      have f3 := R2.out.frozen 3
      have z4 := R2.out.cell (i := 4) rfl
      have f4 := R2.out.frozen 4
      have hrl := R2.out.lt
      go_wp2
      obtain ⟨hB, hL⟩ := req_put R2.out ⟨0, 0, 0, false, none, 0, 0⟩
      have hbl := B2.out.trans (hL _ (Nat.le_refl _))
      refine bodyPost_ret (v := .tuple #[reqV ⟨0, 0, 0, false, none, 0, 0⟩, .bool false]) (ret_cell2 (g := w.heap.size) (v := reqV ⟨0, 0, 0, false, none, 0, 0⟩) rfl rfl rfl (req_load hB)) rfl ?_
      exact .inl ⟨HV.out, _, rfl, hbl⟩

    · obtain ⟨W2, hW2⟩ : ∃ W2, W2 = wc := ⟨_, rfl⟩
      subst hW2
      have hxl : x.length = m := (numsQ_len hq).trans HTL.out
      have HXL := Lib.hid hxl
      have HLE := Lib.hid (numsQ_le hq)
      have HVN : RowKit.Hid (callQ l = wordN h x) := Lib.hid (by rw [HVN0.out, hq])
      have R2 := Lib.hid (R1.out.below hb2 R1.out.lt)
      have B2 := Lib.hid (B1.out.trans (hb2.mono B1.out.size))
      have x2 := (hb2.cell (p := ⟨AB, oo, none⟩) (Nat.lt_of_lt_of_le hbl B1.out.size)).trans ((B1.out.cell (p := ⟨AB, oo, none⟩) hbl).trans x0)
      have hbl2 : AB < W2.heap.size := Nat.lt_of_lt_of_le hbl B2.out.size
      have HOWN : RowKit.Hid (∀ W : World, Below W2.heap.size W2 W → 0 < m → ∃ ad, AN = some ad ∧ ∀ j v, (ints (x.map Int.ofNat))[j]? = some v → W.cell? (ad.add j) = some v) := Lib.hid (fun W hw hp => by
        obtain ⟨g, e, hg, hgl⟩ := own_some hown hp
        subst e
        refine ⟨_, rfl, fun j v hj => ?_⟩
        rcases own_rd hown with h' | ⟨b, o', e, hb, hcc⟩
        · rw [h'] at hj; cases hj
        · injection e with e
          injection e with e1 e2
          subst e1 e2
          have ea : (⟨g, 0, none⟩ : Addr).add j = ⟨g, 0 + j, none⟩ := by (simp [Addr.add]; exact fun h => h.symm)
          rw [ea, hw.cell (p := ⟨g, 0 + j, none⟩) hgl]
          exact hcc j v hj)
      have HNC : RowKit.Hid (0 < m → ∃ g, AN = some ⟨g, 0, none⟩ ∧ g < W2.heap.size ∧ W2.cell? ⟨g, 0, none⟩ = some (.int .i64 (x.getD 0 0 : Nat))) := Lib.hid (fun hp => by
        obtain ⟨g, e, _, hgl, hcs⟩ := nums_cell hown hp
        exact ⟨g, e, hgl, hcs 0 (by omega)⟩)
      clear hb2 hq x0 hown hxl HVN0 HTL HZT HRT
      by_cases hm3 : 2 < m
      · have q3 : (2 : Int) < (m : Int) := by omega
        have HV : RowKit.Hid (callQ l = none) := Lib.hid (by rw [HVN.out]; unfold wordN; rw [HXL.out, if_pos (.inl (by omega))])
        have z0 := R2.out.cell (i := 0) rfl
        have f0 := R2.out.frozen 0
        have z1 := R2.out.cell (i := 1) rfl
        have f1 := R2.out.frozen 1
        have z2 := R2.out.cell (i := 2) rfl
        have f2 := R2.out.frozen 2
        have z3 := R2.out.cell (i := 3) rfl
        have f3 := R2.out.frozen 3
        have z4 := R2.out.cell (i := 4) rfl
        have f4 := R2.out.frozen 4
        have hrl := R2.out.lt
        go_wp2
        obtain ⟨hB, hL⟩ := req_put R2.out ⟨0, 0, 0, false, none, 0, 0⟩
        have hbl := B2.out.trans (hL _ (Nat.le_refl _))
        refine bodyPost_ret (v := .tuple #[reqV ⟨0, 0, 0, false, none, 0, 0⟩, .bool false]) (ret_cell2 (g := w.heap.size) (v := reqV ⟨0, 0, 0, false, none, 0, 0⟩) rfl rfl rfl (req_load hB)) rfl ?_
        exact .inl ⟨HV.out, _, rfl, hbl⟩

      have q3 : ¬ (2 : Int) < (m : Int) := by omega
      by_cases hbad : 0 < m ∧ 65535 < x.getD 0 0 ∧ ¬ h = w_putS
      · obtain ⟨g1, g2, g3⟩ := hbad
        have HV : RowKit.Hid (callQ l = none) := Lib.hid (by rw [HVN.out]; unfold wordN; rw [HXL.out, if_pos (.inr ⟨g1, g2, g3⟩)])
        obtain ⟨b2, rfl, hb2l, y0⟩ := HNC.out g1
        have e_put := eqL (l := [112, 117, 116]) g3 (by decide +kernel)
        generalize x.getD 0 0 = n0 at *
        have q4 : (0 : Int) < (m : Int) := by omega
        have q5 : (65535 : Int) < (n0 : Int) := by omega
        clear g3
        have z0 := R2.out.cell (i := 0) rfl
        have f0 := R2.out.frozen 0
        have z1 := R2.out.cell (i := 1) rfl
        have f1 := R2.out.frozen 1
        have z2 := R2.out.cell (i := 2) rfl
        have f2 := R2.out.frozen 2
        have z3 := R2.out.cell (i := 3) rfl
        have f3 := R2.out.frozen 3
        have z4 := R2.out.cell (i := 4) rfl
        have f4 := R2.out.frozen 4
        have hrl := R2.out.lt
        go_wp2
        obtain ⟨hB, hL⟩ := req_put R2.out ⟨0, 0, 0, false, none, 0, 0⟩
        have hbl := B2.out.trans (hL _ (Nat.le_refl _))
        refine bodyPost_ret (v := .tuple #[reqV ⟨0, 0, 0, false, none, 0, 0⟩, .bool false]) (ret_cell2 (g := w.heap.size) (v := reqV ⟨0, 0, 0, false, none, 0, 0⟩) rfl rfl rfl (req_load hB)) rfl ?_
        exact .inl ⟨HV.out, _, rfl, hbl⟩

      have HVT : RowKit.Hid (callQ l = tabQ h m (x.getD 0 0 : Nat) (x.getD 1 0 : Nat)) := Lib.hid (by
        rw [HVN.out]; unfold wordN; rw [HXL.out, if_neg (fun e => by rcases e with e | e; (exact hm3 e); (exact hbad e))])
      go_upto_region 6 with (fail)
      go_cut [51] (fun s51 wx => s51 = .bool false ∧ wx = W2)
      case first =>
        by_cases hm0 : m = 0
        · subst hm0
          go_wp2_with fail
          go_meet
          exact ⟨rfl, rfl⟩
        · obtain ⟨b2, rfl, hb2l, y0⟩ := HNC.out (by omega)
          have q4 : (0 : Int) < (m : Int) := by omega
          generalize x.getD 0 0 = n0 at *
          by_cases hbig : 65535 < n0
          · have hp : h = w_putS := Classical.byContradiction (fun hp => hbad ⟨by omega, hbig, hp⟩)
            have e_put : (h.toList == [112, 117, 116]) = true := by rw [hp]; decide +kernel
            have q5 : (65535 : Int) < (n0 : Int) := by omega
            clear hp hbad
            go_wp2_with fail
            go_meet
            exact ⟨rfl, rfl⟩
          · have q5 : ¬ (65535 : Int) < (n0 : Int) := by omega
            clear hbad
            go_wp2_with fail
            go_meet
            exact ⟨rfl, rfl⟩
      case rest =>
        obtain ⟨rfl, hw⟩ := hcut
        subst hw
        have HAB := Lib.hid (Blk.new wc 160 [.int .i64 0, .int .i64 0])
        have B3 := Lib.hid (B2.out.alloc B2.out.size (.cells [Value.int .i64 0, .int .i64 0].toArray 160))
        have R3 := Lib.hid (R2.out.alloc (.cells [Value.int .i64 0, .int .i64 0].toArray 160))
        have HBL3 := Lib.hid ((Below.refl wc.heap.size wc).alloc (Nat.le_refl _) (.cells [Value.int .i64 0, .int .i64 0].toArray 160))
        go_upto_region 9 with (fail)
        have hW : RowKit.Hid (wc.alloc (.cells [Value.int .i64 0, .int .i64 0].toArray 160) = wc.alloc (.cells #[.int .i64 0, .int .i64 0] 160)) := Lib.hid rfl
        rw [hW.out] at HAB B3 R3 HBL3
        clear hW
        have HO3 := Lib.hid (HOWN.out _ HBL3.out)
        have X3 := Lib.hid ((HBL3.out.cell (p := ⟨AB, oo, none⟩) hbl2).trans x2)
        have HLE2 := Lib.hid B2.out.size
        have hr2 := R2.out.lt
        generalize wc.alloc (.cells #[.int .i64 0, .int .i64 0] 160) = W3 at *
        generalize wc.heap.size = ab at *
        have hal := HAB.out.lt
        obtain ⟨W4, hrun, ha4, hb4⟩ := copy_two (cN := cN) HXL.out (by omega) HAB.out HO3.out
        have HA4 := Lib.hid ha4
        have R4 := Lib.hid (R3.out.below hb4 hr2)
        have x4 := (hb4.cell (p := ⟨AB, oo, none⟩) hbl2).trans X3.out
        have B4 := Lib.hid (B3.out.trans (hb4.mono HLE2.out))
        have hbl4 : AB < W4.heap.size := Nat.lt_of_lt_of_le hbl B4.out.size
        clear ha4 hb4
        go_upto_region 10 with (fail)
        clear hrun
        clear HAB HO3 X3 HNC HOWN HVN R3 B3 R2 B2 R1 B1 hbad hal x2 HBL3
        generalize x.getD 1 0 = n1 at *
        generalize x.getD 0 0 = n0 at *
        have y0 := HA4.out.cell (i := 0) rfl
        have y1 := HA4.out.cell (i := 1) rfl
        have hal4 := HA4.out.lt
        go_cut [109, 110, 111] (fun s109 s110 s111 wx => ∃ tb A5 A6 A7 A8 c5 c6 c7 c8, s109 = .slice (some ⟨tb, 0, none⟩) 12 12 ∧ s110 = .int .i64 12 ∧ s111 = .int .i64 0 ∧ TabAt w W4 (n0 : Int) (n1 : Int) tb A5 A6 A7 A8 c5 c6 c7 c8 wx)
        case first =>
          have HC0 := Lib.hid (fun W => CMake_any (n0 : Int) W)
          have HC1 := Lib.hid (fun W => CFree_any (n0 : Int) W)
          have HC2 := Lib.hid (fun W => CClose_any (n0 : Int) W)
          have HC3 := Lib.hid (fun W => CLen_any (n0 : Int) W)
          have HC4 := Lib.hid (fun W => CCap_any (n0 : Int) W)
          have HC5 := Lib.hid (fun W => Send_any (n0 : Int) (n1 : Int) W)
          have HC6 := Lib.hid (fun W => Recv_any (n0 : Int) W)
          have HC7 := Lib.hid (fun W => TrySend_any (n0 : Int) (n1 : Int) W)
          have HC8 := Lib.hid (fun W => TryRecv_any (n0 : Int) W)
          have HC9 := Lib.hid (fun W => CCancel_any (n0 : Int) (n1 : Int) W)
          have HC10 := Lib.hid (fun W => CPut_any (n0 : Int) W)
          have HC11 := Lib.hid (fun W => CTake_any  W)
          go_region_held3 (fun w' => w'.cell? ⟨ab, 0, none⟩ = some (.int .i64 (n0 : Int)) ∧ w'.cell? ⟨ab, 1, none⟩ = some (.int .i64 (n1 : Int))) (first | go_keep | (simp only [hk1]; go_keep)) (first
            | (go_at_call 100; (with_reducible refine (HC0.out W4.drew).mono ?_); rintro e v0 ⟨rfl, hb0⟩; have hB0 : Below W4.heap.size W4 v0 := ⟨hb0.os, hb0.tape, hb0.output, hb0.size, hb0.block⟩; have hk1 := fun o => hB0.cell (p := ⟨ab, o, none⟩) hal4)
            | (go_at_call 101; (with_reducible refine (HC1.out v0).mono ?_); rintro e v1 ⟨rfl, hb1⟩; have hB1 : Below W4.heap.size W4 v1 := hB0.trans (hb1.mono hB0.size); have hk1 := fun o => hB1.cell (p := ⟨ab, o, none⟩) hal4)
            | (go_at_call 102; (with_reducible refine (HC2.out v1).mono ?_); rintro e v2 ⟨rfl, hb2⟩; have hB2 : Below W4.heap.size W4 v2 := hB1.trans (hb2.mono hB1.size); have hk1 := fun o => hB2.cell (p := ⟨ab, o, none⟩) hal4)
            | (go_at_call 103; (with_reducible refine (HC3.out v2).mono ?_); rintro e v3 ⟨rfl, hb3⟩; have hB3 : Below W4.heap.size W4 v3 := hB2.trans (hb3.mono hB2.size); have hk1 := fun o => hB3.cell (p := ⟨ab, o, none⟩) hal4)
            | (go_at_call 104; (with_reducible refine (HC4.out v3).mono ?_); rintro e v4 ⟨rfl, hb4⟩; have hB4 : Below W4.heap.size W4 v4 := hB3.trans (hb4.mono hB3.size); have hk1 := fun o => hB4.cell (p := ⟨ab, o, none⟩) hal4)
            | (go_at_call 105; (with_reducible refine (HC5.out v4).mono ?_); rintro e v5 ⟨A5, n5_, c5, rfl, hq5, hn5, hab5, hb5⟩; have hB5 : Below W4.heap.size W4 v5 := hB4.trans (hb5.mono hB4.size); have hk1 := fun o => hB5.cell (p := ⟨ab, o, none⟩) hal4)
            | (go_at_call 106; (with_reducible refine (HC6.out v5).mono ?_); rintro e v6 ⟨A6, n6_, c6, rfl, hq6, hn6, hab6, hb6⟩; have hB6 : Below W4.heap.size W4 v6 := hB5.trans (hb6.mono hB5.size); have hk1 := fun o => hB6.cell (p := ⟨ab, o, none⟩) hal4)
            | (go_at_call 107; (with_reducible refine (HC7.out v6).mono ?_); rintro e v7 ⟨A7, n7_, c7, rfl, hq7, hn7, hab7, hb7⟩; have hB7 : Below W4.heap.size W4 v7 := hB6.trans (hb7.mono hB6.size); have hk1 := fun o => hB7.cell (p := ⟨ab, o, none⟩) hal4)
            | (go_at_call 108; (with_reducible refine (HC8.out v7).mono ?_); rintro e v8 ⟨A8, n8_, c8, rfl, hq8, hn8, hab8, hb8⟩; have hB8 : Below W4.heap.size W4 v8 := hB7.trans (hb8.mono hB7.size); have hk1 := fun o => hB8.cell (p := ⟨ab, o, none⟩) hal4)
            | (go_at_call 109; (with_reducible refine (HC9.out v8).mono ?_); rintro e v9 ⟨rfl, hb9⟩; have hB9 : Below W4.heap.size W4 v9 := hB8.trans (hb9.mono hB8.size); have hk1 := fun o => hB9.cell (p := ⟨ab, o, none⟩) hal4)
            | (go_at_call 110; (with_reducible refine (HC10.out v9).mono ?_); rintro e v10 ⟨rfl, hb10⟩; have hB10 : Below W4.heap.size W4 v10 := hB9.trans (hb10.mono hB9.size); have hk1 := fun o => hB10.cell (p := ⟨ab, o, none⟩) hal4)
            | (go_at_call 111; (with_reducible refine (HC11.out v10).mono ?_); rintro e v11 ⟨rfl, hb11⟩; have hB11 : Below W4.heap.size W4 v11 := hB10.trans (hb11.mono hB10.size); have hk1 := fun o => hB11.cell (p := ⟨ab, o, none⟩) hal4))
          trace_state
          have g6 := hb6
          have g7 := hb7
          have g8 := hb8
          have g9 := hb9
          have g10 := hb10
          have g11 := hb11
          have k10 := g10.trans (g11.mono g10.size)
          have k9 := g9.trans (k10.mono g9.size)
          have k8 := g8.trans (k9.mono g8.size)
          have k7 := g7.trans (k8.mono g7.size)
          have k6 := g6.trans (k7.mono g6.size)
          have hal11 : ∀ ob, Below v11.heap.size v11 (v11.alloc ob) := fun ob => (Below.refl _ _).alloc (Nat.le_refl _) ob
          have HBt := Lib.hid (Blk.new v11 162 (rows (tab12 (n0 : Int) (n1 : Int) A5 A6 A7 A8 c5 c6 c7 c8)))
          have HQ5 := Lib.hid (((hn5 ▸ hq5 : ReqAt v5 ⟨3, 0, 0, false, A5, 1, c5⟩ _).below k6).below (hal11 (.cells (rows (tab12 (n0 : Int) (n1 : Int) A5 A6 A7 A8 c5 c6 c7 c8)).toArray 162)))
          have HQ6 := Lib.hid (((hn6 ▸ hq6 : ReqAt v6 ⟨3, 0, 0, false, A6, 1, c6⟩ _).below k7).below (hal11 (.cells (rows (tab12 (n0 : Int) (n1 : Int) A5 A6 A7 A8 c5 c6 c7 c8)).toArray 162)))
          have HQ7 := Lib.hid (((hn7 ▸ hq7 : ReqAt v7 ⟨3, 0, 0, true, A7, 1, c7⟩ _).below k8).below (hal11 (.cells (rows (tab12 (n0 : Int) (n1 : Int) A5 A6 A7 A8 c5 c6 c7 c8)).toArray 162)))
          have HQ8 := Lib.hid (((hn8 ▸ hq8 : ReqAt v8 ⟨3, 0, 0, true, A8, 1, c8⟩ _).below k9).below (hal11 (.cells (rows (tab12 (n0 : Int) (n1 : Int) A5 A6 A7 A8 c5 c6 c7 c8)).toArray 162)))
          have hw0 : w.heap.size ≤ W4.heap.size := B4.out.size
          have p4 := hB4.size
          have p5 := hB5.size
          have p6 := hB6.size
          have p7 := hB7.size
          have HA5 := Lib.hid (fun b o (h : A5 = some ⟨b, o, none⟩) => show w.heap.size < b from Nat.lt_of_le_of_lt (Nat.le_trans hw0 p4) (hab5 b o h))
          have HA6 := Lib.hid (fun b o (h : A6 = some ⟨b, o, none⟩) => show w.heap.size < b from Nat.lt_of_le_of_lt (Nat.le_trans hw0 p5) (hab6 b o h))
          have HA7 := Lib.hid (fun b o (h : A7 = some ⟨b, o, none⟩) => show w.heap.size < b from Nat.lt_of_le_of_lt (Nat.le_trans hw0 p6) (hab7 b o h))
          have HA8 := Lib.hid (fun b o (h : A8 = some ⟨b, o, none⟩) => show w.heap.size < b from Nat.lt_of_le_of_lt (Nat.le_trans hw0 p7) (hab8 b o h))
          have HBE := Lib.hid (hB11.alloc hB11.size (.cells (rows (tab12 (n0 : Int) (n1 : Int) A5 A6 A7 A8 c5 c6 c7 c8)).toArray 162))
          have HT1 : RowKit.Hid (∀ k, k < 12 → ReqAt (v11.alloc (.cells (rows (tab12 (n0 : Int) (n1 : Int) A5 A6 A7 A8 c5 c6 c7 c8)).toArray 162)) ((tab12 (n0 : Int) (n1 : Int) A5 A6 A7 A8 c5 c6 c7 c8).getD k Cellful.dflt).q ((tab12 (n0 : Int) (n1 : Int) A5 A6 A7 A8 c5 c6 c7 c8).getD k Cellful.dflt).cs) := Lib.hid (tab_reqs HQ5.out HQ6.out HQ7.out HQ8.out)
          have HT2 : RowKit.Hid (∀ k, k < 12 → ∀ g o, ((tab12 (n0 : Int) (n1 : Int) A5 A6 A7 A8 c5 c6 c7 c8).getD k Cellful.dflt).q.A = some ⟨g, o, none⟩ → w.heap.size < g) := Lib.hid (tab_apart HA5.out HA6.out HA7.out HA8.out)
          have HTT : RowKit.Hid (TabAt w W4 (n0 : Int) (n1 : Int) v11.heap.size A5 A6 A7 A8 c5 c6 c7 c8 (v11.alloc (.cells (rows (tab12 (n0 : Int) (n1 : Int) A5 A6 A7 A8 c5 c6 c7 c8)).toArray 162))) := Lib.hid ⟨HBt.out, HT1.out, HT2.out, HBE.out⟩
          clear g6 g7 g8 g9 g10 g11 k6 k7 k8 k9 k10 hal11 HT1 HT2 HBt HQ5 HQ6 HQ7 HQ8 p4 p5 p6 p7 hw0 HA5 HA6 HA7 HA8 HBE
          go_wp2_with fail
          go_meet
          exact ⟨v11.heap.size, A5, A6, A7, A8, c5, c6, c7, c8, rfl, rfl, rfl, HTT.out⟩

        case rest =>
          obtain ⟨tb, A5, A6, A7, A8, c5, c6, c7, c8, rfl, rfl, rfl, hta⟩ := hcut
          have HTA := Lib.hid hta
          have RC := Lib.hid (R4.out.below hta.bel R4.out.lt)
          have BC := Lib.hid (B4.out.trans (hta.bel.mono B4.out.size))
          have xC := (hta.bel.cell (p := ⟨AB, oo, none⟩) hbl4).trans x4
          have hblC : AB < wc.heap.size := Nat.lt_of_lt_of_le hbl4 hta.bel.size
          clear hta y0 y1 hal4 x4 R4 B4
          go_wp2
          go_loopg [111] 12 (fun gg i wr => ∃ k : Nat, k ≤ 12 ∧ gg = 12 - k ∧ i = .int .i64 k ∧ Below wc.heap.size wc wr ∧ ∀ j, j < k → ¬ names12.getD j ⟨#[]⟩ = h)
          case atStart => exact ⟨0, Nat.zero_le _, rfl, rfl, Below.refl _ _, fun j hj => absurd hj (Nat.not_lt_zero _)⟩
          case round =>
            obtain ⟨k, hk, hg, rfl, hb, hno⟩ := hrel
            have HG := Lib.hid hg
            have HB := Lib.hid hb
            have HNO := Lib.hid hno
            clear hg hb hno
            by_cases hlt : k < 12
            · have q6 : (k : Int) < 12 := by omega
              have hTB := HTA.out.blk.below HB.out HTA.out.blk.lt
              have hcells := rec_cell (b := tb) (o := 0) (l := tab12 (n0 : Int) (n1 : Int) A5 A6 A7 A8 c5 c6 c7 c8) (fun i v hi => by rw [Nat.zero_add]; exact hTB.cell hi) (k := k) hlt rfl
              have htl := hTB.lt
              have HQA := Lib.hid ((HTA.out.at_ k hlt).below HB.out)
              have HNM := Lib.hid (tab_name (n0 : Int) (n1 : Int) A5 A6 A7 A8 c5 c6 c7 c8 k hlt)
              have HVK := Lib.hid (tab_at (n0 : Int) (n1 : Int) A5 A6 A7 A8 c5 c6 c7 c8 m k hlt)
              have HAP := Lib.hid (HTA.out.apart k hlt)
              generalize (tab12 (n0 : Int) (n1 : Int) A5 A6 A7 A8 c5 c6 c7 c8).getD k Cellful.dflt = row at *
              obtain ⟨many, ⟨kd, ar, vl, df, QA, qn, qc⟩, cs⟩ := row
              simp only at HQA HNM HVK HAP
              have d0 := hcells 0 (.int .i64 many) rfl
              have d1 := hcells 1 (.int .i64 kd) rfl
              have d2 := hcells 2 (.int .i64 ar) rfl
              have d3 := hcells 3 (.int .i64 vl) rfl
              have d4 := hcells 4 (.bool df) rfl
              have d5 := hcells 5 (.slice QA qn qc) rfl
              rw [show (0 + k * Cellful.s (α := Row12)) = k * 6 by rw [Nat.zero_add]; rfl] at d0 d1 d2 d3 d4 d5
              rw [Nat.add_zero] at d0
              have xR := (HB.out.cell (p := ⟨AB, oo, none⟩) hblC).trans xC
              have hblR : AB < wr.heap.size := Nat.lt_of_lt_of_le hblC HB.out.size
              have RR := Lib.hid (RC.out.below HB.out RC.out.lt)
              have BR := Lib.hid (BC.out.trans (HB.out.mono BC.out.size))
              clear hcells hTB
              have HNA := Lib.hid (fun W h => Name_any ⟨kd, ar, vl, df, QA, qn, qc⟩ cs W h)
              rw [HNM.out] at HNA
              have HBX := Lib.hid (Blk.new wr 162 [Value.int .i64 many, .int .i64 kd, .int .i64 ar, .int .i64 vl, .bool df, .slice QA qn qc])
              have BB0 := Lib.hid ((Below.refl wr.heap.size wr).alloc (Nat.le_refl _) (.cells [Value.int .i64 many, .int .i64 kd, .int .i64 ar, .int .i64 vl, .bool df, .slice QA qn qc].toArray 162))
              go_upto_region 13 with (fail)
              have hW : RowKit.Hid (wr.alloc (.cells [Value.int .i64 many, .int .i64 kd, .int .i64 ar, .int .i64 vl, .bool df, .slice QA qn qc].toArray 162) = wr.alloc (.cells #[.int .i64 many, .int .i64 kd, .int .i64 ar, .int .i64 vl, .bool df, .slice QA qn qc] 162)) := Lib.hid rfl
              rw [hW.out] at HBX BB0
              clear hW d0 d1 d2 d3 d4 d5
              have RW := Lib.hid (RR.out.below BB0.out RR.out.lt)
              have BW := Lib.hid (BR.out.trans (BB0.out.mono BR.out.size))
              have xW := (BB0.out.cell (p := ⟨AB, oo, none⟩) hblR).trans xR
              have hrg := RR.out.lt
              have hABW : AB < (wr.alloc (.cells #[.int .i64 many, .int .i64 kd, .int .i64 ar, .int .i64 vl, .bool df, .slice QA qn qc] 162)).heap.size := Nat.lt_of_lt_of_le hblR BB0.out.size
              have HQW := Lib.hid (HQA.out.below BB0.out)
              have HBW2 := Lib.hid (HB.out.trans (BB0.out.mono HB.out.size))
              clear xR hblR
              generalize wr.alloc (.cells #[.int .i64 many, .int .i64 kd, .int .i64 ar, .int .i64 vl, .bool df, .slice QA qn qc] 162) = WB at *
              generalize wr.heap.size = gb at *
              have HQD : RowKit.Hid (ReqAt WB.drew ⟨kd, ar, vl, df, QA, qn, qc⟩ cs) := Lib.hid (HQW.out.below (Below.drewN' (Below.refl WB.heap.size WB) 1))
              have s1 := HBX.out.cell (i := 1) rfl
              have s2 := HBX.out.cell (i := 2) rfl
              have s3 := HBX.out.cell (i := 3) rfl
              have s4 := HBX.out.cell (i := 4) rfl
              have s5 := HBX.out.cell (i := 5) rfl
              have hgb := HBX.out.lt
              generalize hnk : names12.getD k ⟨#[]⟩ = nk at *
              have HNK := Lib.hid hnk
              clear hnk
              by_cases hh : nk = h
              · have e1 := eqT hh
                have HHH := Lib.hid hh
                clear hh
                go_region_held3 (fun w' => w'.cell? ⟨gb, 1, none⟩ = some (.int .i64 kd) ∧ w'.cell? ⟨gb, 2, none⟩ = some (.int .i64 ar) ∧ w'.cell? ⟨gb, 3, none⟩ = some (.int .i64 vl) ∧ w'.cell? ⟨gb, 4, none⟩ = some (.bool df) ∧ w'.cell? ⟨gb, 5, none⟩ = some (.slice QA qn qc) ∧ w'.cell? ⟨AB, oo, none⟩ = some (.string h)) (first | go_keep | (simp only [hk1, hk2]; go_keep)) (first
                | (go_at_call 63; (with_reducible refine (HNA.out WB.drew HQD.out).mono ?_); rintro e v1 ⟨rfl, hb1⟩; have hB1 : Below WB.heap.size WB v1 := ⟨hb1.os, hb1.tape, hb1.output, hb1.size, hb1.block⟩; have hk1 := fun o => hB1.cell (p := ⟨gb, o, none⟩) hgb; have hk2 := fun o => hB1.cell (p := ⟨AB, o, none⟩) hABW))
                have HBX1 := Lib.hid (HBX.out.below hB1 hgb)
                have R1x := Lib.hid (RW.out.below hB1 RW.out.lt)
                have B1x := Lib.hid (BW.out.trans (hB1.mono BW.out.size))
                have HQ1 := Lib.hid (HQW.out.below hB1)
                clear hk1 hk2 hB1 hb1 s1 s2 s3 s4 s5 xW
                have s0 := HBX1.out.cell (i := 0) rfl
                have s1 := HBX1.out.cell (i := 1) rfl
                have s2 := HBX1.out.cell (i := 2) rfl
                have s3 := HBX1.out.cell (i := 3) rfl
                have s4 := HBX1.out.cell (i := 4) rfl
                have s5 := HBX1.out.cell (i := 5) rfl
                have z0 := R1x.out.cell (i := 0) rfl
                have f0 := R1x.out.frozen 0
                have z1 := R1x.out.cell (i := 1) rfl
                have f1 := R1x.out.frozen 1
                have z2 := R1x.out.cell (i := 2) rfl
                have f2 := R1x.out.frozen 2
                have z3 := R1x.out.cell (i := 3) rfl
                have f3 := R1x.out.frozen 3
                have z4 := R1x.out.cell (i := 4) rfl
                have f4 := R1x.out.frozen 4
                have hgb1 := HBX1.out.lt
                have hrl1 := R1x.out.lt
                have hne1 : ¬ gb = w.heap.size := by omega
                have hne2 : ¬ w.heap.size = gb := by omega
                by_cases hmm : many = (m : Int)
                · have e5 : (many == (m : Int)) = true := by rw [hmm]; exact beq_self_eq_true _
                  have HV : RowKit.Hid (callQ l = some ⟨kd, ar, vl, df, cs⟩) := Lib.hid (by rw [HVT.out, ← HHH.out, HVK.out, if_pos hmm])
                  clear hmm
                  go_upto_region 14 with (fail)
                  go_region_held3 (fun w' => w'.cell? ⟨gb, 0, none⟩ = some (.int .i64 many) ∧ w'.cell? ⟨gb, 1, none⟩ = some (.int .i64 kd) ∧ w'.cell? ⟨gb, 2, none⟩ = some (.int .i64 ar) ∧ w'.cell? ⟨gb, 3, none⟩ = some (.int .i64 vl) ∧ w'.cell? ⟨gb, 4, none⟩ = some (.bool df) ∧ w'.cell? ⟨gb, 5, none⟩ = some (.slice QA qn qc)) (go_keep) (fail)
                  obtain ⟨hB, hL⟩ := req_put R1x.out ⟨kd, ar, vl, df, QA, qn, qc⟩
                  have hbl9 := B1x.out.trans (hL _ (Nat.le_refl _))
                  have hap : ∀ b o, QA = some ⟨b, o, none⟩ → b ≠ w.heap.size := fun b o h => by have h1 := HAP.out b o h; omega
                  have hr := HQ1.out.rd
                  have hrs : Rd (((((v1.setCell ⟨w.heap.size, 0, none⟩ (.int .i64 kd)).setCell ⟨w.heap.size, 1, none⟩ (.int .i64 ar)).setCell ⟨w.heap.size, 2, none⟩ (.int .i64 vl)).setCell ⟨w.heap.size, 3, none⟩ (.bool df)).setCell ⟨w.heap.size, 4, none⟩ (.slice QA qn qc)) QA (rows cs) := ((((hr.set_ hap _ _).set_ hap _ _).set_ hap _ _).set_ hap _ _).set_ hap _ _
                  simp only at hB hbl9
                  have HBZ := Lib.hid hB
                  have HLZ := Lib.hid hbl9
                  have HRZ := Lib.hid hrs
                  clear hB hbl9 hrs hr hap hL
                  generalize (((((v1.setCell ⟨w.heap.size, 0, none⟩ (.int .i64 kd)).setCell ⟨w.heap.size, 1, none⟩ (.int .i64 ar)).setCell ⟨w.heap.size, 2, none⟩ (.int .i64 vl)).setCell ⟨w.heap.size, 3, none⟩ (.bool df)).setCell ⟨w.heap.size, 4, none⟩ (.slice QA qn qc)) = X at *
                  clear s0 s1 s2 s3 s4 s5 z0 z1 z2 z3 z4 f0 f1 f2 f3 f4
                  go_wp2
                  have hbs := HLZ.out
                  refine bodyPost_ret (v := .tuple #[reqV ⟨kd, ar, vl, df, QA, qn, qc⟩, .bool true]) (ret_cell2 (g := w.heap.size) (v := reqV ⟨kd, ar, vl, df, QA, qn, qc⟩) rfl rfl rfl (req_load (q := ⟨kd, ar, vl, df, QA, qn, qc⟩) (Blk.drew HBZ.out))) rfl ?_
                  refine .inr ⟨⟨kd, ar, vl, df, cs⟩, QA, qc, HV.out, ?_, HRZ.out, (fun b o h => by have h1 := HAP.out b o h; omega), ⟨hbs.os, hbs.tape, hbs.output, hbs.size, hbs.block⟩⟩
                  rw [HQ1.out.len]
                · have e5 : (many == (m : Int)) = false := by exact beq_eq_false_iff_ne.2 hmm
                  have HV : RowKit.Hid (callQ l = none) := Lib.hid (by rw [HVT.out, ← HHH.out, HVK.out, if_neg hmm])
                  clear hmm
                  go_upto_region 14 with (fail)
                  go_region_held3 (fun w' => w'.cell? ⟨gb, 0, none⟩ = some (.int .i64 many) ∧ w'.cell? ⟨gb, 1, none⟩ = some (.int .i64 kd) ∧ w'.cell? ⟨gb, 2, none⟩ = some (.int .i64 ar) ∧ w'.cell? ⟨gb, 3, none⟩ = some (.int .i64 vl) ∧ w'.cell? ⟨gb, 4, none⟩ = some (.bool df) ∧ w'.cell? ⟨gb, 5, none⟩ = some (.slice QA qn qc)) (go_keep) (fail)
                  obtain ⟨hB, hL⟩ := req_put R1x.out ⟨kd, ar, vl, df, QA, qn, qc⟩
                  have hbl9 := B1x.out.trans (hL _ (Nat.le_refl _))
                  have hap : ∀ b o, QA = some ⟨b, o, none⟩ → b ≠ w.heap.size := fun b o h => by have h1 := HAP.out b o h; omega
                  have hr := HQ1.out.rd
                  have hrs : Rd (((((v1.setCell ⟨w.heap.size, 0, none⟩ (.int .i64 kd)).setCell ⟨w.heap.size, 1, none⟩ (.int .i64 ar)).setCell ⟨w.heap.size, 2, none⟩ (.int .i64 vl)).setCell ⟨w.heap.size, 3, none⟩ (.bool df)).setCell ⟨w.heap.size, 4, none⟩ (.slice QA qn qc)) QA (rows cs) := ((((hr.set_ hap _ _).set_ hap _ _).set_ hap _ _).set_ hap _ _).set_ hap _ _
                  simp only at hB hbl9
                  have HBZ := Lib.hid hB
                  have HLZ := Lib.hid hbl9
                  have HRZ := Lib.hid hrs
                  clear hB hbl9 hrs hr hap hL
                  generalize (((((v1.setCell ⟨w.heap.size, 0, none⟩ (.int .i64 kd)).setCell ⟨w.heap.size, 1, none⟩ (.int .i64 ar)).setCell ⟨w.heap.size, 2, none⟩ (.int .i64 vl)).setCell ⟨w.heap.size, 3, none⟩ (.bool df)).setCell ⟨w.heap.size, 4, none⟩ (.slice QA qn qc)) = X at *
                  clear s0 s1 s2 s3 s4 s5 z0 z1 z2 z3 z4 f0 f1 f2 f3 f4
                  go_wp2
                  have hbs := HLZ.out
                  refine bodyPost_ret (v := .tuple #[reqV ⟨kd, ar, vl, df, QA, qn, qc⟩, .bool false]) (ret_cell2 (g := w.heap.size) (v := reqV ⟨kd, ar, vl, df, QA, qn, qc⟩) rfl rfl rfl (req_load (q := ⟨kd, ar, vl, df, QA, qn, qc⟩) (Blk.drew HBZ.out))) rfl ?_
                  exact .inl ⟨HV.out, _, rfl, ⟨hbs.os, hbs.tape, hbs.output, hbs.size, hbs.block⟩⟩
              · have e1 := eqF hh
                have HHH := Lib.hid hh
                clear hh
                go_region_held3 (fun w' => w'.cell? ⟨gb, 1, none⟩ = some (.int .i64 kd) ∧ w'.cell? ⟨gb, 2, none⟩ = some (.int .i64 ar) ∧ w'.cell? ⟨gb, 3, none⟩ = some (.int .i64 vl) ∧ w'.cell? ⟨gb, 4, none⟩ = some (.bool df) ∧ w'.cell? ⟨gb, 5, none⟩ = some (.slice QA qn qc) ∧ w'.cell? ⟨AB, oo, none⟩ = some (.string h)) (first | go_keep | (simp only [hk1, hk2]; go_keep)) (first
                | (go_at_call 63; (with_reducible refine (HNA.out WB.drew HQD.out).mono ?_); rintro e v1 ⟨rfl, hb1⟩; have hB1 : Below WB.heap.size WB v1 := ⟨hb1.os, hb1.tape, hb1.output, hb1.size, hb1.block⟩; have hk1 := fun o => hB1.cell (p := ⟨gb, o, none⟩) hgb; have hk2 := fun o => hB1.cell (p := ⟨AB, o, none⟩) hABW))
                have HBF := Lib.hid (HBW2.out.trans (hB1.mono HBW2.out.size))
                clear hk1 hk2 hB1 hb1 s1 s2 s3 s4 s5 xW
                go_wp2
                go_roundg (12 - (k + 1))
                case measure => rw [HG.out]; omega
                case rel => exact ⟨k + 1, by omega, rfl, by go_num, HBF.out, fun j hj => by
                  by_cases hjk : j = k
                  · subst hjk; rw [HNK.out]; exact HHH.out
                  · exact HNO.out j (by omega)⟩
            · obtain rfl : k = 12 := by omega
              have HV : RowKit.Hid (callQ l = none) := Lib.hid (by rw [HVT.out]; exact tab_none HNO.out)
              have R2 := Lib.hid (RC.out.below HB.out RC.out.lt)
              have B2 := Lib.hid (BC.out.trans (HB.out.mono BC.out.size))
              have z0 := R2.out.cell (i := 0) rfl
              have f0 := R2.out.frozen 0
              have z1 := R2.out.cell (i := 1) rfl
              have f1 := R2.out.frozen 1
              have z2 := R2.out.cell (i := 2) rfl
              have f2 := R2.out.frozen 2
              have z3 := R2.out.cell (i := 3) rfl
              have f3 := R2.out.frozen 3
              have z4 := R2.out.cell (i := 4) rfl
              have f4 := R2.out.frozen 4
              have hrl := R2.out.lt
              go_wp2
              obtain ⟨hB, hL⟩ := req_put R2.out ⟨0, 0, 0, false, none, 0, 0⟩
              have hbl := B2.out.trans (hL _ (Nat.le_refl _))
              refine bodyPost_ret (v := .tuple #[reqV ⟨0, 0, 0, false, none, 0, 0⟩, .bool false]) (ret_cell2 (g := w.heap.size) (v := reqV ⟨0, 0, 0, false, none, 0, 0⟩) rfl rfl rfl (req_load hB)) rfl ?_
              exact .inl ⟨HV.out, _, rfl, hbl⟩


end Go.Proofs.YtalkllfgedacoaaGreatDoor

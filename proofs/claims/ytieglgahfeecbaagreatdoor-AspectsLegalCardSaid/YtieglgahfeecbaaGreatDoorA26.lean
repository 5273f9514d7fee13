/- hist: the search's walk over the ways, one after another: walked. -/
import Derived.Test.YtieglgahfeecbaaGreatDoorA25
import Derived.Maps.OwnSet
namespace Go.Proofs.YtieglgahfeecbaaGreatDoor
open Go.RowKit Go.Sort Go.Lib
attribute [local go_sem ↓] Go.wp_at_zero Go.wp_at_succ

theorem hexDigits_pos (u : Nat) : 0 < (hexDigits u).length := by
  rw [hexDigits]; split <;> simp
theorem nameL_pos (p : StP) (k : Nat) : 0 < (nameL p k).length := by
  have := hexDigits_pos p.at_
  simp only [nameL, nameR, List.length_append]
  omega

set_option maxHeartbeats 16000000 in
set_option maxRecDepth 100000 in
theorem hName_any (s : Str) (p : StP) (w : World) (hs : StAt w s p) (ht : Tz16 w) (hat : p.at_ ≤ 4096) :
    Calls Tryz.prog 34 #[strV s] w fun e w' => e = .returned (.string ⟨(stateNameS p).toArray⟩) ∧ Below w.heap.size w w' := by
  obtain ⟨L, hL, hLR, hLk⟩ := hs.l
  have HBX := Lib.hid (Blk.new w 57 s.cells)
  have HB0 := Lib.hid ((Below.refl w.heap.size w).alloc (Nat.le_refl _) (.cells #[.int .i64 s.at_, .slice s.RA s.rn s.rc, .slice s.LA s.ln s.lc] 57))
  have HT := Lib.hid ht
  have HRL := Lib.hid hs.rn
  have HLL := Lib.hid hs.ln
  have HRD := Lib.hid hs.rd
  have HBIG := Lib.hid hs.big
  have HLR := Lib.hid hLR
  have HLK := Lib.hid hLk
  have HLN := Lib.hid hL
  have HNR := Lib.hid (nameR_len p (by omega) hs.big)
  have HNL := Lib.hid (nameL_len p (by omega) hs.big)
  have hrb := hs.rb
  have hlb := hs.lb
  have HAT := Lib.hid hs.at_
  clear hs hL hLR hLk ht
  obtain ⟨at_, RA, rn, rc, LA, ln, lc⟩ := s
  simp only [Str.cells] at HBX HB0 HRL HLL HRD HLR HLK HLN hrb hlb HAT
  obtain rfl := HAT.out
  clear HAT
  unfold strV
  simp only
  have HAI := Lib.hid (fun W (h : Tz16 W) => appI16 p.at_ (by omega) W h)
  go_enter Tryz.func34, Tryz.ntmps34
  go_upto_region 1 with fail
  generalize (w.alloc (.cells #[.int .i64 (p.at_ : Int), .slice RA rn rc, .slice LA ln lc] 57)) = W0 at *
  have y0 := HBX.out.cell (i := 0) rfl
  have hx0 : w.heap.size < W0.heap.size := HBX.out.lt
  go_upto_region 2 with (first
    | (go_at_call 65
       refine (HAI.out _ (HT.out.below HB0.out)).mono ?_
       rintro er w1 ⟨A1, c1, rfl, ho1, hb1⟩
       have HO1 := Lib.hid ho1
       have HB1 := Lib.hid hb1
       clear ho1 hb1)
    | fail)
  clear y0
  have HX1 := Lib.hid (HBX.out.below HB1.out HBX.out.lt)
  have y1 := HX1.out.cell (i := 1) rfl
  go_wp2_with fail
  go_loopg [3, 14] rn (fun gg b i wr => ∃ (k : Nat) (A1 : Option Addr) (c1 : Nat), k ≤ rn ∧ gg = rn - k ∧ i = .int .i64 k ∧ b = .slice A1 (nameR p k).length c1 ∧ wr.ownsRow W0.heap.size 5 1 (.slice A1 (nameR p k).length c1) (nameR p k).length (u8s (nameR p k)) ∧ Below W0.heap.size W0 wr)
  case atStart =>
    have e : nameR p 0 = hexDigits p.at_ := by simp [nameR]
    refine ⟨0, A1, c1, Nat.zero_le _, rfl, rfl, by rw [e], by rw [e]; exact HO1.out, HB1.out⟩
  case round =>
    obtain ⟨k, A2, c2, hk, hg, rfl, rfl, ho, hb⟩ := hrel
    have HG := Lib.hid hg
    have HO := Lib.hid ho
    have HB := Lib.hid hb
    clear hg ho hb
    by_cases hlt : k < rn
    · have hkr : k < p.rec_.length := by rw [HRL.out]; exact hlt
      have HS := Lib.hid (nameR_succ p hkr)
      have hl1 := HNR.out k (by omega)
      have hx := HBIG.out _ (getD_mem (l := p.rec_) (k := k) (d := 0) hkr)
      obtain ⟨bR, oR, hRA, hbR, hcR⟩ := HRD.out.at_ (by simp [words]; omega)
      have hc := hcR k (.int .u64 (p.rec_.getD k 0)) (by simp [words, List.getD_eq_getElem?_getD, List.getElem?_eq_getElem hkr])
      subst hRA
      have hBw := HB0.out.trans (HB.out.mono HB0.out.size)
      have z0 := (hBw.cell (p := ⟨bR, oR + k, none⟩) hbR).trans hc
      have HTW := Lib.hid (HT.out.below hBw)
      have HSZ := Lib.hid HB.out.size
      clear hcR hc hkr hBw hbR
      generalize p.rec_.getD k 0 = x at *
      obtain ⟨u, rfl⟩ : ∃ u : Nat, x = u := ⟨x.toNat, by omega⟩
      rw [Int.toNat_natCast] at HS
      have HU := Lib.hid (show u < 18446744073709551616 by omega)
      clear hx
      generalize hxs : nameR p (k + 1) = ys at *
      generalize nameR p k = xs at *
      generalize hm : xs.length = m at *
      have HM := Lib.hid hm
      clear hm
      have t0 : (0 : Int) ≤ (k : Int) := by omega
      have t1 : (k : Int) < (rn : Int) := by omega
      have hm2 : m ≤ 17825808 := by omega
      go_wp2_with (first
        | (go_at_call 66
           refine (appU16 W0.heap.size A3 (m + 1) c3 (xs ++ [32]) u HU.out w3 (HT.out.below (HB0.out.trans ((HB.out.trans HBB3.out).mono HB0.out.size))) (by rw [List.length_append, HM.out]; rfl) (by omega) (HB.out.trans HBB3.out).size HO3.out).mono ?_
           rintro er w4 ⟨A4, c4, rfl, ho4, hb4⟩
           have HO4 := Lib.hid ho4
           have HB4 := Lib.hid hb4
           clear ho4 hb4)
        | (at_builtin
           refine wpList_app rfl (.tmp 18) (.tmp 19) 113 5 rfl W0.heap.size (.int .u8 0) 1 1 Tryz.underlying113 byte_info rfl (by decide) A2 m c2 (u8s xs) rfl (HO.out.alloc _) (some ⟨wr.heap.size, 0, none⟩) 1 1 (u8s [32]) rfl (by simp) rfl (blk_new rfl).rd (u8s_one _) (m + 1) rfl (u8s (xs ++ [32])) (by simp [u8s]) (by unfold maxLen; omega) (by omega) (Nat.le_trans HSZ.out (by simp)) ?_
           intro A3 c3 w3 hown3 hg3 hb3
           have HO3 := Lib.hid hown3
           have HBB3 := Lib.hid (((Below.refl W0.heap.size wr).alloc HSZ.out _).trans hb3)
           have HG3 := Lib.hid hg3
           clear hown3 hg3 hb3)
        | fail)
      go_roundg (rn - (k + 1))
      case measure => rw [HG.out]; omega
      case rel =>
        have hl : ys.length = m + 1 + (hexDigits u).length := by rw [HS.out, List.length_append, List.length_append, HM.out]; rfl
        refine ⟨k + 1, A4, c4, by omega, rfl, by go_num, by rw [hxs, hl], ?_, (HB.out.trans HBB3.out).trans HB4.out⟩
        rw [hxs, hl, HS.out]
        exact HO4.out
    · obtain rfl : k = rn := by omega
      have HX2 := Lib.hid (HBX.out.below HB.out HBX.out.lt)
      have y2 := HX2.out.cell (i := 2) rfl
      clear y1 HO1 HB1 HX1 HAI
      go_wp2_with fail
      go_loopg [3, 27] ln (fun gg b i wr => ∃ (j : Nat) (A1 : Option Addr) (c1 : Nat), j ≤ ln ∧ gg = ln - j ∧ i = .int .i64 j ∧ b = .slice A1 (nameL p j).length c1 ∧ wr.ownsRow W0.heap.size 5 1 (.slice A1 (nameL p j).length c1) (nameL p j).length (u8s (nameL p j)) ∧ Below W0.heap.size W0 wr)
      case atStart =>
        have e : nameL p 0 = nameR p k := by simp [nameL, HRL.out]
        refine ⟨0, A2, c2, Nat.zero_le _, rfl, rfl, by rw [e], by rw [e]; exact HO.out, HB.out⟩
      case round =>
        obtain ⟨j, A3, c3, hj, hg, rfl, rfl, ho, hb⟩ := hrel
        clear HG HO
        have HG := Lib.hid hg
        have HO := Lib.hid ho
        have HBJ := Lib.hid hb
        clear hg ho hb
        by_cases hlt2 : j < ln
        · have hjl : j < p.l.length := by rw [HLL.out]; exact hlt2
          have HS := Lib.hid (nameL_succ p hjl)
          have hl1 := HNL.out j (by omega)
          rw [HRL.out] at hl1
          have hyk := HLK.out j hlt2
          obtain ⟨bL, oL, hLA, hbL, hcL⟩ := HLR.out.at_ (by rw [rows_length, HLN.out]; simp only [Cellful.s]; omega)
          have hBw := HB0.out.trans (HBJ.out.mono HB0.out.size)
          have hrc := opr_cells (w := wr) (k := j) (fun i v h => (hBw.cell (p := ⟨bL, oL + i, none⟩) hbL).trans (hcL i v h)) (by rw [HLN.out]; exact hlt2) rfl
          subst hLA
          have HSZ := Lib.hid HBJ.out.size
          clear hcL hBw hbL hjl
          generalize L.getD j Opr.none = z at *
          obtain ⟨⟨xk, xa, xv, xd, xA, xn, xc⟩, xs0, xo, xp⟩ := z
          obtain ⟨_, _, e3, _⟩ := hyk
          simp only at e3 hrc
          rw [← e3] at HS
          clear e3
          generalize hys : nameL p (j + 1) = ys at *
          generalize nameL p j = xs at *
          generalize hm : xs.length = m at *
          have HM := Lib.hid hm
          clear hm
          obtain ⟨r0, r1, r2, r3, r4, r5, r6, r7⟩ := hrc
          have t0 : (0 : Int) ≤ (j : Int) := by omega
          have t1 : (j : Int) < (ln : Int) := by omega
          have hm2 : m ≤ 17850384 := by omega
          have HZ := Lib.hid (Blk.new wr 63 [.int .i64 xk, .int .i64 xa, .int .i64 xv, .bool xd, .slice xA xn xc, .int .i64 xs0, .bool xo, .bool xp])
          have HO3 := Lib.hid (HO.out.alloc (.cells #[.int .i64 xk, .int .i64 xa, .int .i64 xv, .bool xd, .slice xA xn xc, .int .i64 xs0, .bool xo, .bool xp] 63))
          have HB3 := Lib.hid (HBJ.out.alloc HSZ.out (.cells #[.int .i64 xk, .int .i64 xa, .int .i64 xv, .bool xd, .slice xA xn xc, .int .i64 xs0, .bool xo, .bool xp] 63))
          go_upto_region 10 with fail
          clear r0 r1 r2 r3 r4 r5 r6 r7
          generalize (wr.alloc (.cells #[.int .i64 xk, .int .i64 xa, .int .i64 xv, .bool xd, .slice xA xn xc, .int .i64 xs0, .bool xo, .bool xp] 63)) = W3 at *
          generalize hgb : wr.heap.size = gb at *
          clear hgb
          have x7 := HZ.out.cell (i := 7) rfl
          have hgl := HZ.out.lt
          have n7 := Nat.ne_of_lt hgl
          have n7' := n7.symm
          have hb3s := HB3.out.size
          go_region_held3 (fun w' => w'.cell? ⟨gb, 7, none⟩ = some (.bool xp)) (first | go_keep | exact s7) (first
            | (go_at_call 67; refine (appB W0.heap.size A6 (m + 1) c6 (xs ++ [32]) xp w6 (by omega) hsz6 hown6).mono ?_; rintro er w7 ⟨A7, c7, rfl, ho7, hg7⟩; have hX7 := blk_grown hX6 hg7 (own_blk_neB hown6 hX6 (by decide)); (clear s7); have s7 := hX7.cell (i := 7) rfl)
            | (refine step_app ?_ (.tmp 31) (.tmp 32) 113 5 ?_ W0.heap.size (.int .u8 0) 1 1 Tryz.underlying113 byte_info ?_ ?_ A3 m c3 (u8s xs) ?_ ?_ _ 1 1 (u8s [32]) (by rfl) ?_ ?_ ?_ (u8s_one _) (m + 1) rfl (u8s (xs ++ [32])) ?_ ?_ ?_ ?_ ?_; rfl; rfl; rfl; decide; rfl; (first | exact HO3.out.alloc _ | exact (own_below HO3.out (Below.drewN' (Below.refl _ _) 1)).alloc _ | exact own_below (HO3.out.alloc _) (Below.drewN' (Below.refl _ _) 1)); simp; rfl; (first | exact (blk_new (by rfl)).rd | exact (Blk.drew (blk_new (by rfl))).rd); simp [u8s]; (unfold maxLen; omega); omega; (focus (first | (simp; omega) | (have := hb3s; simp; omega))); intro A6 c6 w6 hown6 hg6 hb6; (have hX6 : Blk w6 gb 63 _ := (by first | exact blk_grown (HZ.out.alloc _) hg6 (own_blk_neB HO3.out HZ.out (by decide)) | exact blk_grown (Blk.drew (HZ.out.alloc _)) hg6 (own_blk_neB HO3.out HZ.out (by decide)))); have s7 := hX6.cell (i := 7) rfl; have hsz6 : W0.heap.size ≤ w6.heap.size := (Nat.le_trans hb3s (Nat.le_trans (by simp) hg6.size)); have hB6 : Below W0.heap.size W0 w6 := (by first | exact (HB3.out.alloc hb3s _).trans hb6 | exact ((HB3.out.alloc hb3s _).drew).trans hb6 | exact ((HB3.out.drew).alloc hb3s _).trans hb6)))
          have HB7 := Lib.hid (hB6.trans (own_grown hown6 hsz6 hg7))
          have HO7 := Lib.hid ho7
          clear s7 x7 ho7 hg7 hX6 hX7 hown6 hg6 hb6 hB6
          go_wp2_with fail
          go_roundg (ln - (j + 1))
          case measure => rw [HG.out]; omega
          case rel =>
            have hl : ys.length = m + 1 + (boolB xp).length := by rw [HS.out, List.length_append, List.length_append, HM.out]; rfl
            refine ⟨j + 1, A7, c7, by omega, rfl, by go_num, by rw [hys, hl], ?_, HB7.out⟩
            rw [hys, hl, HS.out]
            exact HO7.out
        · obtain rfl : j = ln := by omega
          have hpos := nameL_pos p j
          obtain ⟨g, hA, hg1, hg2⟩ := own_some HO.out (by omega)
          subst hA
          have hcc := own_cellAt HO.out
          have hcv := run_convert_bytes_back (P := Tryz.prog) wr 113 9 5 ⟨g, 0, none⟩ c3 (nameL p j) Tryz.underlying113 Tryz.underlying5 Tryz.underlying9 (fun i hi => by
            have e1 : (Addr.add ⟨g, 0, none⟩ i) = ⟨g, 0 + i, none⟩ := by simp [Addr.add]; omega
            rw [e1]
            exact hcc i _ (by simp [u8s, hi]))
          have HSN : RowKit.Hid (stateNameS p = nameL p j) := Lib.hid (by unfold stateNameS; rw [HLL.out])
          have HW := Lib.hid (HB0.out.trans (HBJ.out.mono HB0.out.size))
          clear hcc hpos hg1 hg2
          go_wp2_with fail
          go_ret
          exact ⟨by rw [HSN.out]; rfl, HW.out⟩

end Go.Proofs.YtieglgahfeecbaaGreatDoor

namespace Go.Proofs.YtieglgahfeecbaaGreatDoor
open Go.RowKit Go.Sort

def decH (b : UInt8) : Nat := if b.toNat < 58 then b.toNat - 48 else b.toNat - 87
def unhex (l : List UInt8) : Nat := l.foldl (fun a b => a * 16 + decH b) 0
theorem dec_hexd : ∀ d : Nat, d < 16 → decH (hexd d) = d ∧ hexd d ≠ 32 := by
  have : ∀ d : Fin 16, decH (hexd d) = d ∧ hexd d ≠ 32 := by decide +kernel
  exact fun d h => this ⟨d, h⟩
theorem unhex_hex (u : Nat) : unhex (hexDigits u) = u := by
  by_cases h : u < 16
  · rw [hex_last h]
    simp [unhex, (dec_hexd u h).1]
  · rw [hex_step (by omega)]
    have ih := unhex_hex (u / 16)
    unfold unhex at ih ⊢
    rw [List.foldl_append, ih]
    simp only [List.foldl_cons, List.foldl_nil]
    rw [(dec_hexd (u % 16) (by omega)).1]
    omega
  termination_by u
  decreasing_by omega
theorem hex_inj {u v : Nat} (h : hexDigits u = hexDigits v) : u = v := by rw [← unhex_hex u, h, unhex_hex]
theorem hex_no32 (u : Nat) : (32 : UInt8) ∉ hexDigits u := by
  by_cases h : u < 16
  · rw [hex_last h]
    simpa using (dec_hexd u h).2.symm
  · rw [hex_step (by omega)]
    have ih := hex_no32 (u / 16)
    intro hm
    rcases List.mem_append.1 hm with h1 | h1
    · exact ih h1
    · simp only [List.mem_cons, List.not_mem_nil, or_false] at h1
      exact (dec_hexd (u % 16) (by omega)).2 h1.symm
  termination_by u
  decreasing_by omega
theorem bool_no32 (b : Bool) : (32 : UInt8) ∉ boolB b := by cases b <;> decide
theorem bool_inj {a b : Bool} (h : boolB a = boolB b) : a = b := by
  cases a <;> cases b <;> first | rfl | (revert h; decide)

/-- Words parted by spaces are read back. -/
theorem sep_inj : ∀ (a b x y : List UInt8), (32 : UInt8) ∉ a → (32 : UInt8) ∉ b → (∀ c, x.head? = some c → c = 32) → (∀ c, y.head? = some c → c = 32) → a ++ x = b ++ y → a = b ∧ x = y
  | [], [], x, y, _, _, _, _, h => ⟨rfl, h⟩
  | [], c :: b, x, y, _, hb, hx, _, h => by
    have : c = 32 := hx c (by rw [List.nil_append] at h; rw [h]; rfl)
    exact absurd (by rw [this]; exact List.mem_cons_self ..) hb
  | c :: a, [], x, y, ha, _, _, hy, h => by
    have : c = 32 := hy c (by rw [List.nil_append] at h; rw [← h]; rfl)
    exact absurd (by rw [this]; exact List.mem_cons_self ..) ha
  | c :: a, d :: b, x, y, ha, hb, hx, hy, h => by
    simp only [List.cons_append, List.cons.injEq] at h
    have ih := sep_inj a b x y (fun hm => ha (List.mem_cons_of_mem _ hm)) (fun hm => hb (List.mem_cons_of_mem _ hm)) hx hy h.2
    exact ⟨by rw [h.1, ih.1], ih.2⟩
/-- Rows of words, each behind a space. -/
theorem row_inj {α : Type} (f : α → List UInt8) (hf : ∀ a, (32 : UInt8) ∉ f a) : ∀ (l m : List α) (x y : List UInt8), l.length = m.length → (∀ c, x.head? = some c → c = 32) → (∀ c, y.head? = some c → c = 32) →
    l.flatMap (fun a => 32 :: f a) ++ x = m.flatMap (fun a => 32 :: f a) ++ y → l.map f = m.map f ∧ x = y
  | [], [], x, y, _, _, _, h => ⟨rfl, by simpa using h⟩
  | [], _ :: _, _, _, hl, _, _, _ => by simp at hl
  | _ :: _, [], _, _, hl, _, _, _ => by simp at hl
  | a :: l, b :: m, x, y, hl, hx, hy, h => by
    simp only [List.flatMap_cons, List.cons_append, List.append_assoc, List.cons.injEq, true_and] at h
    have hd : ∀ (l : List α) (x : List UInt8), (∀ c, x.head? = some c → c = 32) → ∀ c, (l.flatMap (fun a => 32 :: f a) ++ x).head? = some c → c = 32 := by
      intro l x hx c hc
      cases l with
      | nil => exact hx c (by simpa using hc)
      | cons _ _ => simp at hc; exact hc.symm
    obtain ⟨h1, h2⟩ := sep_inj (f a) (f b) _ _ (hf a) (hf b) (hd l x hx) (hd m y hy) h
    obtain ⟨h3, h4⟩ := row_inj f hf l m x y (by simpa using hl) hx hy h2
    exact ⟨by simp [h1, h3], h4⟩

/-- The name tells the place, the words and which calls were applied. -/
theorem name_inj {p q : StP} (hr : p.rec_.length = q.rec_.length) (hl : p.l.length = q.l.length) (hp : ∀ x ∈ p.rec_, 0 ≤ x) (hq : ∀ x ∈ q.rec_, 0 ≤ x) (h : stateNameS p = stateNameS q) :
    p.at_ = q.at_ ∧ p.rec_ = q.rec_ ∧ p.l.map OpP.applied = q.l.map OpP.applied := by
  have e : ∀ p : StP, stateNameS p = hexDigits p.at_ ++ (p.rec_.flatMap (fun x => 32 :: hexDigits x.toNat) ++ (p.l.flatMap (fun y => 32 :: boolB y.applied) ++ [])) := by
    intro p
    simp only [stateNameS, nameL, nameR, List.take_length, List.append_assoc, List.append_nil]
  rw [e, e] at h
  have hd : ∀ {α : Type} (f : α → List UInt8) (l : List α) (x : List UInt8), (∀ c, x.head? = some c → c = 32) → ∀ c, (l.flatMap (fun a => 32 :: f a) ++ x).head? = some c → c = 32 := by
    intro α f l x hx c hc
    cases l with
    | nil => exact hx c (by simpa using hc)
    | cons _ _ => simp at hc; exact hc.symm
  have hn : ∀ c, ([] : List UInt8).head? = some c → c = 32 := fun c hc => by simp at hc
  obtain ⟨h1, h2⟩ := sep_inj _ _ _ _ (hex_no32 _) (hex_no32 _) (hd _ _ _ (hd _ _ _ hn)) (hd _ _ _ (hd _ _ _ hn)) h
  obtain ⟨h3, h4⟩ := row_inj (fun x : Int => hexDigits x.toNat) (fun _ => hex_no32 _) _ _ _ _ hr (hd (fun y : OpP => boolB y.applied) _ _ hn) (hd (fun y : OpP => boolB y.applied) _ _ hn) h2
  obtain ⟨h5, _⟩ := row_inj (fun y : OpP => boolB y.applied) (fun _ => bool_no32 _) _ _ _ _ hl hn hn h4
  refine ⟨hex_inj h1, ?_, ?_⟩
  · apply List.ext_getElem hr
    intro i hi hj
    have h6 := List.getElem_of_eq h3 (i := i) (by simpa using hi)
    simp only [List.getElem_map] at h6
    have h7 := hex_inj h6
    have := hp _ (List.getElem_mem hi)
    have := hq _ (List.getElem_mem hj)
    omega
  · apply List.ext_getElem (by simpa using hl)
    intro i hi hj
    have h6 := List.getElem_of_eq h5 (i := i) (by simpa using hi)
    simp only [List.getElem_map] at h6 ⊢
    exact bool_inj h6

end Go.Proofs.YtieglgahfeecbaaGreatDoor

namespace Go.Proofs.YtieglgahfeecbaaGreatDoor
open Go.RowKit Go.Sort

/-- A thread's call behind the notes below k, if it is (not) applied. -/
def entS (ns : List NtP) : Nat → Nat → Bool → OpP
  | 0, _, b => ⟨false, b, 0, ReqP.none⟩
  | k + 1, t, b =>
    let n := ns.getD k NtP.none
    if n.thread.toNat = t then
      if n.kind = 1 then ⟨true, b, n.seq, n.req⟩
      else if b = true then ⟨decide (n.kind = 2), true, (entS ns k t true).seq, (entS ns k t true).req⟩
      else ⟨false, false, (entS ns k t false).seq, ReqP.none⟩
    else entS ns k t b
theorem ent_applied (ns : List NtP) (t : Nat) : ∀ k b, (entS ns k t b).applied = b
  | 0, b => rfl
  | k + 1, b => by
    unfold entS
    simp only
    split
    · split
      · rfl
      · cases b <;> simp
    · exact ent_applied ns t k b
theorem ent_eff (ns : List NtP) (t : Nat) : ∀ k, (entS ns k t false).on = true → entS ns k t true = ⟨true, true, (entS ns k t false).seq, (entS ns k t false).req⟩
  | 0, h => by simp [entS] at h
  | k + 1, h => by
    unfold entS at h ⊢
    simp only at h ⊢
    by_cases e : (ns.getD k NtP.none).thread.toNat = t
    · simp only [if_pos e] at h ⊢
      by_cases e1 : (ns.getD k NtP.none).kind = 1
      · simp only [if_pos e1]
      · rw [if_neg e1] at h
        simp at h
    · simp only [if_neg e] at h ⊢
      exact ent_eff ns t k h

/-- How a state lies among the notes. -/
structure StOk (c : Cfg) (ns : List NtP) (p : StP) : Prop where
  at_ : p.at_ ≤ ns.length
  len : p.l.length = c.threads.toNat
  rec_ : p.rec_.length = (startO c).length
  ent : ∀ t, t < p.l.length → p.l.getD t OpP.none = entS ns p.at_ t (p.l.getD t OpP.none).applied
theorem stOk_start (c : Cfg) (ns : List NtP) : StOk c ns ⟨0, startO c, List.replicate c.threads.toNat OpP.none⟩ where
  at_ := Nat.zero_le _
  len := by simp
  rec_ := rfl
  ent := fun t ht => by
    have : (List.replicate c.threads.toNat OpP.none).getD t OpP.none = OpP.none := by
      simp only [List.getD_eq_getElem?_getD, List.getElem?_replicate]
      split <;> rfl
    rw [this]
    rfl
theorem effK_memB {c : Cfg} {p s' : StP} : ∀ {n : Nat}, s' ∈ effK c p n → ∃ k, k < n ∧ (p.l.getD k OpP.none).on = true ∧ (p.l.getD k OpP.none).applied = false ∧ 0 < (p.l.getD k OpP.none).seq ∧
    s' = ⟨p.at_, applyO c p.rec_ k (p.l.getD k OpP.none).seq (p.l.getD k OpP.none).req, p.l.set k ⟨(p.l.getD k OpP.none).on, true, (p.l.getD k OpP.none).seq, (p.l.getD k OpP.none).req⟩⟩
  | 0, h => by simp [effK] at h
  | n + 1, h => by
    unfold effK at h
    simp only [List.mem_append] at h
    rcases h with h | h
    · obtain ⟨k, hk, r⟩ := effK_memB h
      exact ⟨k, by omega, r⟩
    · split at h
      · rename_i h3
        simp only [List.mem_cons, List.not_mem_nil, or_false] at h
        exact ⟨n, by omega, h3.1, h3.2.1, h3.2.2, h⟩
      · simp at h
/-- One thread's call changed as the next note says. -/
theorem StOk.next {c : Cfg} {ns : List NtP} {p : StP} (h : StOk c ns p) (hat : p.at_ < ns.length) {t : Nat} (hth : (ns.getD p.at_ NtP.none).thread.toNat = t) {y : OpP} (hy : y = entS ns (p.at_ + 1) t y.applied) : StOk c ns ⟨p.at_ + 1, p.rec_, p.l.set t y⟩ where
  at_ := hat
  len := by simpa using h.len
  rec_ := h.rec_
  ent := fun u hu => by
    have hu' : u < p.l.length := by simpa using hu
    by_cases e : u = t
    · subst e
      simp only [List.getD_eq_getElem?_getD, List.getElem?_set_self hu', Option.getD_some]
      exact hy
    · have e2 : (p.l.set t y).getD u OpP.none = p.l.getD u OpP.none := by
        simp only [List.getD_eq_getElem?_getD, List.getElem?_set_ne (Ne.symm e)]
      simp only
      rw [e2, h.ent u hu']
      rw [ent_applied]
      conv => rhs; unfold entS
      simp only
      rw [if_neg (by rw [hth]; exact Ne.symm e)]
theorem StOk.ways {c : Cfg} {ns : List NtP} {p s' : StP} (h : StOk c ns p) (hat : p.at_ < ns.length) (ht : (ns.getD p.at_ NtP.none).thread.toNat < p.l.length) (hm : s' ∈ waysS c ns p) : StOk c ns s' := by
  unfold waysS at hm
  simp only at hm
  generalize htt : (ns.getD p.at_ NtP.none).thread.toNat = t at *
  have hx := h.ent t ht
  generalize hxx : p.l.getD t OpP.none = x at *
  by_cases k1 : (ns.getD p.at_ NtP.none).kind = 1
  · rw [if_pos k1] at hm
    simp only [List.mem_cons, List.not_mem_nil, or_false] at hm
    subst hm
    exact h.next hat htt (by unfold entS; simp only; rw [if_pos htt, if_pos k1])
  · rw [if_neg k1] at hm
    by_cases k2 : x.applied = true ∧ tellsB c p.rec_ (ns.getD p.at_ NtP.none) = true
    · rw [if_pos k2] at hm
      simp only [List.mem_cons, List.not_mem_nil, or_false] at hm
      subst hm
      rw [k2.1] at hx
      exact h.next hat htt (by unfold entS; simp only; rw [if_pos htt, if_neg k1, if_pos trivial, ← hx])
    · rw [if_neg k2] at hm
      rcases List.mem_append.1 hm with hm | hm
      · split at hm
        · rename_i k3
          simp only [List.mem_cons, List.not_mem_nil, or_false] at hm
          subst hm
          rw [k3.2] at hx
          exact h.next hat htt (by unfold entS; simp only; rw [if_pos htt, if_neg k1, if_neg (by decide), ← hx])
        · simp at hm
      · obtain ⟨k, hk, h1, h2, h3, rfl⟩ := effK_memB hm
        have hy := h.ent k hk
        rw [h2] at hy
        refine ⟨h.at_, by simpa using h.len, applyO_len.trans h.rec_, fun u hu => ?_⟩
        have hu' : u < p.l.length := by simpa using hu
        by_cases e : u = k
        · subst e
          simp only [List.getD_eq_getElem?_getD, List.getElem?_set_self hu', Option.getD_some]
          simp only [List.getD_eq_getElem?_getD] at hy h1
          rw [ent_eff ns u p.at_ (by rw [← hy]; exact h1), ← hy, h1]
        · have e2 : ∀ y, (p.l.set k y).getD u OpP.none = p.l.getD u OpP.none := fun y => by
            simp only [List.getD_eq_getElem?_getD, List.getElem?_set_ne (Ne.symm e)]
          simp only
          rw [e2]
          exact h.ent u hu'
/-- Two states of one name are one. -/
theorem StOk.same {c : Cfg} {ns : List NtP} {p q : StP} (hp : StOk c ns p) (hq : StOk c ns q) (h0 : ∀ x ∈ p.rec_, 0 ≤ x) (h1 : ∀ x ∈ q.rec_, 0 ≤ x) (h : stateNameS p = stateNameS q) : p = q := by
  obtain ⟨ha, hr, hl⟩ := name_inj (by rw [hp.rec_, hq.rec_]) (by rw [hp.len, hq.len]) h0 h1 h
  have hll : p.l.length = q.l.length := by rw [hp.len, hq.len]
  have : p.l = q.l := by
    apply List.ext_getElem hll
    intro i hi hj
    have e1 := hp.ent i hi
    have e2 := hq.ent i hj
    have e3 := List.getElem_of_eq hl (i := i) (by simpa using hi)
    simp only [List.getElem_map] at e3
    simp only [List.getD_eq_getElem?_getD, List.getElem?_eq_getElem hi, List.getElem?_eq_getElem hj, Option.getD_some] at e1 e2
    rw [e1, e2, ha, e3]
  obtain ⟨a, b, d⟩ := p
  obtain ⟨a', b', d'⟩ := q
  simp only at ha hr this
  rw [ha, hr, this]

end Go.Proofs.YtieglgahfeecbaaGreatDoor

namespace Go.Proofs.YtieglgahfeecbaaGreatDoor
open Go.RowKit Go.Sort Go.Maps

/-- A block is a map. -/
def MapB (w : World) (mb : Nat) : Prop := ∃ es clock, w.heap[mb]? = some (.map es clock)
theorem cell_noMap {w : World} {mb b o : Nat} {v : Value} (hm : MapB w mb) (h : w.cell? ⟨b, o, none⟩ = some v) : some b ≠ some mb := by
  rintro e
  injection e with e
  subst e
  obtain ⟨es, clock, hm⟩ := hm
  simp [World.cell?, hm] at h
theorem cell_keptM {w w' : World} {mb b o : Nat} {v : Value} (hm : MapB w mb) (hg : w.grownBy w' (some mb)) (hlt : b < w.heap.size) (h : w.cell? ⟨b, o, none⟩ = some v) : w'.cell? ⟨b, o, none⟩ = some v := by
  have hb := hg.block b hlt (cell_noMap hm h)
  simp only [World.cell?] at h ⊢
  rw [hb]; exact h
theorem Rd.keptM {w w' : World} {mb : Nat} {A : Option Addr} {xs : List Value} (h : Rd w A xs) (hm : MapB w mb) (hg : w.grownBy w' (some mb)) : Rd w' A xs := by
  rcases h with h | ⟨b, o, rfl, hlt, hc⟩
  · exact .inl h
  · exact .inr ⟨b, o, rfl, Nat.lt_of_lt_of_le hlt hg.size, fun k v hk => cell_keptM hm hg hlt (hc k v hk)⟩
theorem ReqAt.keptM {w w' : World} {mb : Nat} {q : Reqr} {l : List Cse} (h : ReqAt w q l) (hm : MapB w mb) (hg : w.grownBy w' (some mb)) : ReqAt w' q l := ⟨h.len, h.rd.keptM hm hg⟩
theorem OprIs.keptM {w w' : World} {mb : Nat} {x : Opr} {y : OpP} (h : OprIs w x y) (hm : MapB w mb) (hg : w.grownBy w' (some mb)) : OprIs w' x y := by
  obtain ⟨h1, h2, h3, cs, h4, h5, h6⟩ := h
  exact ⟨h1, h2, h3, cs, h4.keptM hm hg, h5, h6⟩
theorem StAt.keptM {w w' : World} {mb : Nat} {s : Str} {p : StP} (h : StAt w s p) (hm : MapB w mb) (hg : w.grownBy w' (some mb)) : StAt w' s p := by
  obtain ⟨L, h1, h2, h3⟩ := h.l
  exact ⟨h.at_, h.rn, h.rc, h.rb, h.rd.keptM hm hg, h.big, h.ln, h.lb, L, h1, h2.keptM hm hg, fun k hk => (h3 k hk).keptM hm hg⟩
theorem NtsAt.keptM {w w' : World} {mb : Nat} {NA : Option Addr} {NS : List Nte} {PS : List NtP} (h : NtsAt w NA NS PS) (hm : MapB w mb) (hg : w.grownBy w' (some mb)) : NtsAt w' NA NS PS :=
  ⟨h.rd.keptM hm hg, h.len, h.few, fun k hk => by
    obtain ⟨cs, h1, h2⟩ := h.is_ k hk
    exact ⟨cs, h1.keptM hm hg, h2⟩⟩
theorem CfgIn.keptM {w w' : World} {mb : Nat} {c : Cfg} (h : CfgIn w c) (hm : MapB w mb) (hg : w.grownBy w' (some mb)) : CfgIn w' c := ⟨h.1.keptM hm hg, h.2⟩
theorem Blk.keptM {w w' : World} {mb g : Nat} {t : TypeId} {cs : List Value} (h : Blk w g t cs) (hm : MapB w mb) (hg : w.grownBy w' (some mb)) : Blk w' g t cs := by
  refine blk_grown h hg ?_
  rintro e
  injection e with e
  subst e
  obtain ⟨es, clock, hm⟩ := hm
  have h2 : w.heap[g]? = some (.cells cs.toArray t (0, 0)) := h
  rw [hm] at h2
  cases h2
theorem Tz16.keptM {w w' : World} {mb : Nat} (h : Tz16 w) (hm : MapB w mb) (hg : w.grownBy w' (some mb)) : Tz16 w' := ⟨Nat.lt_of_lt_of_le h.1 hg.size, cell_keptM hm hg h.1 h.2⟩

/-- The map's names. -/
structure NamesIs (D : DataW Unit) (T : List UInt8 → Bool) : Prop where
  isMap : IsMap D
  at_ : ∀ s, D.atKey (.string s) (.lit (.bool false)) = .lit (.bool (T s))
theorem namesIs_empty : NamesIs (.map []) (fun _ => false) := ⟨isMap_empty, fun _ => rfl⟩
theorem NamesIs.put {D : DataW Unit} {T : List UInt8 → Bool} (h : NamesIs D T) (s : List UInt8) : NamesIs (D.put (.string s) (.lit (.bool true))) (fun u => if u = s then true else T u) := by
  refine ⟨h.isMap.put _ _, fun u => ?_⟩
  by_cases hu : u = s
  · subst hu
    rw [if_pos rfl]
    exact atKey_put_same h.isMap (by exact True.intro) _ _
  · rw [if_neg hu, atKey_put_other (by intro e; injection e with e; exact hu e)]
    exact h.at_ u

end Go.Proofs.YtieglgahfeecbaaGreatDoor

namespace Go.Proofs.YtieglgahfeecbaaGreatDoor
open Go.RowKit Go.Sort

theorem callsK_monoB (ns : List NtP) (k : Nat) : ∀ d, callsK ns k ≤ callsK ns (k + d)
  | 0 => Nat.le_refl _
  | d + 1 => Nat.le_trans (callsK_monoB ns k d) (by show _ ≤ callsK ns (k + d) + _; omega)
def pendB (y : OpP) : Bool := y.on && !y.applied
/-- Calls that may yet take effect: those that are open and not applied, and those that are still to come. -/
def fLeft (ns : List NtP) (p : StP) : Nat := p.l.countP pendB + (callsK ns ns.length - callsK ns p.at_)
theorem count_set (l : List OpP) {t : Nat} (ht : t < l.length) (y : OpP) : (l.set t y).countP pendB + (if pendB (l.getD t OpP.none) = true then 1 else 0) = l.countP pendB + (if pendB y = true then 1 else 0) := by
  have e : l.getD t OpP.none = l[t] := by simp [List.getD_eq_getElem?_getD, List.getElem?_eq_getElem ht]
  rw [e, List.countP_set ht]
  have : (if pendB l[t] = true then 1 else 0) ≤ l.countP pendB := by
    split
    · rename_i h
      exact List.countP_pos_iff.2 ⟨l[t], List.getElem_mem ht, h⟩
    · exact Nat.zero_le _
  omega
theorem ways_left {c : Cfg} {ns : List NtP} {p s' : StP} (hat : p.at_ < ns.length) (ht : (ns.getD p.at_ NtP.none).thread.toNat < p.l.length) (hm : s' ∈ waysS c ns p) :
    (s'.at_ = p.at_ + 1 ∧ fLeft ns s' ≤ fLeft ns p) ∨ (s'.at_ = p.at_ ∧ fLeft ns s' + 1 ≤ fLeft ns p) := by
  have hc : callsK ns (p.at_ + 1) = callsK ns p.at_ + (if (ns.getD p.at_ NtP.none).kind = 1 then 1 else 0) := rfl
  have hmono : callsK ns (p.at_ + 1) ≤ callsK ns ns.length := by
    have := callsK_monoB ns (p.at_ + 1) (ns.length - (p.at_ + 1))
    rwa [show p.at_ + 1 + (ns.length - (p.at_ + 1)) = ns.length by omega] at this
  unfold waysS at hm
  simp only at hm
  generalize (ns.getD p.at_ NtP.none).thread.toNat = t at *
  have hs := count_set p.l ht
  by_cases k1 : (ns.getD p.at_ NtP.none).kind = 1
  · rw [if_pos k1] at hm hc
    simp only [List.mem_cons, List.not_mem_nil, or_false] at hm
    subst hm
    left
    refine ⟨rfl, ?_⟩
    unfold fLeft
    have h := hs ⟨true, false, (ns.getD p.at_ NtP.none).seq, (ns.getD p.at_ NtP.none).req⟩
    rw [if_pos (show pendB ⟨true, false, _, _⟩ = true from rfl)] at h
    simp only
    split at h <;> omega
  · rw [if_neg k1] at hm hc
    by_cases k2 : (p.l.getD t OpP.none).applied = true ∧ tellsB c p.rec_ (ns.getD p.at_ NtP.none) = true
    · rw [if_pos k2] at hm
      simp only [List.mem_cons, List.not_mem_nil, or_false] at hm
      subst hm
      left
      refine ⟨rfl, ?_⟩
      unfold fLeft
      have h := hs ⟨decide ((ns.getD p.at_ NtP.none).kind = 2), true, (p.l.getD t OpP.none).seq, (p.l.getD t OpP.none).req⟩
      rw [if_neg (show ¬ pendB ⟨decide ((ns.getD p.at_ NtP.none).kind = 2), true, _, _⟩ = true by simp [pendB])] at h
      simp only
      split at h <;> omega
    · rw [if_neg k2] at hm
      rcases List.mem_append.1 hm with hm | hm
      · split at hm
        · simp only [List.mem_cons, List.not_mem_nil, or_false] at hm
          subst hm
          left
          refine ⟨rfl, ?_⟩
          unfold fLeft
          have h := hs ⟨false, false, (p.l.getD t OpP.none).seq, ReqP.none⟩
          rw [if_neg (show ¬ pendB ⟨false, false, _, _⟩ = true by simp [pendB])] at h
          simp only
          split at h <;> omega
        · simp at hm
      · obtain ⟨k, hk, h1, h2, h3, rfl⟩ := effK_memB hm
        right
        refine ⟨rfl, ?_⟩
        unfold fLeft
        have h := count_set p.l hk ⟨(p.l.getD k OpP.none).on, true, (p.l.getD k OpP.none).seq, (p.l.getD k OpP.none).req⟩
        rw [if_pos (show pendB (p.l.getD k OpP.none) = true by unfold pendB; rw [h1, h2]; rfl), if_neg (show ¬ pendB ⟨_, true, _, _⟩ = true by simp [pendB])] at h
        simp only
        omega

end Go.Proofs.YtieglgahfeecbaaGreatDoor

namespace Go.Proofs.YtieglgahfeecbaaGreatDoor
open Go.RowKit Go.Sort

def scanR : Nat → List Nat → List Nat
  | _, [] => []
  | r, x :: l => (1 + r + 6 * x) :: scanR (1 + r + 6 * x) l
def rowN : Nat → List Nat
  | 0 => List.range 61
  | f + 1 => 0 :: scanR 0 ((rowN f).drop 1)
/-- At most so many names, with a notes and f effects left. -/
def namesN (a f : Nat) : Nat := (rowN f).getD a 0
theorem scanR_len : ∀ (l : List Nat) (r : Nat), (scanR r l).length = l.length
  | [], _ => rfl
  | _ :: l, _ => by simp [scanR, scanR_len l]
theorem scanR_at : ∀ (l : List Nat) (r i : Nat), i < l.length → (scanR r l).getD i 0 = 1 + (r :: scanR r l).getD i 0 + 6 * l.getD i 0
  | [], _, _, h => by simp at h
  | x :: l, r, 0, _ => by simp [scanR]
  | x :: l, r, i + 1, h => by
    have := scanR_at l (1 + r + 6 * x) i (by simpa using h)
    simp only [scanR, List.getD_cons_succ] at this ⊢
    exact this
theorem rowN_len : ∀ f, (rowN f).length = 61
  | 0 => by simp [rowN]
  | f + 1 => by simp [rowN, scanR_len, rowN_len f]
theorem namesN_0 (f : Nat) : namesN 0 f = 0 := by
  cases f
  · rfl
  · rfl
theorem namesN_a0 {a : Nat} (h : a < 61) : namesN a 0 = a := by
  unfold namesN rowN
  simp [List.getD_eq_getElem?_getD, h]
theorem namesN_succ {a f : Nat} (h : a < 60) : namesN (a + 1) (f + 1) = 1 + namesN a (f + 1) + 6 * namesN (a + 1) f := by
  have hl := rowN_len f
  have e := scanR_at ((rowN f).drop 1) 0 a (by simp [hl]; omega)
  unfold namesN
  rw [show rowN (f + 1) = 0 :: scanR 0 ((rowN f).drop 1) from rfl, List.getD_cons_succ, e]
  simp [List.getD_eq_getElem?_getD, Nat.add_comm]
theorem namesN_mono {a : Nat} (ha : a ≤ 60) : ∀ f, namesN a f ≤ namesN a (f + 1) := by
  induction a with
  | zero => intro f; rw [namesN_0, namesN_0]; exact Nat.le_refl _
  | succ a ih =>
    intro f
    rw [namesN_succ (by omega)]
    omega
theorem namesN_le {a : Nat} (ha : a ≤ 60) {f f' : Nat} (h : f ≤ f') : namesN a f ≤ namesN a f' := by
  obtain ⟨d, rfl⟩ := Nat.exists_eq_add_of_le h
  clear h
  induction d with
  | zero => exact Nat.le_refl _
  | succ d ih => exact Nat.le_trans ih (namesN_mono ha _)
theorem namesN_top : namesN 60 8 < 9223372036854775807 := by decide +kernel
theorem namesN_step {a f : Nat} (h : a < 60) : 1 + namesN a f ≤ namesN (a + 1) f := by
  cases f with
  | zero => rw [namesN_a0 (by omega), namesN_a0 (by omega)]; omega
  | succ f => rw [namesN_succ h]; omega

end Go.Proofs.YtieglgahfeecbaaGreatDoor

namespace Go.Proofs.YtieglgahfeecbaaGreatDoor
open Go.RowKit Go.Sort

def nN (ns : List NtP) (p : StP) : Nat := namesN (ns.length - p.at_) (fLeft ns p)
theorem sum_le {α : Type} (g : α → Nat) (B : Nat) : ∀ l : List α, (∀ q ∈ l, g q ≤ B) → (l.map g).sum ≤ l.length * B
  | [], _ => by simp
  | x :: l, h => by
    have h1 := h x (List.mem_cons_self ..)
    have h2 := sum_le g B l (fun q hq => h q (List.mem_cons_of_mem _ hq))
    rw [List.map_cons, List.sum_cons, List.length_cons, Nat.succ_mul]
    omega
theorem ways_sum {c : Cfg} {ns : List NtP} {p : StP} (hn : ns.length ≤ 60) (hat : p.at_ < ns.length) (ht : (ns.getD p.at_ NtP.none).thread.toNat < p.l.length) (hl : p.l.length ≤ 6) :
    ((waysS c ns p).map (nN ns)).sum + 1 ≤ nN ns p := by
  obtain ⟨a, ha⟩ : ∃ a, ns.length - p.at_ = a + 1 := ⟨ns.length - p.at_ - 1, by omega⟩
  have hw := fun s' hm => ways_left (c := c) (s' := s') hat ht hm
  have hnp : nN ns p = namesN (a + 1) (fLeft ns p) := by unfold nN; rw [ha]
  have hnext : ∀ s', s' ∈ waysS c ns p → s'.at_ = p.at_ + 1 → nN ns s' ≤ namesN a (fLeft ns p) := by
    intro s' hm he
    rcases hw s' hm with ⟨_, h2⟩ | ⟨h1, _⟩
    · unfold nN
      rw [he, show ns.length - (p.at_ + 1) = a by omega]
      exact namesN_le (by omega) h2
    · omega
  have hstep := namesN_step (a := a) (f := fLeft ns p) (by omega)
  rw [hnp]
  have heff : ∀ s', s' ∈ effK c p p.l.length → s' ∈ waysS c ns p → nN ns s' ≤ namesN (a + 1) (fLeft ns p - 1) ∧ 1 ≤ fLeft ns p := by
    intro s' he hm
    obtain ⟨k, _, _, _, _, hs⟩ := effK_memB he
    have hsa : s'.at_ = p.at_ := by rw [hs]
    rcases hw s' hm with ⟨h1, _⟩ | ⟨_, h2⟩
    · omega
    · refine ⟨?_, by omega⟩
      unfold nN
      rw [hsa, ha]
      exact namesN_le (by omega) (by omega)
  clear hw hnp
  unfold waysS at hnext heff ⊢
  simp only at hnext heff ⊢
  generalize (ns.getD p.at_ NtP.none).thread.toNat = t at *
  by_cases k1 : (ns.getD p.at_ NtP.none).kind = 1
  · simp only [if_pos k1] at hnext heff ⊢
    have := hnext _ (List.mem_cons_self ..) rfl
    simp only [List.map_cons, List.map_nil, List.sum_cons, List.sum_nil]
    omega
  · simp only [if_neg k1] at hnext heff ⊢
    by_cases k2 : (p.l.getD t OpP.none).applied = true ∧ tellsB c p.rec_ (ns.getD p.at_ NtP.none) = true
    · simp only [if_pos k2] at hnext heff ⊢
      have := hnext _ (List.mem_cons_self ..) rfl
      simp only [List.map_cons, List.map_nil, List.sum_cons, List.sum_nil]
      omega
    · simp only [if_neg k2] at hnext heff ⊢
      rw [List.map_append, List.sum_append]
      have hP : ∀ P : List StP, P.length ≤ 1 → (∀ q ∈ P, q.at_ = p.at_ + 1 ∧ q ∈ P) → (∀ q ∈ P, nN ns q ≤ namesN a (fLeft ns p)) → (P.map (nN ns)).sum ≤ namesN a (fLeft ns p) := by
        intro P hl _ h
        have h1 := sum_le (nN ns) _ P h
        have : P.length * namesN a (fLeft ns p) ≤ 1 * namesN a (fLeft ns p) := Nat.mul_le_mul_right _ hl
        omega
      have hP2 := hP (if noneB (ns.getD p.at_ NtP.none) = true ∧ (p.l.getD t OpP.none).applied = false then [⟨p.at_ + 1, p.rec_, p.l.set t ⟨false, false, (p.l.getD t OpP.none).seq, ReqP.none⟩⟩] else []) (by split <;> simp) (by
        intro q hq
        refine ⟨?_, hq⟩
        split at hq
        · simp only [List.mem_cons, List.not_mem_nil, or_false] at hq; rw [hq]
        · simp at hq) (fun q hq => hnext q (List.mem_append_left _ hq) (by
        split at hq
        · simp only [List.mem_cons, List.not_mem_nil, or_false] at hq; rw [hq]
        · simp at hq))
      have hE := sum_le (nN ns) (namesN (a + 1) (fLeft ns p - 1)) (effK c p p.l.length) (fun q hq => (heff q hq (List.mem_append_right _ hq)).1)
      have hel := effK_len c p p.l.length
      have h6 : (effK c p p.l.length).length * namesN (a + 1) (fLeft ns p - 1) ≤ 6 * namesN (a + 1) (fLeft ns p - 1) := Nat.mul_le_mul_right _ (by omega)
      by_cases hz : effK c p p.l.length = []
      · rw [hz]
        simp only [List.map_nil, List.sum_nil]
        omega
      · obtain ⟨q, hq⟩ := List.exists_mem_of_ne_nil _ hz
        have h1 := (heff q hq (List.mem_append_right _ hq)).2
        obtain ⟨f, hf⟩ : ∃ f, fLeft ns p = f + 1 := ⟨fLeft ns p - 1, by omega⟩
        rw [hf] at hE h6 hP2 ⊢
        rw [namesN_succ (by omega)]
        simp only [Nat.add_sub_cancel] at hE h6
        omega

end Go.Proofs.YtieglgahfeecbaaGreatDoor

namespace Go.Proofs.YtieglgahfeecbaaGreatDoor
open Go.RowKit Go.Sort Go.Maps
attribute [local go_sem ↓] Go.wp_at_zero Go.wp_at_succ

/-- What a search reads, while it runs. -/
structure SrAt (c : Cfg) (gF : Nat) (NA : Option Addr) (nc mb : Nat) (NS : List Nte) (PS : List NtP) (w : World) : Prop where
  cfg : CfgIn w c
  box : Blk w gF 51 (srchCells c NA NS.length nc mb)
  nts : NtsAt w NA NS PS
  tz : Tz16 w
theorem SrAt.below {c : Cfg} {gF : Nat} {NA : Option Addr} {nc mb : Nat} {NS : List Nte} {PS : List NtP} {w w' : World} (h : SrAt c gF NA nc mb NS PS w) (hb : Below w.heap.size w w') : SrAt c gF NA nc mb NS PS w' :=
  ⟨h.cfg.below hb, h.box.below hb h.box.lt, h.nts.below hb, h.tz.below hb⟩
theorem SrAt.keptM {c : Cfg} {gF : Nat} {NA : Option Addr} {nc mb : Nat} {NS : List Nte} {PS : List NtP} {w w' : World} (h : SrAt c gF NA nc mb NS PS w) (hm : MapB w mb) (hg : w.grownBy w' (some mb)) : SrAt c gF NA nc mb NS PS w' :=
  ⟨h.cfg.keptM hm hg, h.box.keptM hm hg, h.nts.keptM hm hg, h.tz.keptM hm hg⟩
/-- The names put down so far. -/
def TrAt (w : World) (mb n : Nat) (T : List UInt8 → Bool) : Prop := ∃ D : DataW Unit, w.ownsMap Tryz.prog 9 (plainElem Tryz.prog 4) mb n D ∧ NamesIs D T
theorem TrAt.map {w : World} {mb n : Nat} {T : List UInt8 → Bool} (h : TrAt w mb n T) : MapB w mb := by
  obtain ⟨D, ⟨es, clock, hb, _⟩, _⟩ := h
  exact ⟨es, clock, hb⟩
theorem TrAt.mono {w : World} {mb n n' : Nat} {T : List UInt8 → Bool} (h : TrAt w mb n T) (hn : n ≤ n') : TrAt w mb n' T := by
  obtain ⟨D, h1, h2⟩ := h
  exact ⟨D, h1.mono hn, h2⟩
theorem grown_below {w w' : World} {row : Option Nat} (hb : Below w.heap.size w w') : w.grownBy w' row := ⟨hb.os, hb.tape, hb.output, hb.size, fun k hk _ => hb.block k hk⟩
theorem TrAt.below {w w' : World} {mb n : Nat} {T : List UInt8 → Bool} (h : TrAt w mb n T) (hb : Below w.heap.size w w') : TrAt w' mb n T := by
  obtain ⟨D, h1, h2⟩ := h
  exact ⟨D, h1.kept (grown_below (row := none) hb) (by simp), h2⟩
/-- What was put down behind T is not explained. -/
def OnlyBad (c : Cfg) (PS : List NtP) (T T' : List UInt8 → Bool) : Prop := ∀ q, StOk c PS q → (∀ x ∈ q.rec_, 0 ≤ x) → T' (stateNameS q) = true → T (stateNameS q) = true ∨ ¬ Expl c PS q
theorem OnlyBad.refl (c : Cfg) (PS : List NtP) (T : List UInt8 → Bool) : OnlyBad c PS T T := fun _ _ _ h => .inl h
theorem OnlyBad.trans {c : Cfg} {PS : List NtP} {T T' T'' : List UInt8 → Bool} (h : OnlyBad c PS T T') (h' : OnlyBad c PS T' T'') : OnlyBad c PS T T'' := fun q h1 h2 h3 => by
  rcases h' q h1 h2 h3 with h4 | h4
  · exact h q h1 h2 h4
  · exact .inr h4
/-- What the search answers from a state on. -/
def FromPost (c : Cfg) (PS : List NtP) (mb n : Nat) (T : List UInt8 → Bool) (p : StP) (w : World) (e : Ending) (w' : World) : Prop :=
  ∃ (r : Bool) (T' : List UInt8 → Bool), e = .returned (.bool r) ∧ (r = true ↔ Expl c PS p) ∧ TrAt w' mb (n + nN PS p) T' ∧ (r = false → OnlyBad c PS T T') ∧ w.grownBy w' (some mb)
def leftM (PS : List NtP) (p : StP) : Nat := (PS.length - p.at_) + fLeft PS p
/-- Whatever was put down is not explained, or has more left than m. -/
def Tried (c : Cfg) (PS : List NtP) (T : List UInt8 → Bool) (m : Nat) : Prop := ∀ q, StOk c PS q → (∀ x ∈ q.rec_, 0 ≤ x) → T (stateNameS q) = true → ¬ Expl c PS q ∨ m < leftM PS q
theorem Tried.bad {c : Cfg} {PS : List NtP} {T T' : List UInt8 → Bool} {m : Nat} (h : Tried c PS T m) (hb : OnlyBad c PS T T') : Tried c PS T' m := fun q h1 h2 h3 => by
  rcases hb q h1 h2 h3 with h4 | h4
  · exact h q h1 h2 h4
  · exact .inl h4
theorem Tried.mono {c : Cfg} {PS : List NtP} {T : List UInt8 → Bool} {m m' : Nat} (h : Tried c PS T m) (hm : m' ≤ m) : Tried c PS T m' := fun q h1 h2 h3 => (h q h1 h2 h3).imp id (fun h4 => by omega)

/-- What the search does from a state on, in whatever world. -/
def FromOk (c : Cfg) (gF : Nat) (NA : Option Addr) (nc mb : Nat) (NS : List Nte) (PS : List NtP) (p : StP) : Prop :=
  ∀ (s : Str) (w : World) (n : Nat) (T : List UInt8 → Bool), SrAt c gF NA nc mb NS PS w → StAt w s p → TrAt w mb n T → Tried c PS T (leftM PS p) → n + nN PS p < maxLen →
    Calls Tryz.prog 16 #[.pointer (some ⟨gF, 0, none⟩), strV s] w (FromPost c PS mb n T p w)

theorem str_cells {w : World} {b o : Nat} {l : List Str} (hc : ∀ k v, (rows l)[k]? = some v → w.cell? ⟨b, o + k, none⟩ = some v) {k : Nat} (hk : k < l.length) {x : Str} (hx : l.getD k Str.none = x) :
    w.cell? ⟨b, o + k * 3, none⟩ = some (.int .i64 x.at_) ∧ w.cell? ⟨b, o + k * 3 + 1, none⟩ = some (.slice x.RA x.rn x.rc) ∧ w.cell? ⟨b, o + k * 3 + 2, none⟩ = some (.slice x.LA x.ln x.lc) := by
  have h := rec_cell hc hk hx
  exact ⟨h 0 _ rfl, h 1 _ rfl, h 2 _ rfl⟩

end Go.Proofs.YtieglgahfeecbaaGreatDoor

/- chans: a channel is closed: walked. (printed by gen_xc9.py) -/
import Derived.Test.YtieglgahfeecbaaGreatDoorP4
import Derived.Test.YtieglgahfeecbaaGreatDoorP5
import Derived.Test.YtieglgahfeecbaaGreatDoorP13
set_option maxHeartbeats 64000000
set_option maxRecDepth 100000
namespace Go.Proofs.YtieglgahfeecbaaGreatDoor
open Go.RowKit Go.Sort
attribute [local go_sem ↓] Go.wp_at_zero Go.wp_at_succ
def cmpI (a b : Int) : Int := if a < b then -1 else if b < a then 1 else 0
theorem isNaN_any (a : Int) (w : World) : Calls Tryz.prog 227 #[.int .i64 a] w fun e w' => e = .returned (.bool false) /\ w' = w := by
 go_enter Tryz.func227, Tryz.ntmps227
 go_wp2
 go_ret
 exact ⟨rfl, rfl⟩
theorem Compare_any (a b : Int) (w : World) : Calls Tryz.prog 222 #[.int .i64 a, .int .i64 b] w fun e w' => e = .returned (.int .i64 (cmpI a b)) /\ w' = w := by
 have HN := Zd isNaN_any
 have HV : Hid (cmpI a b = if a < b then -1 else if b < a then 1 else 0) := Zd rfl
 generalize cmpI a b = R at *
 by_cases h1 : a < b
 . go_enter Tryz.func222, Tryz.ntmps222
   go_wp2_with (refine (HN.out _ _).mono ?_; rintro er w1 ⟨rfl, rfl⟩)
   go_ret
   exact ⟨ret_int (by rw [HV.out, if_pos h1]), rfl⟩
 . by_cases h2 : b < a
   . go_enter Tryz.func222, Tryz.ntmps222
     go_wp2_with (refine (HN.out _ _).mono ?_; rintro er w1 ⟨rfl, rfl⟩)
     go_ret
     exact ⟨ret_int (by rw [HV.out, if_neg (by omega), if_pos h2]), rfl⟩
   . go_enter Tryz.func222, Tryz.ntmps222
     go_wp2_with (refine (HN.out _ _).mono ?_; rintro er w1 ⟨rfl, rfl⟩)
     go_ret
     exact ⟨ret_int (by rw [HV.out, if_neg (by omega), if_neg (by omega)]), rfl⟩
theorem wOn1_enters : Enters 219 := enters_of Tryz.func219 (by kernel_rfl) (by kernel_rfl)
theorem wOn2_enters : Enters 221 := enters_of Tryz.func221 (by kernel_rfl) (by kernel_rfl)
theorem wOn1_any (x : Cse) (handle : Int) (bh : Nat) (w : World) (hbh : bh < w.heap.size) (hh : w.cell? ⟨bh, 0, none⟩ = some (.int .i64 handle)) :
  Calls Tryz.prog 219 #[cseV x, .pointer (some ⟨bh, 0, none⟩)] w fun e w' => e = .returned (.bool (isH handle x)) /\ Below w.heap.size w w' := by
 obtain ⟨xd, xh, xv⟩ := x
 have hne2 : ¬ bh = w.heap.size := by omega
 have hh2 : ∀ o, (w.alloc o).cell? ⟨bh, 0, none⟩ = some (.int .i64 handle) := fun o => by rw [World.cell?_alloc_lt _ _ _ (by exact hbh)]; exact hh
 clear hh
 unfold isH
 go_enter Tryz.func219, Tryz.ntmps219
 go_wp2
 go_ret
 exact ⟨rfl, (Below.refl _ _).alloc (Nat.le_refl _) _⟩
theorem wOn1_asks (handle : Int) (bh : Nat) (w : World) (l : List Cse) (hbh : bh < w.heap.size) (hh : w.cell? ⟨bh, 0, none⟩ = some (.int .i64 handle)) :
  AsksV cseV w 219 #[.pointer (some ⟨bh, 0, none⟩)] (isH handle) l := by
 intro x _ w' hb'
 exact wOn1_any x handle bh w' (Nat.lt_of_lt_of_le hbh hb'.size) ((hb'.cell (p := ⟨bh, 0, none⟩) hbh).trans hh)
def tkOf (l : List Wtr) (t : Int) : Int := (l.getD t.toNat Wtr.none).ticket
theorem wOn2_any (l : List Wtr) (A : Option Addr) (n c : Nat) (bl : Nat) (x y : Int) (hx : inL n x) (hy : inL n y) (w : World) (h : WtsAt w A n l) (hc : w.cell? ⟨bl, 0, none⟩ = some (.slice A n c)) :
  Calls Tryz.prog 221 #[.int .i64 x, .int .i64 y, .pointer (some ⟨bl, 0, none⟩)] w fun e w' => e = .returned (.int .i64 (cmpI (tkOf l x) (tkOf l y))) /\ Below w.heap.size w w' := by
 obtain ⟨i, rfl⟩ : ∃ k : Nat, x = k := ⟨x.toNat, by unfold inL at hx; omega⟩
 obtain ⟨j, rfl⟩ : ∃ k : Nat, y = k := ⟨y.toNat, by unfold inL at hy; omega⟩
 have hi : i < n := by unfold inL at hx; omega
 have hj : j < n := by unfold inL at hy; omega
 obtain ⟨b, o, hA, hbl, _, c1, _, _⟩ := h.pat hi
 obtain ⟨b', o', hA', _, _, d1, _, _⟩ := h.pat hj
 rw [hA] at hA'
 injection hA' with hA'
 injection hA' with e1 e2
 subst e1 e2 hA
 have HV : Hid (cmpI (tkOf l (i : Int)) (tkOf l (j : Int)) = cmpI (l.getD i Wtr.none).ticket (l.getD j Wtr.none).ticket) := Zd (by simp only [tkOf, Int.toNat_natCast])
 have HN := Zd Compare_any
 clear h hx hy
 rw [HV.out]
 clear HV
 generalize (l.getD i Wtr.none).ticket = ti at *
 generalize (l.getD j Wtr.none).ticket = tj at *
 go_enter Tryz.func221, Tryz.ntmps221
 go_upto_region 1 with fail
 go_quiet (exact Calls.quiet_of_same (HN.out _ _ _))
 go_wp2_with fail
 go_ret
 exact ⟨rfl, Below.drewN' (Below.refl _ _) _⟩
def onsK (l : List WtP) (handle : Int) (k : Nat) : List Int := ((List.range k).filter fun t : Nat => onB handle (l.getD t WtP.none)).map fun t : Nat => (t : Int)
theorem onsK_all (l : List WtP) (handle : Int) : onsK l handle l.length = onsS l handle := rfl
theorem onsK_succ (l : List WtP) (handle : Int) (k : Nat) : onsK l handle (k + 1) = if onB handle (l.getD k WtP.none) = true then onsK l handle k ++ [(k : Int)] else onsK l handle k := by
 unfold onsK
 rw [List.range_succ, List.filter_append, List.map_append]
 by_cases h : onB handle (l.getD k WtP.none) = true
 . have e : List.filter (fun t : Nat => onB handle (l.getD t WtP.none)) [k] = [k] := by simp only [List.filter, h]
   rw [if_pos h, e]; rfl
 . have h' : onB handle (l.getD k WtP.none) = false := by simpa using h
   have e : List.filter (fun t : Nat => onB handle (l.getD t WtP.none)) [k] = [] := by simp only [List.filter, h']
   rw [if_neg h, e, List.map_nil, List.append_nil]
theorem onsK_len (l : List WtP) (handle : Int) (k : Nat) : (onsK l handle k).length <= k := by
 unfold onsK
 rw [List.length_map]
 have := List.length_filter_le (fun t : Nat => onB handle (l.getD t WtP.none)) (List.range k)
 rwa [List.length_range] at this
theorem onsK_in (l : List WtP) (handle : Int) (k : Nat) : ∀ x ∈ onsK l handle k, inL k x := by
 intro x hx
 unfold onsK at hx
 simp only [List.mem_map, List.mem_filter, List.mem_range] at hx
 obtain ⟨a, ⟨h1, _⟩, rfl⟩ := hx
 unfold inL
 omega
theorem insert_nil (c : Nat) (f : Value) (w : World) : Calls Tryz.prog 229 #[.slice none 0 c, .int .i64 0, .int .i64 0, f] w fun e w' => e = .returned (.tuple #[]) /\ w' = w := by
 go_enter Tryz.func229, Tryz.ntmps229
 go_wp2_with fail
 go_loopg [8] 0 (fun gg i wr => gg = 0 /\ i = .int .i64 1 /\ wr = w)
 case atStart => exact ⟨rfl, rfl, rfl⟩
 case round =>
  obtain ⟨rfl, rfl, rfl⟩ := hrel
  go_wp2_with fail
  go_end0
  exact ⟨rfl, rfl⟩
theorem stable_nil (c : Nat) (f : Value) (w : World) : Calls Tryz.prog 226 #[.slice none 0 c, .int .i64 0, f] w fun e w' => e = .returned (.tuple #[]) /\ w' = w := by
 have HI := Zd (insert_nil c f)
 go_enter Tryz.func226, Tryz.ntmps226
 go_wp2_with fail
 go_loopg [7, 8] 0 (fun gg i j wr => gg = 0 /\ i = .int .i64 0 /\ j = .int .i64 20 /\ wr = w)
 case atStart => exact ⟨rfl, rfl, rfl, rfl⟩
 case round =>
  obtain ⟨rfl, rfl, rfl, rfl⟩ := hrel
  go_wp2_with (refine (HI.out _).mono ?_; rintro er w1 ⟨rfl, rfl⟩)
  go_loopg [6] 0 (fun gg i wr2 => gg = 0 /\ i = .int .i64 20 /\ wr2 = w1)
  case atStart => exact ⟨rfl, rfl, rfl⟩
  case round =>
   obtain ⟨rfl, rfl, rfl⟩ := hrel
   go_wp2_with fail
   go_end0
   exact ⟨rfl, rfl⟩
theorem sort_nil (c : Nat) (f : Value) (w : World) : Calls Tryz.prog 220 #[.slice none 0 c, f] w fun e w' => e = .returned (.tuple #[]) /\ w' = w := by
 have HI := Zd (stable_nil c f)
 go_enter Tryz.func220, Tryz.ntmps220
 go_wp2_with (refine (HI.out _).mono ?_; rintro er w1 ⟨rfl, rfl⟩)
 go_end0
 exact ⟨rfl, rfl⟩
theorem cmp_lt (l : List Wtr) (x y : Int) : ltOf (fun x y => cmpI (tkOf l x) (tkOf l y)) x y = decide (tkOf l x < tkOf l y) := by
 unfold ltOf cmpI
 by_cases h1 : tkOf l x < tkOf l y
 . simp [h1]
 . by_cases h2 : tkOf l y < tkOf l x
   . simp [h1, h2]
   . simp [h1, h2]
theorem cmp_less (l : List Wtr) : Less (ltOf fun x y => cmpI (tkOf l x) (tkOf l y)) := by
 constructor
 . intro x y h
   rw [cmp_lt, decide_eq_true_eq] at h
   rw [cmp_lt, decide_eq_false_iff_not]
   omega
 . intro x y z h1 h2
   rw [cmp_lt, decide_eq_false_iff_not] at h1 h2
   rw [cmp_lt, decide_eq_false_iff_not]
   omega
def RetPlaces (xs : List Int) (w : World) (e : Ending) (w' : World) : Prop :=
 ∃ A c ys, e = .returned (.slice A ys.length c) /\ ys.Perm xs /\ Rd w' A (ints ys) /\ Below w.heap.size w w'
theorem wOn_any (A : Option Addr) (n c : Nat) (l : List Wtr) (handle : Int) (w : World) (h : WtsAt w A n l) :
  Calls Tryz.prog 209 #[.slice A n c, .int .i64 handle] w (RetPlaces (onsS (l.map Wtr.p) handle) w) := by
 have HH := Zd h
 have hn := h.few
 have HLE : Hid ((l.map Wtr.p).length = n) := Zd (by rw [List.length_map]; exact h.len)
 have HFN : Hid (onsS (l.map Wtr.p) handle = onsK (l.map Wtr.p) handle n) := Zd (by rw [<- onsK_all, HLE.out])
 clear h
 have HB0 := Zd (((Below.refl w.heap.size w).alloc (Nat.le_refl _) (.cells #[.slice A n c] 84)).alloc (by simp) (.cells #[.int .i64 handle] 3))
 have HBL : Hid (Blk ((w.alloc (.cells #[.slice A n c] 84)).alloc (.cells #[.int .i64 handle] 3)) w.heap.size 84 [.slice A n c]) := Zd ((Blk.new w _ _).alloc _)
 have HBH : Hid (Blk ((w.alloc (.cells #[.slice A n c] 84)).alloc (.cells #[.int .i64 handle] 3)) (w.heap.size + 1) 3 [.int .i64 handle]) := Zd (blk_new (by simp))
 have HH0 := Zd (HH.out.below HB0.out)
 go_enter Tryz.func209, Tryz.ntmps209
 go_upto_region 1 with fail
 generalize (w.alloc (.cells #[.slice A n c] 84)).alloc (.cells #[.int .i64 handle] 3) = W0 at *
 have y0 := HBL.out.cell (i := 0) rfl
 go_wp2_with fail
 clear y0
 go_loopg [10, 5] n (fun gg i s wr => ∃ (k m : Nat) (A1 : Option Addr) (c1 : Nat), k <= n /\ gg = n - k /\ i = .int .i64 k /\ s = .slice A1 m c1 /\ m = (onsK (l.map Wtr.p) handle k).length /\ wr.ownsRow W0.heap.size 3 1 (.slice A1 m c1) m (ints (onsK (l.map Wtr.p) handle k)) /\ Below W0.heap.size W0 wr)
 case atStart => exact ⟨0, 0, none, 0, Nat.zero_le _, rfl, rfl, rfl, rfl, own_nil _ _ _ _, Below.refl _ _⟩
 case round =>
  obtain ⟨k, m, A1, c1, hk, hg, rfl, rfl, hm, hown, hb⟩ := hrel
  have HG := Zd hg
  have HB := Zd hb
  have HO := Zd hown
  have HM := Zd hm
  have hmk : m <= k := by rw [hm]; exact onsK_len _ _ _
  clear hg hb hown hm
  by_cases hlt : k < n
  . have q1 : (k : Int) < ((n : Nat) : Int) := by omega
    have hat := HH0.out.below HB.out
    obtain ⟨b, o, hA, hbl, c0, c1', c2, c3⟩ := hat.pat hlt
    subst hA
    have hx : l.getD k Wtr.none ∈ l := mem_getD (by rw [HH.out.len]; exact hlt)
    have HST := Zd (onsK_succ (l.map Wtr.p) handle k)
    rw [wtr_map_getD] at HST
    have HXR := Zd (hat.cs _ hx)
    have HXL := Zd (hat.csl _ hx)
    clear hat hx
    generalize l.getD k Wtr.none = x at *
    obtain ⟨xon, xtk, xsq, XA, xc, xcs⟩ := x
    simp only at c0 c1' c2 c3 HXR HXL
    have HON : Hid (onB handle (Wtr.p ⟨xon, xtk, xsq, XA, xc, xcs⟩) = (xon && xcs.any (isH handle))) := Zd rfl
    have HHAS := Zd (fun W (hW : Below wr.heap.size wr W) => HasC_any XA xc xcs 219 #[.pointer (some ⟨w.heap.size + 1, 0, none⟩)] (isH handle) W (by unfold maxLen; have := HXL.out; omega) (HXR.out.below hW) wOn1_enters
     (wOn1_asks handle (w.heap.size + 1) W xcs (Nat.lt_of_lt_of_le HBH.out.lt (Nat.le_trans HB.out.size hW.size)) (((HBH.out.below HB.out HBH.out.lt).below hW (Nat.lt_of_lt_of_le HBH.out.lt HB.out.size)).cell (i := 0) rfl)))
    generalize hxm : xcs.length = xm at *
    clear hxm
    generalize hany : xcs.any (isH handle) = any at *
    have hmm : m <= 2097152 := by omega
    cases xon
    . have HE := Zd (show onsK (l.map Wtr.p) handle (k + 1) = onsK (l.map Wtr.p) handle k by rw [HST.out, if_neg]; rw [HON.out]; simp)
      go_wp2_with fail
      go_roundg (n - (k + 1))
      case measure => rw [HG.out]; omega
      case rel => exact ⟨k + 1, m, A1, c1, by omega, rfl, by go_num, rfl, by rw [HE.out]; exact HM.out, by rw [HE.out]; exact own_below HO.out ((Below.refl _ _).alloc (Nat.le_refl _) _), HB.out.alloc HB.out.size _⟩
    . cases any
      . have HE := Zd (show onsK (l.map Wtr.p) handle (k + 1) = onsK (l.map Wtr.p) handle k by rw [HST.out, if_neg]; rw [HON.out]; simp)
        go_wp2_with (refine (HHAS.out _ ((Below.refl _ _).alloc (Nat.le_refl _) _)).mono ?_; rintro er w1 ⟨rfl, hb1⟩; have HB1 := Zd hb1; clear hb1)
        go_roundg (n - (k + 1))
        case measure => rw [HG.out]; omega
        case rel =>
         have h0 := (Below.refl wr.heap.size wr).alloc (Nat.le_refl _) (.cells #[.bool true, .int .i64 xtk, .int .i64 xsq, .slice XA xm xc] 128)
         have h2 := h0.trans (HB1.out.mono h0.size)
         exact ⟨k + 1, m, A1, c1, by omega, rfl, by go_num, rfl, by rw [HE.out]; exact HM.out, by rw [HE.out]; exact own_below HO.out h2, HB.out.trans (h2.mono HB.out.size)⟩
      . have HE := Zd (show onsK (l.map Wtr.p) handle (k + 1) = onsK (l.map Wtr.p) handle k ++ [(k : Int)] by rw [HST.out, if_pos]; rw [HON.out]; simp)
        go_wp2_with (first
         | (refine (HHAS.out _ ((Below.refl _ _).alloc (Nat.le_refl _) _)).mono ?_; rintro er w1 ⟨rfl, hb1⟩
            have h0 : Below wr.heap.size wr (wr.alloc (.cells #[.bool true, .int .i64 xtk, .int .i64 xsq, .slice XA xm xc] 128)) := (Below.refl wr.heap.size wr).alloc (Nat.le_refl _) _
            have HB1 := Zd (h0.trans (hb1.mono h0.size))
            have HO1 := Zd (own_below HO.out HB1.out)
            clear hb1 h0)
         | (at_builtin; refine append_int (.tmp 23) (.tmp 25) rfl rfl W0.heap.size A1 m c1 (onsK (l.map Wtr.p) handle k) (k : Int) _ 1 rfl (own_below HO1.out ((Below.refl _ _).alloc (Nat.le_refl _) _)) rfl (new1 _ _ _) hmm (by have := HB.out.size; have := HB1.out.size; simp; omega) ?_; intro A4 d4 w4 hown4 hb4 _; have HO4 := Zd hown4; have HB4 := Zd ((((HB.out.trans (HB1.out.mono HB.out.size)).alloc (Nat.le_trans HB.out.size HB1.out.size) (.cells #[.int .i64 (k : Int)] 3)).trans hb4)); clear hown4 hb4))
        go_roundg (n - (k + 1))
        case measure => rw [HG.out]; omega
        case rel => exact ⟨k + 1, m + 1, A4, d4, by omega, rfl, by go_num, rfl, by rw [HE.out, List.length_append, HM.out]; rfl, by rw [HE.out]; exact HO4.out, HB4.out⟩
  . obtain rfl : k = n := by omega
    have q1 : ¬ (k : Int) < (k : Int) := by omega
    have HSR : Hid (Calls Tryz.prog 220 #[.slice A1 m c1, .func (.func 221) #[] #[.pointer (some ⟨w.heap.size, 0, none⟩)]] wr fun e w' => e = .returned (.tuple #[]) /\ ∃ ys, ys.Perm (onsK (l.map Wtr.p) handle k) /\ ys.length = m /\ Rd w' A1 (ints ys) /\ Below W0.heap.size W0 w') := Zd (by
     cases A1 with
     | none =>
       obtain ⟨e1, e2, e3⟩ := own_none HO.out rfl
       subst e1 e2
       refine (sort_nil 0 _ wr).mono ?_
       rintro e w' ⟨rfl, rfl⟩
       exact ⟨rfl, _, .refl _, HM.out.symm, own_rd HO.out, HB.out⟩
     | some ad =>
       obtain ⟨g, hA1⟩ : ∃ g, ad = ⟨g, 0, none⟩ := by
        rcases HO.out.2 with ⟨hv, _⟩ | ⟨g, cap, cur, hv, _⟩
        . cases hv
        . injection hv with hA _ _
          injection hA with hA
          exact ⟨g, hA⟩
       subst hA1
       have hg := own_base HO.out
       refine (SortStable_any W0.heap.size g m c1 221 #[.pointer (some ⟨w.heap.size, 0, none⟩)] (fun x y => cmpI (tkOf l x) (tkOf l y)) (inL k) (onsK (l.map Wtr.p) handle k) wr (by omega) ⟨HO.out, HM.out.symm⟩ wOn2_enters (cmp_less l) ?_ (onsK_in _ _ _)).mono ?_
       . intro x y hx hy w' hw
         have hbw : Below W0.heap.size W0 w' := HB.out.trans (hw.below hg HB.out.size)
         exact wOn2_any l A k c w.heap.size x y hx hy w' (HH0.out.below hbw) ((HBL.out.below hbw HBL.out.lt).cell (i := 0) rfl)
       . rintro e w' ⟨rfl, ys, hrow, hmix, _, honly⟩
         exact ⟨rfl, ys, hmix.perm, hrow.2, own_rd hrow.1, HB.out.trans (honly.below hg HB.out.size)⟩)
    go_wp2_with (refine HSR.out.mono ?_; rintro er w1 ⟨rfl, ys, hp, hl, hr, hb1⟩)
    go_ret
    exact ⟨A1, c1, ys, by rw [hl]; rfl, by rw [HFN.out]; exact hp, hr, HB0.out.trans (hb1.mono HB0.out.size)⟩
theorem ons_none (l : List WtP) (handle : Int) : decide ((onsS l handle).length = 0) = !(l.any (onB handle)) := by
 by_cases h : (onsS l handle).length = 0
 . rw [decide_eq_true h]
   have h0 : l.any (onB handle) = false := by
    rw [List.any_eq_false]
    intro x hx
    obtain ⟨k, hk, rfl⟩ := List.getElem_of_mem hx
    intro hon
    have : (k : Int) ∈ onsS l handle := by
     rw [onsS_mem]
     refine ⟨by unfold inL; omega, ?_⟩
     rw [Int.toNat_natCast]
     simpa [List.getD, hk] using hon
    rw [List.eq_nil_of_length_eq_zero h] at this
    cases this
   rw [h0]; rfl
 . rw [decide_eq_false h]
   have h0 : l.any (onB handle) = true := by
    obtain ⟨t, ht⟩ := List.exists_mem_of_length_pos (Nat.pos_of_ne_zero h)
    rw [onsS_mem] at ht
    have h1 := ht.1
    unfold inL at h1
    rw [List.any_eq_true]
    exact ⟨_, mem_getD (by omega), ht.2⟩
   rw [h0]; rfl
theorem cIdle_any (x : Chn) (handle : Int) (A : Option Addr) (n c : Nat) (l : List Wtr) (w : World) (h : WtsAt w A n l) (hx : x.buf.length <= 1048576) :
  Calls Tryz.prog 195 #[chnV x, .int .i64 handle, .slice A n c] w fun e w' => e = .returned (.bool (idleS x.p handle (l.map Wtr.p))) /\ Below w.heap.size w w' := by
 obtain ⟨gen, cap, us, cl, BA, bc, bl⟩ := x
 simp only at hx
 have HV : Hid (idleS (Chn.p ⟨gen, cap, us, cl, BA, bc, bl⟩) handle (l.map Wtr.p) = (us && cl && decide (bl.length = 0) && !((l.map Wtr.p).any (onB handle)))) := Zd rfl
 have HON := Zd (fun W (hW : WtsAt W A n l) => wOn_any A n c l handle W hW)
 have HNO := Zd (ons_none (l.map Wtr.p) handle)
 generalize idleS (Chn.p ⟨gen, cap, us, cl, BA, bc, bl⟩) handle (l.map Wtr.p) = R at *
 have HB0 := Zd ((Below.refl w.heap.size w).alloc (Nat.le_refl _) (.cells #[.int .i64 gen, .int .i64 cap, .bool us, .bool cl, .slice BA bl.length bc] 124))
 have HW0 := Zd (h.below HB0.out)
 clear h
 unfold chnV
 simp only
 generalize hm : bl.length = m at *
 clear hm
 generalize (l.map Wtr.p).any (onB handle) = an at *
 cases us
 . go_enter Tryz.func195, Tryz.ntmps195
   go_wp2_with fail
   go_ret
   exact ⟨ret_bool (by rw [HV.out]; rfl), HB0.out⟩
 . cases cl
   . go_enter Tryz.func195, Tryz.ntmps195
     go_wp2_with fail
     go_ret
     exact ⟨ret_bool (by rw [HV.out]; rfl), HB0.out⟩
   . by_cases hm0 : m = 0
     . subst hm0
       go_enter Tryz.func195, Tryz.ntmps195
       go_wp2_with (refine (HON.out _ HW0.out).mono ?_; rintro er w1 ⟨A1, c1, ys, rfl, hp, _, hb1⟩; have HP := Zd hp; have HB1 := Zd hb1; clear hp hb1)
       go_ret
       refine ⟨ret_bool ?_, HB0.out.trans (HB1.out.mono HB0.out.size)⟩
       rw [HV.out, <- HNO.out, <- HP.out.length_eq]
       by_cases hy : ys.length = 0
       . simp [hy]
       . simp [hy]
     . have hd : decide (m = 0) = false := decide_eq_false hm0
       have hi : ¬ (m : Int) = 0 := by omega
       go_enter Tryz.func195, Tryz.ntmps195
       go_wp2_with fail
       go_ret
       exact ⟨ret_bool (by rw [HV.out, hd]; rfl), HB0.out⟩
theorem cShut1_enters : Enters 214 := enters_of Tryz.func214 (by kernel_rfl) (by kernel_rfl)
theorem cShut1_any (x : Cse) (handle : Int) (bh : Nat) (w : World) (hbh : bh < w.heap.size) (hh : w.cell? ⟨bh, 0, none⟩ = some (.int .i64 handle)) :
  Calls Tryz.prog 214 #[cseV x, .pointer (some ⟨bh, 0, none⟩)] w fun e w' => e = .returned (.bool (isH handle x)) /\ Below w.heap.size w w' := by
 obtain ⟨xd, xh, xv⟩ := x
 have hne2 : ¬ bh = w.heap.size := by omega
 have hh2 : ∀ o, (w.alloc o).cell? ⟨bh, 0, none⟩ = some (.int .i64 handle) := fun o => by rw [World.cell?_alloc_lt _ _ _ (by exact hbh)]; exact hh
 clear hh
 unfold isH
 go_enter Tryz.func214, Tryz.ntmps214
 go_wp2
 go_ret
 exact ⟨rfl, (Below.refl _ _).alloc (Nat.le_refl _) _⟩
theorem cShut1_asks (handle : Int) (bh : Nat) (w : World) (l : List Cse) (hbh : bh < w.heap.size) (hh : w.cell? ⟨bh, 0, none⟩ = some (.int .i64 handle)) :
  AsksV cseV w 214 #[.pointer (some ⟨bh, 0, none⟩)] (isH handle) l := by
 intro x _ w' hb'
 exact cShut1_any x handle bh w' (Nat.lt_of_lt_of_le hbh hb'.size) ((hb'.cell (p := ⟨bh, 0, none⟩) hbh).trans hh)
theorem ret_cell1t3 {fn : Func} {p q r s : Tmp} {ty : TypeId} (h : fn.results = #[.cell p ty, .tmp q, .tmp r, .tmp s]) {tmps : Array Value} {w : World} {g : Nat} {v a b d : Value}
  (ht : tmps.getD p undef = .pointer (some ⟨g, 0, none⟩)) (hl : (loadVar ty ⟨g, 0, none⟩).run Tryz.prog w = .ok v w) (hq : tmps.getD q undef = a) (hr : tmps.getD r undef = b) (hs : tmps.getD s undef = d) :
  (results fn tmps).run Tryz.prog w = .ok (.tuple #[v, a, b, d]) w := by
 have ha : ∀ g : Nat, (asAddr (.pointer (some ⟨g, 0, none⟩))).run Tryz.prog w = .ok ⟨g, 0, none⟩ w := fun g => by simp [asAddr, go_sem]
 simp only [Array.getD_eq_getD_getElem?] at ht hq hr hs
 simp [results, h, ht, hq, hr, hs, hl, ha]
def RetFour (c : ChP) (pl : List WtP) (code : Int) (tl : List TldP) (w : World) (e : Ending) (w' : World) : Prop :=
 ∃ (x : Chn) (A : Option Addr) (d : Nat) (l : List Wtr) (TA : Option Addr) (tc : Nat), e = .returned (.tuple #[chnV x, .slice A pl.length d, .int .i64 code, .slice TA tl.length tc]) /\ x.p = c /\ OwnBuf w.heap.size w' x /\
  l.map Wtr.p = pl /\ OwnWts w.heap.size w' A pl.length d l /\ w'.ownsRow w.heap.size 233 5 (.slice TA tl.length tc) tl.length (rows tl) /\ Below w.heap.size w w'
theorem OwnWts.box5 {base : Nat} {w : World} {A : Option Addr} {n c g : Nat} {l : List Wtr} {cs : List Value} {e' : TypeId} {v0 v1 v2 v3 v4 : Value} (h : OwnWts base w A n c l) (hg : Blk w g e' cs) (h1 : 128 ≠ e') (h2 : 100 ≠ e') :
  OwnWts base (((((w.setCell ⟨g, 0, none⟩ v0).setCell ⟨g, 1, none⟩ v1).setCell ⟨g, 2, none⟩ v2).setCell ⟨g, 3, none⟩ v3).setCell ⟨g, 4, none⟩ v4) A n c l :=
 (((((h.box hg h1 h2 0 v0).box (hg.set_ 0 v0) h1 h2 1 v1).box ((hg.set_ 0 v0).set_ 1 v1) h1 h2 2 v2).box (((hg.set_ 0 v0).set_ 1 v1).set_ 2 v2) h1 h2 3 v3).box ((((hg.set_ 0 v0).set_ 1 v1).set_ 2 v2).set_ 3 v3) h1 h2 4 v4)
theorem own_put5 {w : World} {base : Nat} {e e' : TypeId} {s n g : Nat} {v : Value} {xs cs : List Value} {v0 v1 v2 v3 v4 : Value} (h : w.ownsRow base e s v n xs) (hg : Blk w g e' cs) (hne : e ≠ e') :
  (((((w.setCell ⟨g, 0, none⟩ v0).setCell ⟨g, 1, none⟩ v1).setCell ⟨g, 2, none⟩ v2).setCell ⟨g, 3, none⟩ v3).setCell ⟨g, 4, none⟩ v4).ownsRow base e s v n xs :=
 own_ty (own_ty (own_ty (own_ty (own_ty h hg hne 0 v0) (hg.set_ 0 v0) hne 1 v1) ((hg.set_ 0 v0).set_ 1 v1) hne 2 v2) (((hg.set_ 0 v0).set_ 1 v1).set_ 2 v2) hne 3 v3) ((((hg.set_ 0 v0).set_ 1 v1).set_ 2 v2).set_ 3 v3) hne 4 v4
theorem cShut_no1 (gen cap : Int) (cl : Bool) (BA : Option Addr) (bc : Nat) (bl : List Int) (handle : Int) (A : Option Addr) (n c : Nat) (l : List Wtr) (w : World) (h : WtsAt w A n l) (hx : ChAt w ⟨gen, cap, false, cl, BA, bc, bl⟩) :
  Calls Tryz.prog 200 #[chnV ⟨gen, cap, false, cl, BA, bc, bl⟩, .int .i64 handle, .slice A n c] w (RetFour (Chn.p ⟨gen, cap, false, cl, BA, bc, bl⟩) (l.map Wtr.p) 9 [] w) := by
 obtain ⟨b0, b1, b2, hb3⟩ := box3 w 124 3 124 (Chn.cells ⟨gen, cap, false, cl, BA, bc, bl⟩) [.int .i64 handle] [.int .i64 0, .int .i64 0, .bool false, .bool false, .slice none 0 0]
 have HY0 := Zd b0
 have HY1 := Zd b1
 have HY2 := Zd b2
 have HBX := Zd hb3
 have HCP := Zd (fun W (hb : Below w.heap.size w W) => cCopy_any ⟨gen, cap, false, cl, BA, bc, bl⟩ W (hx.below hb))
 have HWC := Zd (fun W (hb : Below w.heap.size w W) => wCopy_any A n c l W (h.below hb))
 have HFL := Zd h.few
 have HWH := Zd h
 have HLN : Hid ((l.map Wtr.p).length = n) := Zd (by rw [List.length_map]; exact h.len)
 clear b0 b1 b2 hb3 h hx
 unfold Chn.cells at HY0 HBX HY1 HY2
 unfold chnV at HCP ⊢
 simp only at HY0 HBX HY1 HY2 HCP ⊢
 generalize hpl : l.map Wtr.p = pl at *
 have HPL := Zd hpl
 clear hpl
 go_enter Tryz.func200, Tryz.ntmps200
 go_upto_region 1 with fail
 generalize (((w.alloc (.cells #[.int .i64 gen, .int .i64 cap, .bool false, .bool cl, .slice BA bl.length bc] 124)).alloc (.cells #[.int .i64 handle] 3)).alloc (.cells #[.int .i64 0, .int .i64 0, .bool false, .bool false, .slice none 0 0] 124)) = W0 at *
 have y0 := HY0.out.cell (i := 0) rfl
 have y1 := HY0.out.cell (i := 1) rfl
 have y2 := HY0.out.cell (i := 2) rfl
 have y3 := HY0.out.cell (i := 3) rfl
 have y4 := HY0.out.cell (i := 4) rfl
 go_upto_region 2 with (first
  | (go_at_call 170
     refine (HCP.out _ HBX.out).mono ?_
     rintro er w1 ⟨⟨gen1, cap1, us1, cl1, BA1, bc1, bl1⟩, rfl, hp1, ho1, hb1⟩
     simp only [Chn.p, ChP.mk.injEq] at hp1
     obtain ⟨rfl, rfl, rfl, rfl, rfl⟩ := hp1
     have HO1 := Zd ho1
     have HB1 := Zd hb1
     clear ho1 hb1
     unfold chnV
     simp only)
  | (go_at_call 169
     refine (HWC.out _ (HBX.out.trans (HB1.out.mono HBX.out.size))).mono ?_
     rintro er w2 ⟨A2, c2, l2, rfl, hm2, ho2, hb2⟩
     have HM2 := Zd hm2
     have HO2 := Zd ho2
     have HB2 := Zd (btr HB1.out hb2)
     have HK2 := Zd hb2
     have HZ0 := Zd (HY0.out.below HB2.out HY0.out.lt)
     clear hm2 ho2 hb2
     (clear y0 y1 y2 y3 y4)
     have y2 := HZ0.out.cell (i := 2) rfl
     have y3 := HZ0.out.cell (i := 3) rfl))
 have HT3 : Hid (Blk (w2.alloc (.cells #[.int .i64 gen1, .int .i64 cap1, .bool false, .bool cl1, .slice BA1 bl1.length bc1] 124)) w2.heap.size 124 [.int .i64 gen1, .int .i64 cap1, .bool false, .bool cl1, .slice BA1 bl1.length bc1]) := Zd (blk_new rfl)
 have HA3 : Hid (Below w2.heap.size w2 (w2.alloc (.cells #[.int .i64 gen1, .int .i64 cap1, .bool false, .bool cl1, .slice BA1 bl1.length bc1] 124))) := Zd ((Below.refl w2.heap.size w2).alloc (Nat.le_refl _) _)
 have HB3 := Zd (HB2.out.trans (HA3.out.mono HB2.out.size))
 have HOB := Zd (OwnBuf.below (OwnBuf.below HO1.out HK2.out) HA3.out)
 have HOW := Zd (HO2.out.below HA3.out)
 have HG10 := Zd HB2.out.size
 have HG1 := Zd HB1.out.size
 clear y2 y3
 generalize (w2.alloc (.cells #[.int .i64 gen1, .int .i64 cap1, .bool false, .bool cl1, .slice BA1 bl1.length bc1] 124)) = W3 at *
 generalize w2.heap.size = g10 at *
 have HZ2 := Zd (HY2.out.below HB3.out HY2.out.lt)
 have HZA := Zd (HY0.out.below HB3.out HY0.out.lt)
 have y2 := HZA.out.cell (i := 2) rfl
 have y3 := HZA.out.cell (i := 3) rfl
 have g2 := HY2.out.lt
 have ne1 : g10 ≠ w.heap.size + 1 + 1 := by have := HG10.out; omega
 have ne1' := ne1.symm
 have t0 := HT3.out.cell (i := 0) rfl
 have t1 := HT3.out.cell (i := 1) rfl
 have t2 := HT3.out.cell (i := 2) rfl
 have t3 := HT3.out.cell (i := 3) rfl
 have t4 := HT3.out.cell (i := 4) rfl
 have z0 := HZ2.out.cell (i := 0) rfl
 have z0f := HZ2.out.frozen 0
 have z1 := HZ2.out.cell (i := 1) rfl
 have z1f := HZ2.out.frozen 1
 have z2 := HZ2.out.cell (i := 2) rfl
 have z2f := HZ2.out.frozen 2
 have z3 := HZ2.out.cell (i := 3) rfl
 have z3f := HZ2.out.frozen 3
 have z4 := HZ2.out.cell (i := 4) rfl
 have z4f := HZ2.out.frozen 4
 go_wp2_with fail
 refine bodyPost_ret (v := .tuple #[chnV ⟨gen1, cap1, false, cl1, BA1, bc1, bl1⟩, .slice A2 pl.length c2, .int .i64 9, .slice none 0 0]) (ret_cell1t3 (g := w.heap.size + 1 + 1) rfl rfl (chn_load (x := ⟨gen1, cap1, false, cl1, BA1, bc1, bl1⟩) (chn_put HZ2.out) rfl) rfl rfl rfl) rfl ?_
 exact ⟨⟨gen1, cap1, false, cl1, BA1, bc1, bl1⟩, A2, c2, l2, none, 0, rfl, rfl, own_put5 (own_lower HOB.out HBX.out.size) HZ2.out (by decide), HM2.out, (HOW.out.lower (Nat.le_trans HBX.out.size HG1.out)).box5 HZ2.out (by decide) (by decide), own_nil _ _ _ _, below5 (HBX.out.trans (HB3.out.mono HBX.out.size)) (by omega)⟩
theorem cShut_no2 (gen cap : Int) (BA : Option Addr) (bc : Nat) (bl : List Int) (handle : Int) (A : Option Addr) (n c : Nat) (l : List Wtr) (w : World) (h : WtsAt w A n l) (hx : ChAt w ⟨gen, cap, true, true, BA, bc, bl⟩) :
  Calls Tryz.prog 200 #[chnV ⟨gen, cap, true, true, BA, bc, bl⟩, .int .i64 handle, .slice A n c] w (RetFour (Chn.p ⟨gen, cap, true, true, BA, bc, bl⟩) (l.map Wtr.p) 9 [] w) := by
 obtain ⟨b0, b1, b2, hb3⟩ := box3 w 124 3 124 (Chn.cells ⟨gen, cap, true, true, BA, bc, bl⟩) [.int .i64 handle] [.int .i64 0, .int .i64 0, .bool false, .bool false, .slice none 0 0]
 have HY0 := Zd b0
 have HY1 := Zd b1
 have HY2 := Zd b2
 have HBX := Zd hb3
 have HCP := Zd (fun W (hb : Below w.heap.size w W) => cCopy_any ⟨gen, cap, true, true, BA, bc, bl⟩ W (hx.below hb))
 have HWC := Zd (fun W (hb : Below w.heap.size w W) => wCopy_any A n c l W (h.below hb))
 have HFL := Zd h.few
 have HWH := Zd h
 have HLN : Hid ((l.map Wtr.p).length = n) := Zd (by rw [List.length_map]; exact h.len)
 clear b0 b1 b2 hb3 h hx
 unfold Chn.cells at HY0 HBX HY1 HY2
 unfold chnV at HCP ⊢
 simp only at HY0 HBX HY1 HY2 HCP ⊢
 generalize hpl : l.map Wtr.p = pl at *
 have HPL := Zd hpl
 clear hpl
 go_enter Tryz.func200, Tryz.ntmps200
 go_upto_region 1 with fail
 generalize (((w.alloc (.cells #[.int .i64 gen, .int .i64 cap, .bool true, .bool true, .slice BA bl.length bc] 124)).alloc (.cells #[.int .i64 handle] 3)).alloc (.cells #[.int .i64 0, .int .i64 0, .bool false, .bool false, .slice none 0 0] 124)) = W0 at *
 have y0 := HY0.out.cell (i := 0) rfl
 have y1 := HY0.out.cell (i := 1) rfl
 have y2 := HY0.out.cell (i := 2) rfl
 have y3 := HY0.out.cell (i := 3) rfl
 have y4 := HY0.out.cell (i := 4) rfl
 go_upto_region 2 with (first
  | (go_at_call 170
     refine (HCP.out _ HBX.out).mono ?_
     rintro er w1 ⟨⟨gen1, cap1, us1, cl1, BA1, bc1, bl1⟩, rfl, hp1, ho1, hb1⟩
     simp only [Chn.p, ChP.mk.injEq] at hp1
     obtain ⟨rfl, rfl, rfl, rfl, rfl⟩ := hp1
     have HO1 := Zd ho1
     have HB1 := Zd hb1
     clear ho1 hb1
     unfold chnV
     simp only)
  | (go_at_call 169
     refine (HWC.out _ (HBX.out.trans (HB1.out.mono HBX.out.size))).mono ?_
     rintro er w2 ⟨A2, c2, l2, rfl, hm2, ho2, hb2⟩
     have HM2 := Zd hm2
     have HO2 := Zd ho2
     have HB2 := Zd (btr HB1.out hb2)
     have HK2 := Zd hb2
     have HZ0 := Zd (HY0.out.below HB2.out HY0.out.lt)
     clear hm2 ho2 hb2
     (clear y0 y1 y2 y3 y4)
     have y2 := HZ0.out.cell (i := 2) rfl
     have y3 := HZ0.out.cell (i := 3) rfl))
 have HT3 : Hid (Blk (w2.alloc (.cells #[.int .i64 gen1, .int .i64 cap1, .bool true, .bool true, .slice BA1 bl1.length bc1] 124)) w2.heap.size 124 [.int .i64 gen1, .int .i64 cap1, .bool true, .bool true, .slice BA1 bl1.length bc1]) := Zd (blk_new rfl)
 have HA3 : Hid (Below w2.heap.size w2 (w2.alloc (.cells #[.int .i64 gen1, .int .i64 cap1, .bool true, .bool true, .slice BA1 bl1.length bc1] 124))) := Zd ((Below.refl w2.heap.size w2).alloc (Nat.le_refl _) _)
 have HB3 := Zd (HB2.out.trans (HA3.out.mono HB2.out.size))
 have HOB := Zd (OwnBuf.below (OwnBuf.below HO1.out HK2.out) HA3.out)
 have HOW := Zd (HO2.out.below HA3.out)
 have HG10 := Zd HB2.out.size
 have HG1 := Zd HB1.out.size
 clear y2 y3
 generalize (w2.alloc (.cells #[.int .i64 gen1, .int .i64 cap1, .bool true, .bool true, .slice BA1 bl1.length bc1] 124)) = W3 at *
 generalize w2.heap.size = g10 at *
 have HZ2 := Zd (HY2.out.below HB3.out HY2.out.lt)
 have HZA := Zd (HY0.out.below HB3.out HY0.out.lt)
 have y2 := HZA.out.cell (i := 2) rfl
 have y3 := HZA.out.cell (i := 3) rfl
 have g2 := HY2.out.lt
 have ne1 : g10 ≠ w.heap.size + 1 + 1 := by have := HG10.out; omega
 have ne1' := ne1.symm
 have t0 := HT3.out.cell (i := 0) rfl
 have t1 := HT3.out.cell (i := 1) rfl
 have t2 := HT3.out.cell (i := 2) rfl
 have t3 := HT3.out.cell (i := 3) rfl
 have t4 := HT3.out.cell (i := 4) rfl
 have z0 := HZ2.out.cell (i := 0) rfl
 have z0f := HZ2.out.frozen 0
 have z1 := HZ2.out.cell (i := 1) rfl
 have z1f := HZ2.out.frozen 1
 have z2 := HZ2.out.cell (i := 2) rfl
 have z2f := HZ2.out.frozen 2
 have z3 := HZ2.out.cell (i := 3) rfl
 have z3f := HZ2.out.frozen 3
 have z4 := HZ2.out.cell (i := 4) rfl
 have z4f := HZ2.out.frozen 4
 go_wp2_with fail
 refine bodyPost_ret (v := .tuple #[chnV ⟨gen1, cap1, true, true, BA1, bc1, bl1⟩, .slice A2 pl.length c2, .int .i64 9, .slice none 0 0]) (ret_cell1t3 (g := w.heap.size + 1 + 1) rfl rfl (chn_load (x := ⟨gen1, cap1, true, true, BA1, bc1, bl1⟩) (chn_put HZ2.out) rfl) rfl rfl rfl) rfl ?_
 exact ⟨⟨gen1, cap1, true, true, BA1, bc1, bl1⟩, A2, c2, l2, none, 0, rfl, rfl, own_put5 (own_lower HOB.out HBX.out.size) HZ2.out (by decide), HM2.out, (HOW.out.lower (Nat.le_trans HBX.out.size HG1.out)).box5 HZ2.out (by decide) (by decide), own_nil _ _ _ _, below5 (HBX.out.trans (HB3.out.mono HBX.out.size)) (by omega)⟩
theorem cutsS_few {N : Nat} : ∀ (ts : List Int) (l : List WtP), (∀ x ∈ l, x.cs.length <= N) -> ∀ x ∈ cutsS l ts, x.cs.length <= N
 | [], _, h => h
 | t :: r, l, h => cutsS_few r _ (fun x hx => by
   unfold cutS at hx
   split at hx
   . rcases List.mem_or_eq_of_mem_set hx with h1 | h1
     . exact h x h1
     . rw [h1]; exact Nat.zero_le _
   . exact h x hx)
theorem told_info : (Tryz.prog.info? 233).map (fun i => (i.zero, i.size, i.bytes)) = some (some (tldV ((0 : Int), Resr.none)), 5, 40) := by kernel_rfl
theorem OwnWts.grown_ty {w w' : World} {base base2 : Nat} {A : Option Addr} {n c : Nat} {l : List Wtr} {e' : TypeId} {s' n2 : Nat} {v2 : Value} {ys : List Value} (h : OwnWts base w A n c l) (h2 : w.ownsRow base2 e' s' v2 n2 ys) (h3 : 128 ≠ e') (h4 : 100 ≠ e') (hg : w.grownBy w' v2.ownBlock) : OwnWts base w' A n c l :=
 ⟨own_grown_ty h.row h2 h3 hg, fun x hx => own_grown_ty (h.cs x hx) h2 h4 hg⟩
theorem cShut_yes (gen cap : Int) (BA : Option Addr) (bc : Nat) (bl : List Int) (handle : Int) (A : Option Addr) (n c : Nat) (l : List Wtr) (w : World) (h : WtsAt w A n l) (hx : ChAt w ⟨gen, cap, true, false, BA, bc, bl⟩) :
  Calls Tryz.prog 200 #[chnV ⟨gen, cap, true, false, BA, bc, bl⟩, .int .i64 handle, .slice A n c] w (fun e w' => ∃ ts : List Int, ts.Perm (onsS (l.map Wtr.p) handle) /\ RetFour ⟨gen, cap, true, true, bl⟩ ((l.map Wtr.p).map (freeW handle)) 0 (toldS (l.map Wtr.p) handle ts) w e w') := by
 have HON := Zd (fun W (hb : Below w.heap.size w W) => wOn_any A n c l handle W (h.below hb))
 obtain ⟨b0, b1, b2, hb3⟩ := box3 w 124 3 124 (Chn.cells ⟨gen, cap, true, false, BA, bc, bl⟩) [.int .i64 handle] [.int .i64 0, .int .i64 0, .bool false, .bool false, .slice none 0 0]
 have HY0 := Zd b0
 have HY1 := Zd b1
 have HY2 := Zd b2
 have HBX := Zd hb3
 have HCP := Zd (fun W (hb : Below w.heap.size w W) => cCopy_any ⟨gen, cap, true, false, BA, bc, bl⟩ W (hx.below hb))
 have HWC := Zd (fun W (hb : Below w.heap.size w W) => wCopy_any A n c l W (h.below hb))
 have HFL := Zd h.few
 have HWH := Zd h
 have HLN : Hid ((l.map Wtr.p).length = n) := Zd (by rw [List.length_map]; exact h.len)
 clear b0 b1 b2 hb3 h hx
 unfold Chn.cells at HY0 HBX HY1 HY2
 unfold chnV at HCP ⊢
 simp only at HY0 HBX HY1 HY2 HCP ⊢
 generalize hpl : l.map Wtr.p = pl at *
 have HPL := Zd hpl
 clear hpl
 go_enter Tryz.func200, Tryz.ntmps200
 go_upto_region 1 with fail
 generalize (((w.alloc (.cells #[.int .i64 gen, .int .i64 cap, .bool true, .bool false, .slice BA bl.length bc] 124)).alloc (.cells #[.int .i64 handle] 3)).alloc (.cells #[.int .i64 0, .int .i64 0, .bool false, .bool false, .slice none 0 0] 124)) = W0 at *
 have y0 := HY0.out.cell (i := 0) rfl
 have y1 := HY0.out.cell (i := 1) rfl
 have y2 := HY0.out.cell (i := 2) rfl
 have y3 := HY0.out.cell (i := 3) rfl
 have y4 := HY0.out.cell (i := 4) rfl
 go_upto_region 2 with (first
  | (go_at_call 170
     refine (HCP.out _ HBX.out).mono ?_
     rintro er w1 ⟨⟨gen1, cap1, us1, cl1, BA1, bc1, bl1⟩, rfl, hp1, ho1, hb1⟩
     simp only [Chn.p, ChP.mk.injEq] at hp1
     obtain ⟨rfl, rfl, rfl, rfl, rfl⟩ := hp1
     have HO1 := Zd ho1
     have HB1 := Zd hb1
     clear ho1 hb1
     unfold chnV
     simp only)
  | (go_at_call 169
     refine (HWC.out _ (HBX.out.trans (HB1.out.mono HBX.out.size))).mono ?_
     rintro er w2 ⟨A2, c2, l2, rfl, hm2, ho2, hb2⟩
     have HM2 := Zd hm2
     have HO2 := Zd ho2
     have HB2 := Zd (btr HB1.out hb2)
     have HK2 := Zd hb2
     have HZ0 := Zd (HY0.out.below HB2.out HY0.out.lt)
     clear hm2 ho2 hb2
     (clear y0 y1 y2 y3 y4)
     have y2 := HZ0.out.cell (i := 2) rfl
     have y3 := HZ0.out.cell (i := 3) rfl))
 have HT3 : Hid (Blk (w2.alloc (.cells #[.int .i64 gen1, .int .i64 cap1, .bool true, .bool false, .slice BA1 bl1.length bc1] 124)) w2.heap.size 124 [.int .i64 gen1, .int .i64 cap1, .bool true, .bool false, .slice BA1 bl1.length bc1]) := Zd (blk_new rfl)
 have HA3 : Hid (Below w2.heap.size w2 (w2.alloc (.cells #[.int .i64 gen1, .int .i64 cap1, .bool true, .bool false, .slice BA1 bl1.length bc1] 124))) := Zd ((Below.refl w2.heap.size w2).alloc (Nat.le_refl _) _)
 have HB3 := Zd (HB2.out.trans (HA3.out.mono HB2.out.size))
 have HOB := Zd (OwnBuf.below (OwnBuf.below HO1.out HK2.out) HA3.out)
 have HOW := Zd (HO2.out.below HA3.out)
 have HG10 := Zd HB2.out.size
 have HG1 := Zd HB1.out.size
 clear y2 y3
 generalize (w2.alloc (.cells #[.int .i64 gen1, .int .i64 cap1, .bool true, .bool false, .slice BA1 bl1.length bc1] 124)) = W3 at *
 generalize w2.heap.size = g10 at *
 have HZ2 := Zd (HY2.out.below HB3.out HY2.out.lt)
 have HZA := Zd (HY0.out.below HB3.out HY0.out.lt)
 have y2 := HZA.out.cell (i := 2) rfl
 have y3 := HZA.out.cell (i := 3) rfl
 have g2 := HY2.out.lt
 have ne1 : g10 ≠ w.heap.size + 1 + 1 := by have := HG10.out; omega
 have ne1' := ne1.symm
 have t3 := HT3.out.cell (i := 3) rfl
 have t3f := HT3.out.frozen 3
 go_upto_region 6 with fail
 have HT4 := Zd (HT3.out.set_ 3 (.bool true))
 have HOB4 := Zd (own_ty HOB.out HT3.out (by decide) 3 (.bool true))
 have HOW4 := Zd (HOW.out.box HT3.out (by decide) (by decide) 3 (.bool true))
 have HB4 := Zd (HB3.out.setCell (p := ⟨g10, 3, none⟩) HG10.out (.bool true))
 clear t3 t3f y2 y3
 generalize W3.setCell ⟨g10, 3, none⟩ (.bool true) = W4 at *
 have HZ1 := Zd (HY1.out.below HB4.out HY1.out.lt)
 have z0 := HZ1.out.cell (i := 0) rfl
 go_wp2_with (go_at_call 209
              refine (HON.out _ (HBX.out.trans (HB4.out.mono HBX.out.size))).mono ?_
              rintro er w5 ⟨A5, c5, ts, rfl, hperm, hr5, hb5⟩
              have HTS := Zd hr5
              have HPE := Zd hperm
              have HK5 := Zd hb5
              clear hr5 hperm hb5)
 have HB5 := Zd (HB4.out.trans (HK5.out.mono HB4.out.size))
 have HT5 := Zd (HT4.out.below HK5.out HT4.out.lt)
 have HOB5 := Zd (own_below HOB4.out HK5.out)
 have HOW5 := Zd ((HOW4.out.lower HG1.out).below HK5.out)
 have HH5 := Zd (HY1.out.below HB5.out HY1.out.lt)
 have HBW := Zd (HBX.out.trans (HB5.out.mono HBX.out.size))
 clear z0 HT3 HA3 HB3 HOB HOW HZ2 HZA HT4 HOB4 HOW4 HB4 HZ1 HK5 HON
 generalize htl : ts.length = m at *
 have HTL := Zd htl
 clear htl
 have HPN : Hid (pl.length = n) := Zd HLN.out
 have HMN : Hid (m <= 1048576) := Zd (by
  have h1 := HPE.out.length_eq
  have h2 : (onsS pl handle).length <= pl.length := by unfold onsS; rw [List.length_map]; exact Nat.le_trans (List.length_filter_le _ _) (by simp)
  have := HFL.out; have := HTL.out; have := HPN.out; omega)
 have hm20 := HMN.out
 go_loopg [11, 12, 34] m (fun gg rest told i wr => ∃ (k : Nat) (RA : Option Addr) (rc : Nat) (rl : List Wtr) (TA : Option Addr) (tc : Nat), k <= m /\ gg = m - k /\ i = .int .i64 k /\ rest = .slice RA pl.length rc /\ told = .slice TA k tc /\ rl.map Wtr.p = cutsS pl (ts.take k) /\
   OwnWts W0.heap.size wr RA pl.length rc rl /\ wr.ownsRow w5.heap.size 233 5 (.slice TA k tc) k (rows (toldS pl handle (ts.take k))) /\ Below w5.heap.size w5 wr)
 case atStart => exact ⟨0, A2, c2, l2, none, 0, Nat.zero_le _, rfl, rfl, rfl, rfl, HM2.out, HOW5.out, own_nil _ _ _ _, Below.refl _ _⟩
 case round =>
  obtain ⟨k, RA, rc, rl, TA, tc, hk, hg, rfl, rfl, rfl, hrm, hrw, htd, hbr⟩ := hrel
  have HG := Zd hg
  have HRM := Zd hrm
  have HRW := Zd hrw
  have HTD := Zd htd
  have HBR := Zd hbr
  clear hg hrm hrw htd hbr
  by_cases hlt : k < m
  . obtain ⟨bT, oT, rfl, hbT, hcT⟩ := HTS.out.at_ (by rw [ints_length, HTL.out]; omega)
    have hx0 := hcT k _ (ints_at (l := ts) (k := k) (by rw [HTL.out]; exact hlt))
    have hmem : ts.getD k 0 ∈ onsS pl handle := HPE.out.mem_iff.1 (mem_getD (by rw [HTL.out]; exact hlt))
    obtain ⟨hin, hon⟩ := (onsS_mem pl handle _).1 hmem
    obtain ⟨u, hu⟩ : ∃ u : Nat, ts.getD k 0 = u := ⟨(ts.getD k 0).toNat, by unfold inL at hin; omega⟩
    rw [hu] at hin hon hx0
    have hun : u < n := by have := HPN.out; unfold inL at hin; omega
    have hbw : Below w.heap.size w wr := HBW.out.trans (HBR.out.mono HBW.out.size)
    have hWr := HWH.out.below hbw
    obtain ⟨b, o, hA, hbl, c0, c1, c2', c3⟩ := hWr.pat hun
    have hcl := hWr.cs (l.getD u Wtr.none) (mem_getD (by have := hWr.len; omega))
    have hcn := hWr.csl (l.getD u Wtr.none) (mem_getD (by have := hWr.len; omega))
    have HTK : Hid (ts.take (k + 1) = ts.take k ++ [(u : Int)]) := Zd (by
     have hkt : k < ts.length := by rw [HTL.out]; exact hlt
     rw [List.take_succ_eq_append_getElem hkt]
     have e : ts.getD k 0 = ts[k] := by simp [List.getD, hkt]
     rw [<- e, hu])
    have HLATE : Hid (endedS (l.map Wtr.p) u (firstV (isH handle) (l.getD u Wtr.none).cs 0) 9 0 = ((u : Int), lateS pl handle u)) := Zd (by
     rw [HPL.out]
     unfold lateS
     rw [Int.toNat_natCast, <- HPL.out, wtr_map_getD]
     rfl)
    have HEN := Zd (fun W (hb : Below wr.heap.size wr W) => cEnded_any A n c l u (firstV (isH handle) (l.getD u Wtr.none).cs 0) 9 0 W (hWr.below hb) hun)
    have HIX := Zd (IndexC_any (l.getD u Wtr.none).A (l.getD u Wtr.none).c (l.getD u Wtr.none).cs 214 #[.pointer (some ⟨w.heap.size + 1, 0, none⟩)] (isH handle) wr (by unfold maxLen; omega) hcl cShut1_enters
     (cShut1_asks handle _ wr _ (HH5.out.below HBR.out HH5.out.lt).lt ((HH5.out.below HBR.out HH5.out.lt).cell (i := 0) rfl)))
    have HTB := Zd hbT
    have xr : wr.cell? ⟨bT, oT + k, none⟩ = some (.int .i64 u) := by rw [HBR.out.cell (p := ⟨bT, oT + k, none⟩) hbT]; exact hx0
    have q0 : (0 : Int) <= (k : Int) := by omega
    have q1 : (k : Int) < (m : Int) := by omega
    have q2 : (0 : Int) <= (u : Int) := by omega
    have q3 : (u : Int) < (n : Int) := by omega
    rw [HLATE.out] at HEN
    have HWR := Zd hWr
    clear hx0 hmem hin hon hu hcT hbw hWr hcl hcn c0 c1 c2' HLATE
    generalize (l.getD u Wtr.none).cs = cs at *
    generalize (l.getD u Wtr.none).A = CA at *
    generalize (l.getD u Wtr.none).c = cc at *
    generalize hlate : lateS pl handle u = late at *
    have HLT := Zd hlate
    clear hlate
    generalize firstV (isH handle) cs 0 = wch at *
    subst hA
    go_upto_region 10 with (go_at_call 213
                            refine HIX.out.mono ?_
                            rintro er w6 ⟨rfl, hb6⟩
                            have HK6 := Zd hb6
                            clear hb6 xr c3)
    have HTN : Hid (toldS pl handle (ts.take (k + 1)) = toldS pl handle (ts.take k) ++ [((u : Int), late)]) := Zd (by
     rw [HTK.out]
     unfold toldS
     rw [List.map_append, <- HLT.out]
     rfl)
    have HCN : Hid (cutsS pl (ts.take (k + 1)) = (cutS (cutsS pl (ts.take k)) (u : Int)).1) := Zd (by rw [HTK.out, cutsS_snoc])
    have HTKL : Hid ((toldS pl handle (ts.take k)).length = k) := Zd (by unfold toldS; rw [List.length_map, List.length_take, HTL.out]; omega)
    have HCM : Hid (∀ x ∈ rl, x.cs.length <= 1048576) := Zd (map_mem_len HRM.out (cutsS_few _ _ (fun x hx => by
     rw [<- HPL.out] at hx
     obtain ⟨y, hy, rfl⟩ := List.mem_map.1 hx
     exact HWH.out.csl y hy)))
    have HPN20 := Zd (show pl.length <= 1048576 by have := HPN.out; have := HFL.out; omega)
    have hcl : (cutS (rl.map Wtr.p) (u : Int)).1.length = pl.length := by rw [cutS_len, HRM.out, cutsS_len]
    have HCU := Zd (fun W (h : WtsAt W RA pl.length rl) => wCut_any RA pl.length rc rl (u : Int) W h)
    unfold RetWtsB at HCU
    rw [hcl] at HCU
    have HCR : Hid ((cutS (rl.map Wtr.p) (u : Int)).1 = cutsS pl (ts.take (k + 1))) := Zd (by rw [HCN.out, HRM.out])
    rw [HCR.out] at HCU
    generalize (cutS (rl.map Wtr.p) (u : Int)).2 = bb at *
    clear hcl HCN
    generalize toldS pl handle (ts.take k) = tdl at *
    go_wp2_with (first
     | (go_at_call 215
        refine (HEN.out _ HK6.out).mono ?_
        rintro er w7 ⟨rfl, hb7⟩
        have HK7 := Zd (btr HK6.out hb7)
        have HB7 := Zd (HBR.out.trans (HK7.out.mono HBR.out.size))
        have HTD7 := Zd (own_below HTD.out HK7.out)
        have HRW7 := Zd (HRW.out.below HK7.out)
        clear hb7)
     | (at_builtin
        refine wpList_app rfl (.tmp 45) (.tmp 50) 215 233 rfl w5.heap.size (tldV ((0 : Int), Resr.none)) 5 40 Tryz.underlying215 told_info rfl (by decide) TA k tc (rows tdl) rfl (HTD7.out.alloc _) (some ⟨w7.heap.size, 0, none⟩) 1 1 (rows [((u : Int), late)]) rfl (by simp) rfl (blk_new rfl).rd (rows_one _) (k + 1) rfl (rows (tdl ++ [((u : Int), late)])) (rows_append _ _).symm (by unfold maxLen; omega) (by omega) (by have := HB7.out.size; rw [World.size_alloc]; omega) ?_
        intro TA8 tc8 w8 hown8 hg8 hb8
        have HA7 := Zd ((Below.refl w7.heap.size w7).alloc (Nat.le_refl _) (.cells #[.int .i64 (u : Int), .int .i64 late.seq, .int .i64 late.case_, .int .i64 late.code, .int .i64 late.value] 233))
        have HTD8 := Zd hown8
        have HRW8 := Zd ((HRW7.out.below HA7.out).grown_ty (own_below HTD7.out HA7.out) (by decide) (by decide) hg8)
        have HB8 := Zd ((HB7.out.trans (HA7.out.mono HB7.out.size)).trans hb8)
        clear hown8 hg8 hb8)
     | (go_at_call 202
        refine (HCU.out _ (HRW8.out.at_ HPN20.out HCM.out)).mono ?_
        rintro er w9 ⟨A9, c9, l9, rfl, hm9, ho9, hb9⟩
        have HM9 := Zd hm9
        have HO9 := Zd ho9
        have HK9 := Zd hb9
        clear hm9 ho9 hb9))
    go_roundg (m - (k + 1))
    case measure => rw [HG.out]; omega
    case rel =>
     refine ⟨k + 1, A9, c9, l9, TA8, tc8, by omega, rfl, by go_num, rfl, rfl, ?_, ?_, ?_, HB8.out.trans (HK9.out.mono HB8.out.size)⟩
     . exact HM9.out
     . exact HO9.out.lower (by have := HB8.out.size; have := HB5.out.size; omega)
     . rw [HTN.out]
       exact own_below HTD8.out HK9.out
  . obtain rfl : k = m := by omega
    have HTE : Hid (ts.take k = ts) := Zd (List.take_of_length_le (by rw [HTL.out]; exact Nat.le_refl _))
    rw [HTE.out] at HRM HTD
    have HTLN : Hid ((toldS pl handle ts).length = k) := Zd (by unfold toldS; rw [List.length_map]; exact HTL.out)
    have HT := Zd (HT5.out.below HBR.out HT5.out.lt)
    have HZ := Zd (HY2.out.below (HB5.out.trans (HBR.out.mono HB5.out.size)) HY2.out.lt)
    have HOBE := Zd (own_below HOB5.out HBR.out)
    have g2' := HY2.out.lt
    have hs5 := HB5.out.size
    have t0 := HT.out.cell (i := 0) rfl
    have t1 := HT.out.cell (i := 1) rfl
    have t2 := HT.out.cell (i := 2) rfl
    have t3 := HT.out.cell (i := 3) rfl
    have t4 := HT.out.cell (i := 4) rfl
    have z0 := HZ.out.cell (i := 0) rfl
    have z0f := HZ.out.frozen 0
    have z1 := HZ.out.cell (i := 1) rfl
    have z1f := HZ.out.frozen 1
    have z2 := HZ.out.cell (i := 2) rfl
    have z2f := HZ.out.frozen 2
    have z3 := HZ.out.cell (i := 3) rfl
    have z3f := HZ.out.frozen 3
    have z4 := HZ.out.cell (i := 4) rfl
    have z4f := HZ.out.frozen 4
    go_wp2_with fail
    refine bodyPost_ret (v := .tuple #[chnV ⟨gen1, cap1, true, true, BA1, bc1, bl1⟩, .slice RA pl.length rc, .int .i64 0, .slice TA k tc]) (ret_cell1t3 (g := w.heap.size + 1 + 1) rfl rfl (chn_load (x := ⟨gen1, cap1, true, true, BA1, bc1, bl1⟩) (chn_put HZ.out) rfl) rfl rfl rfl) rfl ?_
    have hww := HBX.out.size
    refine ⟨ts, HPE.out, ⟨gen1, cap1, true, true, BA1, bc1, bl1⟩, RA, rc, rl, TA, tc, by rw [HTLN.out, List.length_map], rfl, own_put5 (own_lower HOBE.out hww) HZ.out (by decide), ?_, ?_, ?_, below5 (HBX.out.trans ((HB5.out.trans (HBR.out.mono HB5.out.size)).mono hww)) (by omega)⟩
    . rw [HRM.out, shut_waits pl handle ts HPE.out]
    . rw [List.length_map]
      exact (HRW.out.lower hww).box5 HZ.out (by decide) (by decide)
    . rw [HTLN.out]
      exact own_put5 (own_lower HTD.out (Nat.le_trans hww hs5)) HZ.out (by decide)
end Go.Proofs.YtieglgahfeecbaaGreatDoor

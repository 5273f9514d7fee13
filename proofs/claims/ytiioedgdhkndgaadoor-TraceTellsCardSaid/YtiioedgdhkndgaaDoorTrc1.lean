/- The document's accesses, done to words and taken back: which may be, and what one of them leaves. -/
import Derived.Test.YtiioedgdhkndgaaDoorRedo2
namespace Go.Proofs.YtiioedgdhkndgaaDoor
open Go.RowKit Go.Sort

set_option maxHeartbeats 2000000 in
set_option maxRecDepth 100000 in
theorem rGood_any (a : Acc) (n : Int) (w : World) :
    Calls Tryd.prog 45 #[accV a, .int .i64 n] w fun e w' => e = .returned (.bool (goodB a n)) ∧ Below w.heap.size w w' := by
  unfold accV
  cases hok : a.ok
  all_goals
    go_enter Tryd.func45, Tryd.ntmps45
    go_wp2
    all_goals
      go_ret
      refine ⟨ret_bool ?_, (Below.refl _ _).alloc (Nat.le_refl _) _⟩
      unfold goodB
      grind

def fromA (a : Acc) (back : Bool) : Int := if back then a.now else a.old
def toA (a : Acc) (back : Bool) : Int := if back then a.old else a.now
/-- The words behind an access. -/
def oneL (ws : List Int) (a : Acc) (back : Bool) : List Int := if fitsE ws a (fromA a back) = 0 then ws.set a.addr.toNat (toA a back) else ws

theorem oneL_length (ws : List Int) (a : Acc) (back : Bool) : (oneL ws a back).length = ws.length := by
  unfold oneL; split <;> simp

set_option maxHeartbeats 4000000 in
set_option maxRecDepth 100000 in
theorem one_any (base : Nat) (A : Option Addr) (c : Nat) (ws : List Int) (a : Acc) (back : Bool) (w : World) (hl : ws.length ≤ maxLen) (hO : w.ownsRow base 62 1 (.slice A ws.length c) ws.length (words ws)) (hb : base ≤ w.heap.size) :
    Calls Tryd.prog 96 #[.slice A ws.length c, accV a, .bool back] w fun e w' => e = .returned (.int .i64 (fitsE ws a (fromA a back))) ∧ w'.ownsRow base 62 1 (.slice A ws.length c) ws.length (words (oneL ws a back)) ∧ Below base w w' := by
  unfold maxLen at hl
  have HO := Lib.hid hO
  have HR := Lib.hid (own_rd hO)
  have HBS := Lib.hid hb
  clear hO hb
  have HL : RowKit.Hid (oneL ws a back = if fitsE ws a (fromA a back) = 0 then ws.set a.addr.toNat (toA a back) else ws) := Lib.hid rfl
  generalize hn : ws.length = n at *
  have HN := Lib.hid hn
  clear hn
  unfold accV
  by_cases h0 : a.addr < 0
  · have HE := Lib.hid (show fitsE ws a (fromA a back) = 5 by unfold fitsE; simp [h0])
    go_enter Tryd.func96, Tryd.ntmps96
    go_wp2
    go_ret
    rw [HL.out, HE.out]
    exact ⟨rfl, HO.out.alloc _, (Below.refl _ _).alloc HBS.out _⟩
  by_cases h1 : (n : Int) ≤ a.addr
  · have HE := Lib.hid (show fitsE ws a (fromA a back) = 5 by unfold fitsE; rw [HN.out]; simp [h1])
    go_enter Tryd.func96, Tryd.ntmps96
    go_wp2
    go_ret
    rw [HL.out, HE.out]
    exact ⟨rfl, HO.out.alloc _, (Below.refl _ _).alloc HBS.out _⟩
  · have hk : a.addr.toNat < n := by omega
    obtain ⟨g, rfl, hbg, hgl, hfz, hset⟩ := own_form HO.out (by omega)
    obtain ⟨g', o', hgo, _, hcc⟩ := HR.out.at_ (by rw [words_length, HN.out]; omega)
    injection hgo with hgo
    injection hgo with hg1 hg2
    subst hg1 hg2
    have x1 := hcc a.addr.toNat _ (words_at (by rw [HN.out]; exact hk))
    rw [Nat.zero_add] at x1
    have HE := Lib.hid (show ∀ x, fitsE ws a x = if !goodB a n || ws.getD a.addr.toNat 0 != x then 3 else 0 from fun x => by unfold fitsE; rw [HN.out]; simp [h0, h1])
    clear hcc
    generalize ws.getD a.addr.toNat 0 = y at *
    have x2 := fun o2 => World.cell?_alloc_lt w o2 ⟨g, a.addr.toNat, none⟩ hgl
    have h0' : 0 ≤ a.addr := by omega
    have h1' : a.addr < (n : Int) := by omega
    have HG := Lib.hid (rGood_any a n)
    have HFZ := Lib.hid (hfz a.addr.toNat)
    clear hfz hset
    cases hg : goodB a n
    · rw [hg] at HG
      have HGG := Lib.hid (show ∀ x, fitsE ws a x = 3 from fun x => by rw [HE.out, hg]; simp)
      clear hg
      cases back
      all_goals
        go_enter Tryd.func96, Tryd.ntmps96
        go_wp2_with fail
        go_quiet (fail)
        go_wp2_with fail
        try (go_quiet (fail); go_wp2_with fail)
        refine (HG.out _).mono ?_
        rintro e w1 ⟨rfl, hb1⟩
        have hb2 : Below w.heap.size w w1 := (by first | exact (Below.drewN' ((Below.refl w.heap.size w).alloc (Nat.le_refl _) (.cells #[.int .i64 a.thread, .int .i64 a.kind, .int .i64 a.addr, .int .u64 a.want, .int .u64 a.old, .int .u64 a.now, .bool a.ok] 74)) _).trans (hb1.mono (by simp)) | exact (Below.drewN' (Below.drewN' ((Below.refl w.heap.size w).alloc (Nat.le_refl _) (.cells #[.int .i64 a.thread, .int .i64 a.kind, .int .i64 a.addr, .int .u64 a.want, .int .u64 a.old, .int .u64 a.now, .bool a.ok] 74)) _) _).trans (hb1.mono (by simp)))
        go_wp2
        go_ret
        rw [HL.out, HGG.out]
        exact ⟨rfl, own_below HO.out hb2, hb2.mono HBS.out⟩
    · rw [hg] at HG
      have HGG := Lib.hid (show ∀ x, fitsE ws a x = if y != x then 3 else 0 from fun x => by rw [HE.out, hg]; simp)
      clear hg
      cases back
      · rw [show fromA a false = a.old from rfl, show toA a false = a.now from rfl] at HL
        rw [show fromA a false = a.old from rfl]
        have HGE := Lib.hid (HGG.out a.old)
        cases hyx : y != a.old
        all_goals
          rw [hyx] at HGE
          go_enter Tryd.func96, Tryd.ntmps96
          go_wp2_with fail
          go_quiet (fail)
          go_wp2_with fail
          try (go_quiet (fail); go_wp2_with fail)
          refine (HG.out _).mono ?_
          rintro e w1 ⟨rfl, hb1⟩
          have hb2 : Below w.heap.size w w1 := (by first | exact (Below.drewN' ((Below.refl w.heap.size w).alloc (Nat.le_refl _) (.cells #[.int .i64 a.thread, .int .i64 a.kind, .int .i64 a.addr, .int .u64 a.want, .int .u64 a.old, .int .u64 a.now, .bool a.ok] 74)) _).trans (hb1.mono (by simp)) | exact (Below.drewN' (Below.drewN' ((Below.refl w.heap.size w).alloc (Nat.le_refl _) (.cells #[.int .i64 a.thread, .int .i64 a.kind, .int .i64 a.addr, .int .u64 a.want, .int .u64 a.old, .int .u64 a.now, .bool a.ok] 74)) _) _).trans (hb1.mono (by simp)))
          have y1 := (hb2.cell (p := ⟨g, a.addr.toNat, none⟩) hgl).trans x1
          have y3 := (hb2.frozen (p := ⟨g, a.addr.toNat, none⟩) hgl).trans HFZ.out
          have y2 := hb1.cell (p := ⟨w.heap.size, 2, none⟩) (by simp)
          simp at y2
          have HB2 := Lib.hid hb2
          clear hb1 hb2 x1 x2
          go_wp2
          go_ret
          rw [HL.out, HGE.out]
          first
            | exact ⟨rfl, own_below HO.out HB2.out, HB2.out.mono HBS.out⟩
            | (refine ⟨rfl, ?_, (HB2.out.mono HBS.out).setCell hbg _⟩
               obtain ⟨g2, hg2, _, _, _, hs2⟩ := own_form (own_below HO.out HB2.out) (by omega)
               injection hg2 with hg2
               injection hg2 with hg2
               subst hg2
               have h3 := hs2 a.addr.toNat (.int .u64 a.now) (by omega)
               rwa [words_set] at h3)
      · rw [show fromA a true = a.now from rfl, show toA a true = a.old from rfl] at HL
        rw [show fromA a true = a.now from rfl]
        have HGE := Lib.hid (HGG.out a.now)
        cases hyx : y != a.now
        all_goals
          rw [hyx] at HGE
          go_enter Tryd.func96, Tryd.ntmps96
          go_wp2_with fail
          go_quiet (fail)
          go_wp2_with fail
          try (go_quiet (fail); go_wp2_with fail)
          refine (HG.out _).mono ?_
          rintro e w1 ⟨rfl, hb1⟩
          have hb2 : Below w.heap.size w w1 := (by first | exact (Below.drewN' ((Below.refl w.heap.size w).alloc (Nat.le_refl _) (.cells #[.int .i64 a.thread, .int .i64 a.kind, .int .i64 a.addr, .int .u64 a.want, .int .u64 a.old, .int .u64 a.now, .bool a.ok] 74)) _).trans (hb1.mono (by simp)) | exact (Below.drewN' (Below.drewN' ((Below.refl w.heap.size w).alloc (Nat.le_refl _) (.cells #[.int .i64 a.thread, .int .i64 a.kind, .int .i64 a.addr, .int .u64 a.want, .int .u64 a.old, .int .u64 a.now, .bool a.ok] 74)) _) _).trans (hb1.mono (by simp)))
          have y1 := (hb2.cell (p := ⟨g, a.addr.toNat, none⟩) hgl).trans x1
          have y3 := (hb2.frozen (p := ⟨g, a.addr.toNat, none⟩) hgl).trans HFZ.out
          have y2 := hb1.cell (p := ⟨w.heap.size, 2, none⟩) (by simp)
          simp at y2
          have HB2 := Lib.hid hb2
          clear hb1 hb2 x1 x2
          go_wp2
          go_ret
          rw [HL.out, HGE.out]
          first
            | exact ⟨rfl, own_below HO.out HB2.out, HB2.out.mono HBS.out⟩
            | (refine ⟨rfl, ?_, (HB2.out.mono HBS.out).setCell hbg _⟩
               obtain ⟨g2, hg2, _, _, _, hs2⟩ := own_form (own_below HO.out HB2.out) (by omega)
               injection hg2 with hg2
               injection hg2 with hg2
               subst hg2
               have h3 := hs2 a.addr.toNat (.int .u64 a.old) (by omega)
               rwa [words_set] at h3)

end Go.Proofs.YtiioedgdhkndgaaDoor

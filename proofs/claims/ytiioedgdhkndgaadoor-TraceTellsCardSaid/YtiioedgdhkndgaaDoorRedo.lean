/- Accesses done to words: which may be, and what they leave. -/
import Derived.Test.YtiioedgdhkndgaaDoorEq
import Derived.Test.YtiioedgdhkndgaaDoorRow
namespace Go.Proofs.YtiioedgdhkndgaaDoor
open Go.RowKit Go.Sort

def goodB (a : Acc) (size : Int) : Bool :=
  if a.addr < 0 || size ≤ a.addr || a.thread < 0 || 64 ≤ a.thread then false
  else if a.kind == 1 then a.now == a.old && a.ok && a.want == 0
  else if a.kind == 2 || a.kind == 4 then a.ok && a.want == 0
  else if a.kind == 3 then (a.ok == (a.old == a.want)) && (a.ok || a.now == a.old)
  else false

set_option maxHeartbeats 2000000 in
set_option maxRecDepth 100000 in
theorem Good_any (a : Acc) (n : Int) (w : World) :
    Calls Tryd.prog 44 #[accV a, .int .i64 n] w fun e w' => e = .returned (.bool (goodB a n)) ∧ Below w.heap.size w w' := by
  unfold accV
  cases hok : a.ok
  all_goals
    go_enter Tryd.func44, Tryd.ntmps44
    go_wp2
    all_goals
      go_ret
      refine ⟨ret_bool ?_, (Below.refl _ _).alloc (Nat.le_refl _) _⟩
      unfold goodB
      grind

/-- EADDR (5), EFORM (3) or none (0). -/
def fitsE (ws : List Int) (a : Acc) (x : Int) : Int :=
  if a.addr < 0 || (ws.length : Int) ≤ a.addr then 5
  else if !goodB a ws.length || ws.getD a.addr.toNat 0 != x then 3
  else 0

set_option maxHeartbeats 2000000 in
set_option maxRecDepth 100000 in
theorem fits_any (A : Option Addr) (c : Nat) (ws : List Int) (a : Acc) (x : Int) (w : World) (hl : ws.length ≤ maxLen) (hR : Rd w A (words ws)) :
    Calls Tryd.prog 95 #[.slice A ws.length c, accV a, .int .u64 x] w fun e w' => e = .returned (.int .i64 (fitsE ws a x)) ∧ Below w.heap.size w w' := by
  unfold maxLen at hl
  have HR := Lib.hid hR
  clear hR
  generalize hn : ws.length = n at hl ⊢
  have HN := Lib.hid hn
  clear hn
  unfold accV
  by_cases h0 : a.addr < 0
  · go_enter Tryd.func95, Tryd.ntmps95
    go_wp2
    go_ret
    refine ⟨ret_int ?_, (Below.refl _ _).alloc (Nat.le_refl _) _⟩
    unfold fitsE; simp [h0]
  by_cases h1 : (n : Int) ≤ a.addr
  · go_enter Tryd.func95, Tryd.ntmps95
    go_wp2
    go_ret
    refine ⟨ret_int ?_, (Below.refl _ _).alloc (Nat.le_refl _) _⟩
    unfold fitsE; rw [HN.out]; simp [h1]
  · have hk : a.addr.toNat < n := by omega
    obtain ⟨b, o, rfl, hbl, hc⟩ := HR.out.at_ (by rw [words_length, HN.out]; omega)
    have x1 : w.cell? ⟨b, o + a.addr.toNat, none⟩ = some (.int .u64 (ws.getD a.addr.toNat 0)) := hc _ _ (words_at (by rw [HN.out]; exact hk))
    have HE := Lib.hid (show fitsE ws a x = if !goodB a n || ws.getD a.addr.toNat 0 != x then 3 else 0 by unfold fitsE; rw [HN.out]; simp [h0, h1])
    clear hc
    generalize ws.getD a.addr.toNat 0 = y at *
    have x2 := fun o2 => World.cell?_alloc_lt w o2 ⟨b, o + a.addr.toNat, none⟩ hbl
    have h0' : 0 ≤ a.addr := by omega
    have h1' : a.addr < (n : Int) := by omega
    have HG := Lib.hid (Good_any a n)
    cases hg : goodB a n
    · rw [hg] at HG
      have HGG := Lib.hid hg
      clear hg
      go_enter Tryd.func95, Tryd.ntmps95
      go_wp2_with (go_at_call 44; refine (HG.out _).mono ?_; rintro e w1 ⟨rfl, hb1⟩)
      go_ret
      refine ⟨ret_int ?_, ((Below.refl _ _).alloc (Nat.le_refl _) _).trans (hb1.mono (by simp))⟩
      rw [HE.out, HGG.out]; simp
    · rw [hg] at HG
      have HGG := Lib.hid hg
      clear hg
      cases hyx : y != x
      all_goals
        go_enter Tryd.func95, Tryd.ntmps95
        go_wp2_with (go_at_call 44; refine (HG.out _).mono ?_; rintro e w1 ⟨rfl, hb1⟩; have y1 := (hb1.cell (p := ⟨b, o + a.addr.toNat, none⟩) (by simp; omega)).trans ((x2 _).trans x1); have y2 := (hb1.cell (p := ⟨w.heap.size, 2, none⟩) (by simp)); simp at y2)
        go_ret
        refine ⟨ret_int ?_, ((Below.refl _ _).alloc (Nat.le_refl _) _).trans (hb1.mono (by simp))⟩
        rw [HE.out, HGG.out, hyx]; simp

end Go.Proofs.YtiioedgdhkndgaaDoor

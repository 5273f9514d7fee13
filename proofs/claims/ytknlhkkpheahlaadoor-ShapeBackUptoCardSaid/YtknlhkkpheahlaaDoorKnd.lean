/- The kinds of things, by name: shape.kind, kinds, Plain, walked. -/
import Derived.Test.YtknlhkkpheahlaaDoorSize
import Derived.Test.YtknlhkkpheahlaaDoorCsp3
import Derived.Deep.LoopGhost
namespace Go.Proofs.YtknlhkkpheahlaaDoor
open Go.RowKit Go.Sort

def kindS (k : Int) : ByteArray := if k = 1 then ⟨#[102, 105, 102, 111]⟩ else if k = 2 then ⟨#[108, 105, 102, 111]⟩ else if k = 3 then ⟨#[104, 97, 108, 108]⟩ else ⟨#[]⟩
theorem kindS_1 : kindS 1 = ⟨#[102, 105, 102, 111]⟩ := rfl
theorem kindS_2 : kindS 2 = ⟨#[108, 105, 102, 111]⟩ := rfl
theorem kindS_3 : kindS 3 = ⟨#[104, 97, 108, 108]⟩ := rfl
theorem kindS_0 {k : Int} (h : k ≠ 1 ∧ k ≠ 2 ∧ k ≠ 3) : kindS k = ⟨#[]⟩ := by unfold kindS; rw [if_neg h.1, if_neg h.2.1, if_neg h.2.2]

set_option maxHeartbeats 1000000 in
theorem kind_any (k : Int) (w : World) : Calls Tryd.prog 63 #[.int .i64 k] w fun e w' => e = .returned (.string (kindS k)) ∧ w = w' := by
  by_cases h1 : k = 1
  · subst h1
    go_enter Tryd.func63, Tryd.ntmps63
    go_wp2
    go_ret
    exact ⟨by rw [kindS_1]; rfl, rfl⟩
  by_cases h2 : k = 2
  · subst h2
    clear h1
    go_enter Tryd.func63, Tryd.ntmps63
    go_wp2
    go_ret
    exact ⟨by rw [kindS_2]; rfl, rfl⟩
  by_cases h3 : k = 3
  · subst h3
    clear h1 h2
    go_enter Tryd.func63, Tryd.ntmps63
    go_wp2
    go_ret
    exact ⟨by rw [kindS_3]; rfl, rfl⟩
  · have HV := Lib.hid (kindS_0 ⟨h1, h2, h3⟩)
    have e1 : (k == 1) = false := by simpa using h1
    have e2 : (k == 2) = false := by simpa using h2
    have e3 : (k == 3) = false := by simpa using h3
    clear h1 h2 h3
    go_enter Tryd.func63, Tryd.ntmps63
    go_wp2
    go_ret
    exact ⟨by rw [HV.out]; rfl, rfl⟩

def kindOf (s : ByteArray) : Int := if s = ⟨#[102, 105, 102, 111]⟩ then 1 else if s = ⟨#[108, 105, 102, 111]⟩ then 2 else if s = ⟨#[104, 97, 108, 108]⟩ then 3 else 0
theorem kindOf_kindS {k : Int} (h : k = 1 ∨ k = 2 ∨ k = 3) : kindOf (kindS k) = k := by
  rcases h with rfl | rfl | rfl <;> decide

theorem bytes_eqF {a b : ByteArray} (h : ¬ a = b) : (a.toList == b.toList) = false := by
  rw [beq_eq_false_iff_ne]; intro e; exact h (ByteArray.ext (Array.toList_inj.1 (by rw [← ByteArray.toList_eq, ← ByteArray.toList_eq]; exact e)))
theorem bytes_eqT (a : ByteArray) : (a.toList == a.toList) = true := beq_self_eq_true _

set_option maxHeartbeats 4000000 in
set_option maxRecDepth 100000 in
theorem kinds_any (s : ByteArray) (w : World) : Calls Tryd.prog 60 #[.string s] w fun e w' => e = .returned (.int .i64 (kindOf s)) ∧ w = w' := by
  have HV : RowKit.Hid (kindOf s = if s = kindS 1 then 1 else if s = kindS 2 then 2 else if s = kindS 3 then 3 else 0) := Lib.hid rfl
  have HK := Lib.hid (fun k W => kind_any k W)
  generalize kindOf s = R at *
  go_enter Tryd.func60, Tryd.ntmps60
  go_wp2
  go_loopg [3] 4 (fun g x wr => ∃ k : Nat, 1 ≤ k ∧ k ≤ 4 ∧ g = 5 - k ∧ x = .int .i64 k ∧ wr = w ∧ ∀ j : Nat, 1 ≤ j → j < k → s ≠ kindS j)
  case atStart => exact ⟨1, by omega, by omega, rfl, rfl, rfl, fun j h1 h2 => by omega⟩
  case round =>
    obtain ⟨k, hk1, hk4, hg, rfl, rfl, hno⟩ := hrel
    have HG := Lib.hid hg
    have HNO := Lib.hid hno
    clear hg hno
    by_cases hk : k ≤ 3
    · have q1 : (k : Int) ≤ 3 := by omega
      by_cases hs : s = kindS k
      · have HS := Lib.hid hs
        have e1 : ((kindS (k : Int)).toList == s.toList) = true := by rw [← hs]; exact bytes_eqT s
        clear hs
        go_wp2_with (go_at_call 63; refine (HK.out _ _).mono ?_; rintro e w1 ⟨rfl, rfl⟩)
        go_ret
        refine ⟨ret_int ?_, rfl⟩
        rw [HV.out]
        rcases (show k = 1 ∨ k = 2 ∨ k = 3 by omega) with rfl | rfl | rfl
        · rw [if_pos (show s = kindS 1 from HS.out)]; rfl
        · rw [if_neg (show s ≠ kindS 1 from HNO.out 1 (by omega) (by omega)), if_pos (show s = kindS 2 from HS.out)]; rfl
        · rw [if_neg (show s ≠ kindS 1 from HNO.out 1 (by omega) (by omega)), if_neg (show s ≠ kindS 2 from HNO.out 2 (by omega) (by omega)), if_pos (show s = kindS 3 from HS.out)]; rfl
      · have HS := Lib.hid hs
        have e1 : ((kindS (k : Int)).toList == s.toList) = false := bytes_eqF (fun h => hs h.symm)
        clear hs
        go_wp2_with (go_at_call 63; refine (HK.out _ _).mono ?_; rintro e w1 ⟨rfl, rfl⟩)
        go_roundg (5 - (k + 1))
        case measure => rw [HG.out]; omega
        case rel => exact ⟨k + 1, by omega, by omega, rfl, by go_num, rfl, fun j h1 h2 => by
          by_cases hj : j = k
          · subst hj; exact HS.out
          · exact HNO.out j h1 (by omega)⟩
    · have q1 : ¬ (k : Int) ≤ 3 := by omega
      go_wp2
      go_ret
      refine ⟨ret_int ?_, rfl⟩
      rw [HV.out, if_neg (show s ≠ kindS 1 from HNO.out 1 (by omega) (by omega)), if_neg (show s ≠ kindS 2 from HNO.out 2 (by omega) (by omega)), if_neg (show s ≠ kindS 3 from HNO.out 3 (by omega) (by omega))]

/-- The shape that a line begins with. -/
def plainC (k : Int) : Cfg := if k = 1 ∨ k = 2 then ⟨k, 2, 0, 2, 6, 2, 1, 4294967295, 1048575, 0, [], none, 0⟩ else if k = 3 then ⟨3, 2, 2, 2, 6, 2, 1, 4294967295, 1048575, 4095, [], none, 0⟩ else ⟨0, 0, 0, 0, 0, 0, 0, 0, 0, 0, [], none, 0⟩

theorem cfg_load {w : World} {g : Nat} {c : Cfg} (h : Blk w g 45 (cfgCells c)) : (loadVar 45 ⟨g, 0, none⟩).run Tryd.prog w = .ok (cfgV c) w :=
  run_loadVar_row (P := Tryd.prog) w g 45 45 _ (0, 0) _ h Tryd.underlying45 rfl (by kernel_rfl)

set_option maxHeartbeats 4000000 in
set_option maxRecDepth 100000 in
theorem Plain_any (k : Int) (w : World) : Calls Tryd.prog 59 #[.int .i64 k] w fun e w' => e = .returned (cfgV (plainC k)) ∧ Below w.heap.size w w' := by
  by_cases h1 : k = 1
  · subst h1
    go_enter Tryd.func59, Tryd.ntmps59
    go_wp2
    refine bodyPost_ret (v := cfgV (plainC 1)) (ret_cell (g := w.heap.size) rfl rfl (cfg_load (c := plainC 1) ((Blk.new w 45 (cfgCells (plainC 1))).alloc _))) rfl ⟨rfl, ?_⟩
    exact ((Below.refl _ _).alloc (Nat.le_refl _) _).alloc (by simp) _
  by_cases h2 : k = 2
  · subst h2
    clear h1
    go_enter Tryd.func59, Tryd.ntmps59
    go_wp2
    refine bodyPost_ret (v := cfgV (plainC 2)) (ret_cell (g := w.heap.size) rfl rfl (cfg_load (c := plainC 2) ((Blk.new w 45 (cfgCells (plainC 2))).alloc _))) rfl ⟨rfl, ?_⟩
    exact ((Below.refl _ _).alloc (Nat.le_refl _) _).alloc (by simp) _
  by_cases h3 : k = 3
  · subst h3
    clear h1 h2
    go_enter Tryd.func59, Tryd.ntmps59
    go_wp2
    refine bodyPost_ret (v := cfgV (plainC 3)) (ret_cell (g := w.heap.size) rfl rfl (cfg_load (c := plainC 3) ((Blk.new w 45 (cfgCells (plainC 3))).alloc _))) rfl ⟨rfl, ?_⟩
    exact ((Below.refl _ _).alloc (Nat.le_refl _) _).alloc (by simp) _
  · have e1 : (k == 1) = false := by simpa using h1
    have e2 : (k == 2) = false := by simpa using h2
    have e3 : (k == 3) = false := by simpa using h3
    have HV := Lib.hid (show plainC k = ⟨0, 0, 0, 0, 0, 0, 0, 0, 0, 0, [], none, 0⟩ by unfold plainC; rw [if_neg (by omega), if_neg h3])
    clear h1 h2 h3
    go_enter Tryd.func59, Tryd.ntmps59
    go_wp2
    refine bodyPost_ret (v := cfgV ⟨0, 0, 0, 0, 0, 0, 0, 0, 0, 0, [], none, 0⟩) (ret_cell (g := w.heap.size) rfl rfl (cfg_load (c := ⟨0, 0, 0, 0, 0, 0, 0, 0, 0, 0, [], none, 0⟩) ((Blk.new w 45 (cfgCells ⟨0, 0, 0, 0, 0, 0, 0, 0, 0, 0, [], none, 0⟩)).alloc _))) rfl ⟨by rw [HV.out], ?_⟩
    exact ((Below.refl _ _).alloc (Nat.le_refl _) _).alloc (by simp) _

end Go.Proofs.YtknlhkkpheahlaaDoor

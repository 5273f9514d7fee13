/- The ledger's example: what is known of 'once', where it comes to. (printed by gen_kn19.py) -/
import Derived.Test.YtedipingocmmdaaGreatEvY
import Derived.Test.YtedipingocmmdaaGreatOnce
namespace Go.Proofs.YtedipingocmmdaaGreat.Ev
open Go Go.RowKit

def book19 : List Value := [.int .i64 1, .int .i64 2, .int .i64 0, .int .i64 2, .int .i64 3, .int .i64 2, .int .i64 1, .int .i64 99, .int .i64 99, .int .i64 0, .slice none 0 0, .pointer (some ⟨368, 0, none⟩), .slice (some ⟨470, 0, none⟩) 2 18446744073709551616, .int .i64 0, .int .i64 1, .slice (some ⟨431, 0, none⟩) 5 18446744073709551616]
def tasks19 : List Value := [.int .i64 0, .int .i64 0, .int .i64 0, .int .i64 0, .int .i64 0, .bool false, .slice none 0 0, .bool false, .int .i64 0, .int .i64 0, .int .i64 0, .int .i64 0, .int .i64 0, .bool false, .int .i64 0, .int .i64 0, .slice none 0 0, .slice none 0 0, .int .u64 0, .slice none 0 0, .slice none 0 0, .slice none 0 0, .int .i64 0, .int .i64 0, .slice (some ⟨451, 0, none⟩) 3 18446744073709551616, .slice none 0 0, .int .i64 0, .int .i64 0, .int .i64 0, .int .i64 0, .int .i64 0, .bool false, .bool false, .bool false, .int .i64 6, .int .i64 1, .int .i64 9, .int .i64 0, .int .i64 0, .bool false, .slice none 0 0, .bool false, .int .i64 1, .int .i64 0, .int .i64 0, .int .i64 0, .int .i64 0, .bool false, .int .i64 0, .int .i64 1, .slice none 0 0, .slice none 0 0, .int .u64 0, .slice none 0 0, .slice none 0 0, .slice none 0 0, .int .i64 4, .int .i64 1, .slice (some ⟨466, 0, none⟩) 2 18446744073709551616, .slice none 0 0, .int .i64 0, .int .i64 0, .int .i64 0, .int .i64 0, .int .i64 0, .bool false, .bool false, .bool false]
def free19a : List Value := [.int .i64 1, .int .i64 0, .int .i64 2, .int .i64 0, .int .i64 3, .int .i64 0]
def free19b : List Value := [.int .i64 5, .int .i64 0, .int .i64 6, .int .i64 0]
def k19 : Known := ⟨[.pointer (some ⟨440, 0, none⟩)], [(440, ⟨174, book19, false⟩), (470, ⟨63, tasks19, true⟩), (451, ⟨164, free19a, true⟩), (466, ⟨164, free19b, true⟩)], .bool true⟩
theorem at_of {P : Program} {ρ : Nat → Loc} {U : Nat → Prop} {w : World} {b : Blk} {L : Loc} (h : RowOk P ρ U w b L) : At w L.blk (b.cells.map (ren ρ)) := by
  obtain ⟨_, rest, h2, _, _⟩ := h
  refine ⟨(Array.getElem?_eq_some_iff.1 h2).1, fun k v hk => ?_⟩
  rw [cell_at h2]
  exact (List.getElem?_append_left (List.getElem?_eq_some_iff.1 hk).1).trans hk
set_option maxRecDepth 1000000 in
theorem nodes19 (w : World) : Calls Tryz.prog 126 #[.agg #[.int .i64 1, .int .i64 2, .int .i64 0, .int .i64 2, .int .i64 3, .int .i64 2, .int .i64 1, .int .i64 99, .int .i64 99, .int .i64 0, .slice none 0 0]] w fun e w' => e = .returned (.int .i64 7) ∧ Below w.heap.size w w' :=
  flat_calls (d := 10) (args := [.agg #[.int .i64 1, .int .i64 2, .int .i64 0, .int .i64 2, .int .i64 3, .int .i64 2, .int .i64 1, .int .i64 99, .int .i64 99, .int .i64 0, .slice none 0 0]]) rfl rfl (by kernel_rfl) w
theorem k19_ok : KnR Tryz.prog 81 k19 where
  tab := by
    cases hg : tabF.get 81 with
    | none =>
      have h : someB (tabF.get 81) = true := by kernel_rfl
      rw [hg] at h; cases h
    | some E => exact ⟨E, tab_ok _ E hg⟩
  val := rfl
  call := fun base w0 w ρ U H hR hrows => by
    have h1 := at_of (hR.row 440 _ (hrows (440, ⟨174, book19, false⟩) (by simp [k19])))
    have h2 := at_of (hR.row 470 _ (hrows (470, ⟨63, tasks19, true⟩) (by simp [k19])))
    have h3 := at_of (hR.row 451 _ (hrows (451, ⟨164, free19a, true⟩) (by simp [k19])))
    have h4 := at_of (hR.row 466 _ (hrows (466, ⟨164, free19b, true⟩) (by simp [k19])))
    exact Once_any w (ρ 440).blk (ρ 470).blk (ρ 451).blk (ρ 466).blk (renC ρ ⟨470, 0, none⟩ 18446744073709551616) (renC ρ ⟨451, 0, none⟩ 18446744073709551616) (renC ρ ⟨466, 0, none⟩ 18446744073709551616) 5 (renC ρ ⟨431, 0, none⟩ 18446744073709551616) (.pointer (some ⟨(ρ 368).blk, 0, none⟩)) (some ⟨(ρ 431).blk, 0, none⟩) h1 h2 h3 h4 nodes19
noncomputable def R19 (f : Nat) : List Known := Bool.rec [] [k19] (Nat.beq f 81)
theorem R19_ok : ∀ f k, k ∈ R19 f → KnR Tryz.prog f k := fun f k hm => by
  unfold R19 at hm
  rcases beq_cases f 81 with ⟨e, hf⟩ | ⟨e, _⟩
  · rw [e] at hm
    subst hf
    rcases List.mem_singleton.mp (show k ∈ [k19] from hm) with rfl
    exact k19_ok
  · rw [e] at hm; cases hm
end Go.Proofs.YtedipingocmmdaaGreat.Ev


/- append of one access onto a row of the call's own. -/
import Derived.Test.YtiioedgdhkndgaaDoorClone
namespace Go.Proofs.YtiioedgdhkndgaaDoor
open Go.RowKit Go.Sort

theorem accs_snoc (l : List Acc) (x : Acc) : accs (l ++ [x]) = accs l ++ x.cells := by simp [accs]

theorem append_acc {ops : Array Oper} {rest : List Oper} {o : Oper} {a : Act} {Q : Exit → Act → World → Prop} {w : World} (s x : Operand) (hgd : o.guard = none)
    (ho : o.op = .call { callee := .builtin .append, args := #[s, x], argTypes := #[72, 72] })
    (base : Nat) (A : Option Addr) (n c : Nat) (l : List Acc) (z : Acc) (g c' : Nat) (hs : a.eval s = .slice A n c) (hown : w.ownsRow base 74 7 (.slice A n c) n (accs l))
    (hx : a.eval x = .slice (some ⟨g, 0, none⟩) 1 c') (hcell : ∀ j v, z.cells[j]? = some v → w.cell? ⟨g, j, none⟩ = some v) (hlen : n ≤ 2097152) (hbase : base ≤ w.heap.size)
    (h : ∀ A' c'' w', w'.ownsRow base 74 7 (.slice A' (n + 1) c'') (n + 1) (accs (l ++ [z])) → Below base w w' → w.grownBy w' (Value.ownBlock (.slice A n c)) → wpList Tryd.prog ops Q rest (a.put o.dst (.slice A' (n + 1) c'')) w') :
    wpList Tryd.prog ops Q (o :: rest) a w := by
  obtain ⟨i0, hi, hz0, hz1, hz2⟩ := info_parts CloneA_info
  refine wpList_append_own w hgd s x 72 ho base 74 i0 (accV Acc.none) 7 56 Tryd.underlying72 hi hz0 hz1 hz2 rfl (by decide) _ n (accs l) hs hown ⟨g, 0, none⟩ 1 c' z.cells hx rfl ?_ ?_ ?_ ?_ hbase ?_
  · intro j u hj
    have e1 : (Addr.add ⟨g, 0, none⟩ j) = ⟨g, j, none⟩ := by
      unfold Addr.add; split
      · simp_all
      · simp
    rw [e1]; exact hcell j u hj
  · intro u hu
    simp only [Acc.cells, List.mem_cons, List.not_mem_nil, or_false] at hu
    rcases hu with rfl | rfl | rfl | rfl | rfl | rfl | rfl <;> rfl
  · unfold maxLen; omega
  · omega
  · intro v' w' hown' hg _
    obtain ⟨g', cap', hv⟩ : ∃ g' cap', v' = .slice (some ⟨g', 0, none⟩) (n + 1) cap' := by
      rcases hown'.2 with ⟨_, h0⟩ | ⟨g', cap', _, hv, _⟩
      · omega
      · exact ⟨g', cap', hv⟩
    subst hv
    refine h _ _ w' ?_ (own_grown hown hbase hg) hg
    rw [accs_snoc]
    exact hown'

theorem new_acc (w : World) (y : Acc) : ∀ j v, y.cells[j]? = some v → (w.alloc (.cells #[.int .i64 y.thread, .int .i64 y.kind, .int .i64 y.addr, .int .u64 y.want, .int .u64 y.old, .int .u64 y.now, .bool y.ok] 74)).cell? ⟨w.heap.size, j, none⟩ = some v := fun j v hj => by
  rw [World.cell?_alloc_at (hn := rfl), ← hj]; simp [Acc.cells]

end Go.Proofs.YtiioedgdhkndgaaDoor

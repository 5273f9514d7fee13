/- append of one element onto a row of the call's own; a row that is owned reads as its list. -/
import Derived.Test.YtknlhkkpheahlaaDoorRow
import Derived.OwnWalk
namespace Go.Proofs.YtknlhkkpheahlaaDoor
open Go.RowKit Go.Sort

/-- The slice value v of n elements, E of s cells each, is the call's own from base on and holds the cells xs. -/
theorem own_rd {w : World} {base : Nat} {e : TypeId} {s n : Nat} {A : Option Addr} {c : Nat} {xs : List Value} (h : w.ownsRow base e s (.slice A n c) n xs) : Rd w A xs := by
  rcases h with ⟨h1, ⟨hv, hn⟩ | ⟨g, cap, cur, hv, hg, hh, hnc, hm, hsz, hx⟩⟩
  · left
    exact List.eq_nil_of_length_eq_zero (by rw [h1, hn]; simp)
  · injection hv with hA hn' hc
    subst hA
    have hlt : g < w.heap.size := by
      rcases Nat.lt_or_ge g w.heap.size with hlt | hge
      · exact hlt
      · rw [Array.getElem?_eq_none hge] at hh; cases hh
    refine .inr ⟨g, 0, rfl, hlt, fun k v hk => ?_⟩
    rw [Nat.zero_add]
    have hk' : cur.toList[k]? = some v := by
      rw [← hx] at hk
      rw [List.getElem?_take] at hk
      split at hk
      · exact hk
      · cases hk
    simp only [World.cell?, hh]
    simpa using hk'

theorem own_block {w : World} {base : Nat} {e : TypeId} {s n : Nat} {v : Value} {xs : List Value} (h : w.ownsRow base e s v n xs) : ∀ k, v.ownBlock = some k → base ≤ k := by
  intro k hk
  rcases h.2 with ⟨rfl, _⟩ | ⟨g, cap, cur, rfl, hg, _⟩
  · simp [Value.ownBlock] at hk
  · simp only [Value.ownBlock, Option.some.injEq] at hk; omega

theorem own_grown {w w' : World} {base : Nat} {e : TypeId} {s n : Nat} {v : Value} {xs : List Value} (h : w.ownsRow base e s v n xs) (hb : base ≤ w.heap.size) (hg : w.grownBy w' v.ownBlock) : Below base w w' :=
  (Below.refl _ _).grown hg hb (own_block h)

theorem own_below {w w' : World} {base : Nat} {e : TypeId} {s n : Nat} {v : Value} {xs : List Value} (h : w.ownsRow base e s v n xs) (hb : Below w.heap.size w w') : w'.ownsRow base e s v n xs := by
  refine ⟨h.1, ?_⟩
  rcases h.2 with h2 | ⟨g, cap, cur, hv, hg, hh, r⟩
  · exact .inl h2
  · have hlt : g < w.heap.size := by
      rcases Nat.lt_or_ge g w.heap.size with hlt | hge
      · exact hlt
      · rw [Array.getElem?_eq_none hge] at hh; cases hh
    exact .inr ⟨g, cap, cur, hv, hg, (hb.block g hlt).trans hh, r⟩

theorem own_nil (w : World) (base : Nat) (e : TypeId) (s : Nat) : w.ownsRow base e s (.slice none 0 0) 0 [] := ⟨by simp, .inl ⟨rfl, rfl⟩⟩

theorem new1 (w : World) (v : Value) (t : TypeId) : (w.alloc (.cells #[v] t)).cell? ⟨w.heap.size, 0, none⟩ = some v := by simp

theorem append_int {ops : Array Oper} {rest : List Oper} {o : Oper} {a : Act} {Q : Exit → Act → World → Prop} {w : World} (s x : Operand) (hgd : o.guard = none)
    (ho : o.op = .call { callee := .builtin .append, args := #[s, x], argTypes := #[43, 43] })
    (base : Nat) (A : Option Addr) (n c : Nat) (l : List Int) (z : Int) (g c' : Nat) (hs : a.eval s = .slice A n c) (hown : w.ownsRow base 3 1 (.slice A n c) n (ints l))
    (hx : a.eval x = .slice (some ⟨g, 0, none⟩) 1 c') (hcell : w.cell? ⟨g, 0, none⟩ = some (.int .i64 z)) (hlen : n ≤ 2097152) (hbase : base ≤ w.heap.size)
    (h : ∀ A' c'' w', w'.ownsRow base 3 1 (.slice A' (n + 1) c'') (n + 1) (ints (l ++ [z])) → Below base w w' → w.grownBy w' (Value.ownBlock (.slice A n c)) → wpList Tryd.prog ops Q rest (a.put o.dst (.slice A' (n + 1) c'')) w') :
    wpList Tryd.prog ops Q (o :: rest) a w := by
  obtain ⟨i0, hi, hz0, hz1, hz2⟩ := info_parts int_info
  refine wpList_append_own w hgd s x 43 ho base 3 i0 (.int .i64 0) 1 8 Tryd.underlying43 hi hz0 hz1 hz2 rfl (by decide) _ n (ints l) hs hown ⟨g, 0, none⟩ 1 c' [.int .i64 z] hx rfl ?_ ?_ ?_ ?_ hbase ?_
  · intro j u hj
    match j, hj with
    | 0, hj => simp at hj; subst hj; simpa [Addr.add] using hcell
  · intro u hu; simp at hu; subst hu; rfl
  · unfold maxLen; omega
  · omega
  · intro v' w' hown' hg _
    obtain ⟨g', cap', hv⟩ : ∃ g' cap', v' = .slice (some ⟨g', 0, none⟩) (n + 1) cap' := by
      rcases hown'.2 with ⟨_, h0⟩ | ⟨g', cap', _, hv, _⟩
      · omega
      · exact ⟨g', cap', hv⟩
    subst hv
    refine h _ _ w' ?_ (own_grown hown hbase hg) hg
    rw [show ints (l ++ [z]) = ints l ++ [.int .i64 z] by simp [ints]]
    exact hown'

end Go.Proofs.YtknlhkkpheahlaaDoor

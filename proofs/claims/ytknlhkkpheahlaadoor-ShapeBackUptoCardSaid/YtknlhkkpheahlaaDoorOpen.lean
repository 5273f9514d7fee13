/- How records that came in are opened: fields by their places, rows of records as lists. -/
import Derived.Test.YtknlhkkpheahlaaDoorClose
import Derived.Test.YtknlhkkpheahlaaDoorGen
namespace Go.Proofs.YtknlhkkpheahlaaDoor
open Go.ChangeShapes Go.WideShapes Go.ChangeAt Go.RowKit Go.Deep

section
variable {H : Type} {enc : TypeId × Value → H} {P : Program} {w : World} {base : Nat} {spare : Nat → Bool} {held : Bool}

theorem addr_add (b o k : Nat) : (Addr.add ⟨b, o, none⟩ k) = ⟨b, o + k, none⟩ := by
  unfold Addr.add; split
  · simp_all
  · rfl

/-- A field's cells read as its type. -/
theorem fld {e : TypeId} {fs : Array Field} {n : Nat} {cs : List Value} {y : DataW H × List MemPlace} (he : P.underlying e = some (.struct fs)) (h : DataW.trod enc P w base spare held n e cs = some y) (j o c : Nat) (t : TypeId)
    (hj : fs[j]?.map (fun f => (f.offset, f.type)) = some (o, t)) (hc : P.cellsOf t = c) : ∃ y' n', DataW.trod enc P w base spare held n' t ((cs.drop o).take c) = some y' := by
  obtain ⟨xs, m, _, _, _, hlen, hg⟩ := DataW.trod_struct he h
  obtain ⟨f, hf, hp⟩ := Option.map_eq_some_iff.1 hj
  simp only [Prod.mk.injEq] at hp
  obtain ⟨rfl, rfl⟩ := hp
  have h1 := hg j f hf
  have hjl : j < fs.size := (Array.getElem?_eq_some_iff.1 hf).1
  rw [hc, List.getElem?_eq_getElem (by omega)] at h1
  exact ⟨_, m, h1⟩

theorem fld_len {e : TypeId} {fs : Array Field} {n : Nat} {cs : List Value} {y : DataW H × List MemPlace} (he : P.underlying e = some (.struct fs)) (h : DataW.trod enc P w base spare held n e cs = some y) : cs.length = P.cellsOf e := by
  obtain ⟨_, _, _, _, hl, _⟩ := DataW.trod_struct he h
  exact hl

theorem take1 {cs : List Value} {o : Nat} {v : Value} (h : (cs.drop o).take 1 = [v]) : cs[o]? = some v := by
  have := congrArg (fun l : List Value => l[0]?) h
  simpa [List.getElem?_take] using this

theorem leaf_int {t : TypeId} {k : IntKind} {n o : Nat} {cs : List Value} {y : DataW H × List MemPlace} (ht : P.underlying t = some (.int k)) (h : DataW.trod enc P w base spare held n t ((cs.drop o).take 1) = some y) : ∃ z, cs[o]? = some (.int k z) ∧ (Lit.int k z).wf = true := by
  obtain ⟨z, e, _, hw⟩ := DataW.trod_int ht h
  exact ⟨z, take1 e, hw⟩
theorem leaf_bool {t : TypeId} {n o : Nat} {cs : List Value} {y : DataW H × List MemPlace} (ht : P.underlying t = some .bool) (h : DataW.trod enc P w base spare held n t ((cs.drop o).take 1) = some y) : ∃ z, cs[o]? = some (.bool z) := by
  obtain ⟨z, e, _⟩ := DataW.trod_bool ht h
  exact ⟨z, take1 e⟩
theorem leaf_string {t : TypeId} {n o : Nat} {cs : List Value} {y : DataW H × List MemPlace} (ht : P.underlying t = some .string) (h : DataW.trod enc P w base spare held n t ((cs.drop o).take 1) = some y) : ∃ z : ByteArray, cs[o]? = some (.string z) ∧ z.size ≤ maxLen := by
  obtain ⟨z, e, _, hw⟩ := DataW.trod_string ht h
  exact ⟨z, take1 e, hw⟩
/-- A slice's cell, and how the slice itself reads. -/
theorem leaf_slice {t e : TypeId} {n o : Nat} {cs : List Value} {y : DataW H × List MemPlace} (ht : P.underlying t = some (.slice e)) (h : DataW.trod enc P w base spare held n t ((cs.drop o).take 1) = some y) : ∃ A l c, cs[o]? = some (.slice A l c) ∧ DataW.trod enc P w base spare held n t [.slice A l c] = some y := by
  rcases DataW.trod_slice ht h with ⟨hcs, _⟩ | ⟨a, len, cap, _, _, _, _, hcs, _⟩
  · exact ⟨_, _, _, take1 hcs, by rw [← hcs]; exact h⟩
  · exact ⟨_, _, _, take1 hcs, by rw [← hcs]; exact h⟩

theorem part_at {cs : List Value} {o c i : Nat} {v : Value} (h : ((cs.drop o).take c)[i]? = some v) : cs[o + i]? = some v := by
  rw [List.getElem?_take] at h
  split at h
  · simpa using h
  · cases h

/-- A slice of records that came in, as a list. -/
theorem rd_recs {α : Type} [C : Cellful α] (Ok : α → Prop) {t e : TypeId} {n : Nat} {x : Value} {y : DataW H × List MemPlace} (ht : P.underlying t = some (.slice e)) (hC : P.cellsOf e = C.s) (hpos : 0 < C.s)
    (hopen : ∀ (n : Nat) (cs : List Value) (y : DataW H × List MemPlace), DataW.trod enc P w base (fun _ => true) held n e cs = some y → ∃ a : α, cs = C.cells a ∧ Ok a)
    (h : DataW.trod enc P w base (fun _ => true) held n t [x] = some y) :
    ∃ (A : Option Addr) (l : List α) (cap : Nat), x = .slice A l.length cap ∧ Rd w A (rows l) ∧ l.length ≤ maxLen ∧ l.length ≤ cap ∧ (A = none → cap = 0) ∧ ∀ a ∈ l, Ok a := by
  rcases open_slice ht h with ⟨hcs, _⟩ | ⟨a, len, cap, m, n', D, Pl, hcs, _, hl, hm, hmm, _, hi⟩
  · simp only [List.cons.injEq, and_true] at hcs
    exact ⟨none, [], 0, hcs, .inl rfl, by simp, by simp, fun _ => rfl, by simp⟩
  · simp only [List.cons.injEq, and_true] at hcs
    simp only [if_true] at hmm
    rw [hC] at hi
    have hall : ∀ i, i < len → ∃ b : α, (∀ j, j < C.s → w.cell? ((a.add (i * C.s)).add j) = (C.cells b)[j]?) ∧ Ok b := by
      intro i hil
      obtain ⟨cs', hc, ht'⟩ := hi i (by omega)
      obtain ⟨b, rfl, hb⟩ := hopen _ _ _ ht'
      obtain ⟨_, _, hat⟩ := World.cells?_some hc
      exact ⟨b, fun j hj => hat j hj, hb⟩
    have hall' : ∀ i, ∃ b : α, i < len → (∀ j, j < C.s → w.cell? ((a.add (i * C.s)).add j) = (C.cells b)[j]?) ∧ Ok b := fun i => by
      by_cases hil : i < len
      · obtain ⟨b, hb⟩ := hall i hil
        exact ⟨b, fun _ => hb⟩
      · exact ⟨C.dflt, fun h => absurd h hil⟩
    obtain ⟨g, hg⟩ := Classical.axiomOfChoice hall'
    have hlen : ((List.range len).map g).length = len := by simp
    refine ⟨some a, (List.range len).map g, cap, by rw [hlen]; exact hcs, ?_, by omega, by omega, (fun h => by cases h), fun b hb => ?_⟩
    · rcases Nat.eq_zero_or_pos len with h0 | h0
      · left; simp [h0, rows]
      · right
        have c0 := (hg 0 h0).1 0 hpos
        have hsome : ∃ v, (C.cells (g 0))[0]? = some v := ⟨_, List.getElem?_eq_getElem (by rw [C.len]; exact hpos)⟩
        obtain ⟨v0, hv0⟩ := hsome
        rw [hv0] at c0
        obtain ⟨b, o, sp⟩ := a
        have hsp := spot_of_cell c0
        have hsp' : sp = none := by
          cases sp with
          | none => rfl
          | some s => simp [Addr.add] at hsp
        subst hsp'
        rw [addr_add, addr_add] at c0
        refine ⟨b, o, rfl, block_lt_of_cell c0, fun k v hk' => ?_⟩
        have hkl : k < len * C.s := by
          have := (List.getElem?_eq_some_iff.1 hk').1
          rw [rows_length, hlen] at this
          exact this
        have hd : k / C.s * C.s + k % C.s = k := by rw [Nat.mul_comm]; exact Nat.div_add_mod k C.s
        have hq : k / C.s < len := (Nat.div_lt_iff_lt_mul hpos).2 hkl
        have hr : k % C.s < C.s := Nat.mod_lt _ hpos
        have hat := rows_at (l := (List.range len).map g) (k := k / C.s) (by omega) (k % C.s) hr
        rw [hd, hk'] at hat
        have hgd : ((List.range len).map g).getD (k / C.s) C.dflt = g (k / C.s) := by
          simp [List.getD, hq]
        rw [hgd] at hat
        have hck := (hg (k / C.s) hq).1 (k % C.s) hr
        rw [addr_add, addr_add, Nat.add_assoc, hd, ← hat] at hck
        exact hck
    · simp only [List.mem_map, List.mem_range] at hb
      obtain ⟨i, hil, rfl⟩ := hb
      exact (hg i hil).2
end

end Go.Proofs.YtknlhkkpheahlaaDoor

/- How rows of records that came in are opened, where each of them keeps a bound; texts' bulk. -/
import Derived.Test.YtiioedgdhkndgaaDoorOpenW
import Derived.Test.YtiioedgdhkndgaaDoorCspOpen
import Derived.Test.YtiioedgdhkndgaaDoorRef04b
namespace Go.Proofs.YtiioedgdhkndgaaDoor
open Go.ChangeShapes Go.WideShapes Go.ChangeAt Go.RowKit Go.Deep

section
variable {H : Type} {enc : TypeId × Value → H} {P : Program} {w : World} {base : Nat} {spare : Nat → Bool} {held : Bool}

/-- A slice of records that came in, as a list. -/
theorem rd_recsQ {α : Type} [C : Cellful α] (Q : DataW H → Prop) (Ok : α → Prop) {t e : TypeId} {n : Nat} {x : Value} {y : DataW H × List MemPlace} (ht : P.underlying t = some (.slice e)) (hC : P.cellsOf e = C.s) (hpos : 0 < C.s)
    (hopen : ∀ (n : Nat) (cs : List Value) (y : DataW H × List MemPlace), DataW.trod enc P w base (fun _ => true) held n e cs = some y → Q y.1 → ∃ a : α, cs = C.cells a ∧ Ok a)
    (h : DataW.trod enc P w base (fun _ => true) held n t [x] = some y) (hq : ∀ es sp, y.1 = .slice es sp → ∀ d ∈ es, Q d) :
    ∃ (A : Option Addr) (l : List α) (cap : Nat), x = .slice A l.length cap ∧ Rd w A (rows l) ∧ l.length ≤ maxLen ∧ l.length ≤ cap ∧ (A = none → cap = 0) ∧ (∀ a ∈ l, Ok a) := by
  rcases open_slice ht h with ⟨hcs, _⟩ | ⟨a, len, cap, m, n', D, Pl, hcs, _, hl, hm, hmm, hx, hi⟩
  · simp only [List.cons.injEq, and_true] at hcs
    exact ⟨none, [], 0, hcs, .inl rfl, by simp, by simp, fun _ => rfl, by simp⟩
  · simp only [List.cons.injEq, and_true] at hcs
    simp only [if_true] at hmm
    subst hmm
    have hfit : ∀ i, i < len → Q (D i) := fun i hil => hq _ _ (by rw [hx]) (D i) (List.mem_map.2 ⟨i, List.mem_range.2 hil, rfl⟩)
    rw [hC] at hi
    have hall : ∀ i, i < len → ∃ b : α, (∀ j, j < C.s → w.cell? ((a.add (i * C.s)).add j) = (C.cells b)[j]?) ∧ Ok b := by
      intro i hil
      obtain ⟨cs', hc, ht'⟩ := hi i (by omega)
      obtain ⟨b, rfl, hb⟩ := hopen _ _ _ ht' (hfit i hil)
      obtain ⟨_, _, hat⟩ := World.cells?_some hc
      exact ⟨b, fun j hj => hat j hj, hb⟩
    have hall' : ∀ i, ∃ b : α, i < len → (∀ j, j < C.s → w.cell? ((a.add (i * C.s)).add j) = (C.cells b)[j]?) ∧ Ok b := fun i => by
      by_cases hil : i < len
      · obtain ⟨b, hb⟩ := hall i hil
        exact ⟨b, fun _ => hb⟩
      · exact ⟨C.dflt, fun h => absurd h hil⟩
    obtain ⟨g, hg⟩ := Classical.axiomOfChoice hall'
    have hlen : ((List.range len).map g).length = len := by simp
    refine ⟨some a, (List.range len).map g, m, by rw [hlen]; exact hcs, ?_, by omega, by omega, (fun h => by cases h), fun b hb => ?_⟩
    · rcases Nat.eq_zero_or_pos len with h0 | h0
      · left; simp [h0, rows]
      · right
        have c0 := (hg 0 h0).1 0 hpos
        have hsome : ∃ v, (C.cells (g 0))[0]? = some v := ⟨_, List.getElem?_eq_getElem (by rw [C.len]; exact hpos)⟩
        obtain ⟨v0, hv0⟩ := hsome
        rw [hv0] at c0
        obtain ⟨b, o, sp⟩ := a
        have hsp := spot_of_cell c0
        have hsp' : sp = none := by
          cases sp with
          | none => rfl
          | some s => simp [Addr.add] at hsp
        subst hsp'
        rw [addr_add, addr_add] at c0
        refine ⟨b, o, rfl, block_lt_of_cell c0, fun k v hk' => ?_⟩
        have hkl : k < len * C.s := by
          have := (List.getElem?_eq_some_iff.1 hk').1
          rw [rows_length, hlen] at this
          exact this
        have hd : k / C.s * C.s + k % C.s = k := by rw [Nat.mul_comm]; exact Nat.div_add_mod k C.s
        have hq : k / C.s < len := (Nat.div_lt_iff_lt_mul hpos).2 hkl
        have hr : k % C.s < C.s := Nat.mod_lt _ hpos
        have hat := rows_at (l := (List.range len).map g) (k := k / C.s) (by omega) (k % C.s) hr
        rw [hd, hk'] at hat
        have hgd : ((List.range len).map g).getD (k / C.s) C.dflt = g (k / C.s) := by
          simp [List.getD, hq]
        rw [hgd] at hat
        have hck := (hg (k / C.s) hq).1 (k % C.s) hr
        rw [addr_add, addr_add, Nat.add_assoc, hd, ← hat] at hck
        exact hck
    · simp only [List.mem_map, List.mem_range] at hb
      obtain ⟨i, hil, rfl⟩ := hb
      exact (hg i hil).2

end

theorem bulk_mem {H : Type} {d : DataW H} : ∀ {l : List (DataW H)}, d ∈ l → Rows.uptoBulk d ≤ Rows.uptoBulkAll l
  | x :: r, h => by
    simp only [Rows.uptoBulkAll]
    rcases List.mem_cons.1 h with rfl | h
    · omega
    · have := bulk_mem h; omega

section
variable {H : Type} {enc : TypeId × Value → H} {w : World} {base : Nat} {held : Bool}

set_option maxRecDepth 100000 in
/-- A fault's name and place, its name no longer than the bulk. -/
theorem open_one (N : Nat) {n : Nat} {cs : List Value} {y : DataW H × List MemPlace} (h : DataW.trod enc Tryd.prog w base (fun _ => true) held n 39 cs = some y) (hb : Rows.uptoBulk y.1 ≤ N) : ∃ a : ByteArray × Int, cs = Cellful.cells a ∧ a.1.size ≤ N ∧ In64 a.2 := by
  have hl := fld_len Tryd.underlying39 h
  rw [show Tryd.prog.cellsOf 39 = 2 by kernel_rfl] at hl
  have c1 : Tryd.prog.cellsOf 3 = 1 := by kernel_rfl
  have c9 : Tryd.prog.cellsOf 9 = 1 := by kernel_rfl
  obtain ⟨_, _, h1⟩ := fld Tryd.underlying39 h 1 1 1 3 rfl c1
  obtain ⟨z1, e1, w1⟩ := leaf_int Tryd.underlying3 h1
  obtain ⟨xs, m, _, hx, _, hlen, hg⟩ := DataW.trod_struct Tryd.underlying39 h
  have h0 := hg 0 _ rfl
  change DataW.trod enc Tryd.prog w base (fun _ => true) held m 9 ((cs.drop 0).take (Tryd.prog.cellsOf 9)) = xs[0]? at h0
  rw [c9] at h0
  have hx0 : ∃ y0, xs[0]? = some y0 := ⟨_, List.getElem?_eq_getElem (by rw [hlen]; decide)⟩
  obtain ⟨y0, hy0⟩ := hx0
  rw [hy0] at h0
  obtain ⟨s, e0, hs, _⟩ := DataW.trod_string Tryd.underlying9 h0
  have hmem : y0.1 ∈ xs.map (·.1) := List.mem_map.2 ⟨y0, List.mem_of_getElem? hy0, rfl⟩
  have hsz : s.size ≤ N := by
    have := bulk_mem hmem
    rw [hs] at this
    rw [hx] at hb
    simp only [Rows.uptoBulk] at this hb
    have e : s.data.toList.length = s.size := rfl
    omega
  refine ⟨(s, z1), ?_, hsz, in64_of w1⟩
  have e0' := take1 e0
  match cs, hl with
  | [a0, a1], _ =>
    simp at e0' e1
    subst e0' e1
    rfl

set_option maxRecDepth 100000 in
theorem ones_arg (N : Nat) {v : Value} {d : DataW H} {p : List MemPlace} (hv : Value.okWide Tryd.prog w .any base 22 v) (h : DataW.Trod enc Tryd.prog w 0 (fun _ => true) held 22 v d p) (hb : Rows.uptoBulk d ≤ N) :
    ∃ (A : Option Addr) (l : List (ByteArray × Int)) (c : Nat), v = .slice A l.length c ∧ Rd w A (rows l) ∧ l.length ≤ maxLen ∧ (∀ a ∈ l, a.1.size ≤ N ∧ In64 a.2) := by
  obtain ⟨A0, n0, c0, rfl⟩ := okWide_slice Tryd.underlying22 hv
  obtain ⟨n, hn⟩ := h
  obtain ⟨A, l, cap, e, hR, hm, _, _, hok⟩ := rd_recsQ (α := ByteArray × Int) (fun d => Rows.uptoBulk d ≤ N) (fun a => a.1.size ≤ N ∧ In64 a.2) Tryd.underlying22 (by kernel_rfl) (by decide) (fun n cs y h hq => open_one N h hq) hn (fun es sp he d hd => by
    have h1 := bulk_mem hd
    simp only at he
    rw [he] at hb
    simp only [Rows.uptoBulk] at hb
    omega)
  exact ⟨A, l, cap, e, hR, hm, hok⟩

set_option maxRecDepth 100000 in
theorem open_one0 {n : Nat} {cs : List Value} {y : DataW H × List MemPlace} (h : DataW.trod enc Tryd.prog w base (fun _ => true) held n 39 cs = some y) : ∃ a : ByteArray × Int, cs = Cellful.cells a ∧ In64 a.2 := by
  have hl := fld_len Tryd.underlying39 h
  rw [show Tryd.prog.cellsOf 39 = 2 by kernel_rfl] at hl
  have c1 : Tryd.prog.cellsOf 3 = 1 := by kernel_rfl
  have c9 : Tryd.prog.cellsOf 9 = 1 := by kernel_rfl
  obtain ⟨_, _, h1⟩ := fld Tryd.underlying39 h 1 1 1 3 rfl c1
  obtain ⟨_, _, h0⟩ := fld Tryd.underlying39 h 0 0 1 9 rfl c9
  obtain ⟨z1, e1, w1⟩ := leaf_int Tryd.underlying3 h1
  obtain ⟨s, e0, _⟩ := leaf_string Tryd.underlying9 h0
  refine ⟨(s, z1), ?_, in64_of w1⟩
  match cs, hl with
  | [a0, a1], _ =>
    simp at e0 e1
    subst e0 e1
    rfl

set_option maxRecDepth 100000 in
theorem ones_any {v : Value} {d : DataW H} {p : List MemPlace} (hv : Value.okWide Tryd.prog w .any base 22 v) (h : DataW.Trod enc Tryd.prog w 0 (fun _ => true) held 22 v d p) :
    ∃ (A : Option Addr) (l : List (ByteArray × Int)) (c : Nat), v = .slice A l.length c ∧ Rd w A (rows l) ∧ l.length ≤ maxLen := by
  obtain ⟨A0, n0, c0, rfl⟩ := okWide_slice Tryd.underlying22 hv
  obtain ⟨n, hn⟩ := h
  obtain ⟨A, l, cap, e, hR, hm, _⟩ := rd_recs (α := ByteArray × Int) (fun a => In64 a.2) Tryd.underlying22 (by kernel_rfl) (by decide) (fun n cs y h => open_one0 h) hn
  exact ⟨A, l, cap, e, hR, hm⟩

set_option maxRecDepth 100000 in
theorem str_arg {v : Value} {d : DataW H} {p : List MemPlace} (hv : Value.okWide Tryd.prog w .any base 9 v) (h : DataW.Trod enc Tryd.prog w 0 (fun _ => true) held 9 v d p) : ∃ s : ByteArray, v = .string s ∧ s.size ≤ maxLen := by
  obtain ⟨n, hn⟩ := h
  obtain ⟨s, e, _, hw⟩ := DataW.trod_string Tryd.underlying9 hn
  obtain ⟨s', rfl⟩ := okWide_string Tryd.underlying9 hv
  have e' : [Value.string s'] = [.string s] := e
  injection e' with e' _
  injection e' with e'
  subst e'
  exact ⟨_, rfl, hw⟩

set_option maxRecDepth 100000 in
theorem str_argW {v : Value} {d : DataW H} {p : List MemPlace} (hv : Value.okWide Tryd.prog w .any base 9 v) (h : DataW.Trod enc Tryd.prog w 0 (fun _ => true) held 9 v d p) (hf : Fit Tryd.prog 9 d) : ∃ s : ByteArray, v = .string s ∧ s.size ≤ 140737488351232 := by
  obtain ⟨n, hn⟩ := h
  obtain ⟨s, e, hd, _⟩ := DataW.trod_string Tryd.underlying9 hn
  obtain ⟨s', rfl⟩ := okWide_string Tryd.underlying9 hv
  have e' : [Value.string s'] = [.string s] := e
  injection e' with e' _
  injection e' with e'
  subst e'
  refine ⟨_, rfl, ?_⟩
  injection hd with hd _
  subst hd
  have h1 : s'.data.toList.length ≤ reachBytes := by simpa [Fit, DataW.weights] using hf
  have : reachBytes = 140737488351232 := rfl
  have e3 : s'.size = s'.data.toList.length := rfl
  omega
end

end Go.Proofs.YtiioedgdhkndgaaDoor

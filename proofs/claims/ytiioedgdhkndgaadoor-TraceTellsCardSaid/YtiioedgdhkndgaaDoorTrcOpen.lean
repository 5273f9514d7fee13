/- How words and accesses are opened, as arguments. -/
import Derived.Test.YtiioedgdhkndgaaDoorOpenW
import Derived.Test.YtiioedgdhkndgaaDoorLine
import Derived.LaidMore
import Derived.Lib.LaidTab
import Derived.Lib.TrailingZeros
namespace Go.Proofs.YtiioedgdhkndgaaDoor
open Go.ChangeShapes Go.WideShapes Go.ChangeAt Go.RowKit Go.Deep

/-- The library's table of which base 16 reads one cell. -/
abbrev Tab64 (w : World) : Prop := Lib.TabIs Tryd.prog w "math/bits.deBruijn64tab" .u8 (List.map (fun n : Nat => (n : Int)) Lib.deBruijn64tab)
theorem Tab64.tz {w : World} (h : Tab64 w) : Tz16 w := by
  have hc := Lib.TabIs.cell h (show Tryd.prog.globalNamed "math/bits.deBruijn64tab" = some 4 by kernel_rfl) 15 (by decide)
  have hc' : w.cell? ⟨4, 15, none⟩ = some (.int .u8 4) := by
    rw [hc]; rfl
  refine ⟨?_, hc'⟩
  rcases Nat.lt_or_ge 4 w.heap.size with hl | hl
  · exact hl
  · simp [World.cell?, Array.getElem?_eq_none hl] at hc'

section
variable {H : Type} {enc : TypeId × Value → H} {w : World} {base : Nat} {held : Bool}

theorem u64_of {z : Int} (h : (Lit.int .u64 z).wf = true) : U64 z := by
  simp only [Lit.wf, Bool.and_eq_true, decide_eq_true_eq] at h
  exact ⟨h.1, Int.lt_of_le_of_lt h.2 (by decide)⟩
theorem i64_of {z : Int} (h : (Lit.int .i64 z).wf = true) : In64 z := by
  simp only [Lit.wf, Bool.and_eq_true, decide_eq_true_eq] at h
  exact h

structure W64 where
  z : Int
instance : Cellful W64 where
  cells := fun a => [.int .u64 a.z]
  s := 1
  dflt := ⟨0⟩
  len := fun _ => rfl
  one := fun a u hu => by
    simp only [List.mem_cons, List.not_mem_nil, or_false] at hu
    subst hu; rfl
instance : Cellful Acc where
  cells := Acc.cells
  s := 7
  dflt := Acc.none
  len := fun _ => rfl
  one := fun a u hu => by
    simp only [Acc.cells, List.mem_cons, List.not_mem_nil, or_false] at hu
    rcases hu with rfl | rfl | rfl | rfl | rfl | rfl | rfl <;> rfl

theorem rows_words (l : List W64) : rows l = words (l.map (·.z)) := by
  induction l with
  | nil => rfl
  | cons a l ih => rw [rows_cons, ih]; rfl

theorem open_word {n : Nat} {cs : List Value} {y : DataW H × List MemPlace} (h : DataW.trod enc Tryd.prog w 0 (fun _ => true) held n 62 cs = some y) : ∃ a : W64, cs = Cellful.cells a ∧ U64 a.z := by
  obtain ⟨z, e, _, hw⟩ := DataW.trod_int Tryd.underlying62 h
  exact ⟨⟨z⟩, e, u64_of hw⟩

theorem open_access {n : Nat} {cs : List Value} {y : DataW H × List MemPlace} (h : DataW.trod enc Tryd.prog w 0 (fun _ => true) held n 74 cs = some y) : ∃ a : Acc, cs = a.cells ∧ AccOk a := by
  have hl := fld_len Tryd.underlying74 h
  rw [show Tryd.prog.cellsOf 74 = 7 by kernel_rfl] at hl
  have c1 : Tryd.prog.cellsOf 3 = 1 := by kernel_rfl
  have cu : Tryd.prog.cellsOf 62 = 1 := by kernel_rfl
  have cb : Tryd.prog.cellsOf 4 = 1 := by kernel_rfl
  obtain ⟨_, _, h0⟩ := fld Tryd.underlying74 h 0 0 1 3 rfl c1
  obtain ⟨_, _, h1⟩ := fld Tryd.underlying74 h 1 1 1 3 rfl c1
  obtain ⟨_, _, h2⟩ := fld Tryd.underlying74 h 2 2 1 3 rfl c1
  obtain ⟨_, _, h3⟩ := fld Tryd.underlying74 h 3 3 1 62 rfl cu
  obtain ⟨_, _, h4⟩ := fld Tryd.underlying74 h 4 4 1 62 rfl cu
  obtain ⟨_, _, h5⟩ := fld Tryd.underlying74 h 5 5 1 62 rfl cu
  obtain ⟨_, _, h6⟩ := fld Tryd.underlying74 h 6 6 1 4 rfl cb
  obtain ⟨z0, e0, w0⟩ := leaf_int Tryd.underlying3 h0
  obtain ⟨z1, e1, w1⟩ := leaf_int Tryd.underlying3 h1
  obtain ⟨z2, e2, w2⟩ := leaf_int Tryd.underlying3 h2
  obtain ⟨z3, e3, w3⟩ := leaf_int Tryd.underlying62 h3
  obtain ⟨z4, e4, w4⟩ := leaf_int Tryd.underlying62 h4
  obtain ⟨z5, e5, w5⟩ := leaf_int Tryd.underlying62 h5
  obtain ⟨z6, e6⟩ := leaf_bool Tryd.underlying4 h6
  refine ⟨⟨z0, z1, z2, z3, z4, z5, z6⟩, ?_, ⟨i64_of w0, i64_of w2, u64_of w3, u64_of w4, u64_of w5⟩⟩
  match cs, hl with
  | [a0, a1, a2, a3, a4, a5, a6], _ =>
    simp at e0 e1 e2 e3 e4 e5 e6
    subst e0 e1 e2 e3 e4 e5 e6
    rfl

set_option maxRecDepth 100000 in
theorem words_arg {v : Value} {d : DataW H} {p : List MemPlace} (hv : Value.okWide Tryd.prog w .any base 71 v) (h : DataW.Trod enc Tryd.prog w 0 (fun _ => true) held 71 v d p) (hf : Fit Tryd.prog 71 d) :
    ∃ (A : Option Addr) (ws : List Int) (c : Nat), v = .slice A ws.length c ∧ Rd w A (words ws) ∧ ws.length ≤ c ∧ (A = none → ws.length = 0 ∧ c = 0) ∧ ws.length * 8 ≤ 140737488351232 ∧ ∀ z ∈ ws, U64 z := by
  obtain ⟨A0, n0, c0, rfl⟩ := okWide_slice Tryd.underlying71 hv
  obtain ⟨n, hn⟩ := h
  obtain ⟨A, l, cap, e, hR, _, hcap, hnone, hok, hsz⟩ := rd_recsW (α := W64) (fun a => U64 a.z) Tryd.underlying71 (by kernel_rfl) (by decide) (fun n cs y h _ => open_word h) hn hf
  rw [show Tryd.prog.bytesOf 62 = 8 by kernel_rfl] at hsz
  refine ⟨A, l.map (·.z), cap, by rw [List.length_map]; exact e, by rw [← rows_words]; exact hR, by rw [List.length_map]; exact hcap, fun h => ?_, ?_, fun z hz => ?_⟩
  · have := hnone h; rw [List.length_map]; exact ⟨by omega, this⟩
  · have : reachBytes = 140737488351232 := rfl
    rw [List.length_map]; omega
  · obtain ⟨a, ha, rfl⟩ := List.mem_map.1 hz
    exact hok a ha

set_option maxRecDepth 100000 in
theorem accs_arg {v : Value} {d : DataW H} {p : List MemPlace} (hv : Value.okWide Tryd.prog w .any base 72 v) (h : DataW.Trod enc Tryd.prog w 0 (fun _ => true) held 72 v d p) (hf : Fit Tryd.prog 72 d) :
    ∃ (A : Option Addr) (l : List Acc) (c : Nat), v = .slice A l.length c ∧ Rd w A (accs l) ∧ l.length ≤ c ∧ (A = none → l.length = 0 ∧ c = 0) ∧ l.length * 56 ≤ 140737488351232 ∧ ∀ a ∈ l, AccOk a := by
  obtain ⟨A0, n0, c0, rfl⟩ := okWide_slice Tryd.underlying72 hv
  obtain ⟨n, hn⟩ := h
  obtain ⟨A, l, cap, e, hR, _, hcap, hnone, hok, hsz⟩ := rd_recsW (α := Acc) AccOk Tryd.underlying72 (by kernel_rfl) (by decide) (fun n cs y h _ => open_access h) hn hf
  rw [show Tryd.prog.bytesOf 74 = 56 by kernel_rfl] at hsz
  refine ⟨A, l, cap, e, hR, hcap, fun h => ?_, ?_, hok⟩
  · have := hnone h; exact ⟨by omega, this⟩
  · have : reachBytes = 140737488351232 := rfl
    omega

set_option maxRecDepth 100000 in
theorem acc_arg {v : Value} {d : DataW H} {p : List MemPlace} (hv : Value.okWide Tryd.prog w .any base 74 v) (h : DataW.Trod enc Tryd.prog w 0 (fun _ => true) held 74 v d p) : ∃ a : Acc, v = accV a ∧ AccOk a := by
  obtain ⟨cs, rfl, _⟩ := okWide_struct Tryd.underlying74 hv
  obtain ⟨n, hn⟩ := h
  obtain ⟨a, e, ha⟩ := open_access hn
  refine ⟨a, ?_, ha⟩
  obtain ⟨cs⟩ := cs
  have e' : cs = a.cells := e
  subst e'
  rfl
end

end Go.Proofs.YtiioedgdhkndgaaDoor

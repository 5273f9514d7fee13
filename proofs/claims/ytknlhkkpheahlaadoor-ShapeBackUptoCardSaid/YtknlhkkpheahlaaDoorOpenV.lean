/- How shapes, names of nodes, words are opened, as arguments; the library's table. -/
import Derived.Test.YtknlhkkpheahlaaDoorCspOpen
import Derived.Test.YtknlhkkpheahlaaDoorCfg
import Derived.Test.YtknlhkkpheahlaaDoorRefRd
import Derived.Test.YtknlhkkpheahlaaDoorHex1
import Derived.LaidMore
import Derived.Lib.LaidTab
import Derived.Lib.TrailingZeros
namespace Go.Proofs.YtknlhkkpheahlaaDoor
open Go.ChangeShapes Go.WideShapes Go.ChangeAt Go.RowKit Go.Deep

/-- The library's table of which base 16 reads one cell. -/
abbrev Tab64 (w : World) : Prop := Lib.TabIs Tryd.prog w "math/bits.deBruijn64tab" .u8 (List.map (fun n : Nat => (n : Int)) Lib.deBruijn64tab)
theorem Tab64.tz {w : World} (h : Tab64 w) : Tz16 w := by
  have hc := Lib.TabIs.cell h (show Tryd.prog.globalNamed "math/bits.deBruijn64tab" = some 4 by kernel_rfl) 15 (by decide)
  have hc' : w.cell? ⟨4, 15, none⟩ = some (.int .u8 4) := by
    rw [hc]; rfl
  refine ⟨?_, hc'⟩
  rcases Nat.lt_or_ge 4 w.heap.size with hl | hl
  · exact hl
  · simp [World.cell?, Array.getElem?_eq_none hl] at hc'

theorem cfg_cells : Tryd.prog.cellsOf 45 = 11 := by kernel_rfl
theorem int_cells : Tryd.prog.cellsOf 3 = 1 := by kernel_rfl

set_option maxRecDepth 100000 in
theorem open_cfg {H : Type} {enc : TypeId × Value → H} {r : Reach} {b0 : Nat} {w : World} {base : Nat} {held : Bool} {v : Value} {d : DataW H} {p : List MemPlace}
    (hv : Value.okWide Tryd.prog w r b0 45 v) (h : DataW.Trod enc Tryd.prog w base (fun _ => true) held 45 v d p) : ∃ c : Cfg, v = cfgV c ∧ CfgIn w c := by
  obtain ⟨vs, rfl, hlen, hf⟩ := open_struct Tryd.underlying45 (by kernel_rfl) (by kernel_rfl) hv h
  obtain ⟨x0, y0, n0, e0, t0⟩ := hf 0 _ rfl
  obtain ⟨x1, y1, n1, e1, t1⟩ := hf 1 _ rfl
  obtain ⟨x2, y2, n2, e2, t2⟩ := hf 2 _ rfl
  obtain ⟨x3, y3, n3, e3, t3⟩ := hf 3 _ rfl
  obtain ⟨x4, y4, n4, e4, t4⟩ := hf 4 _ rfl
  obtain ⟨x5, y5, n5, e5, t5⟩ := hf 5 _ rfl
  obtain ⟨x6, y6, n6, e6, t6⟩ := hf 6 _ rfl
  obtain ⟨x7, y7, n7, e7, t7⟩ := hf 7 _ rfl
  obtain ⟨x8, y8, n8, e8, t8⟩ := hf 8 _ rfl
  obtain ⟨x9, y9, n9, e9, t9⟩ := hf 9 _ rfl
  obtain ⟨x10, y10, n10, e10, t10⟩ := hf 10 _ rfl
  obtain ⟨a0, q0, _, _⟩ := DataW.trod_int Tryd.underlying3 t0
  simp only [List.cons.injEq, and_true] at q0
  subst q0
  obtain ⟨a1, q1, _, _⟩ := DataW.trod_int Tryd.underlying3 t1
  simp only [List.cons.injEq, and_true] at q1
  subst q1
  obtain ⟨a2, q2, _, _⟩ := DataW.trod_int Tryd.underlying3 t2
  simp only [List.cons.injEq, and_true] at q2
  subst q2
  obtain ⟨a3, q3, _, _⟩ := DataW.trod_int Tryd.underlying3 t3
  simp only [List.cons.injEq, and_true] at q3
  subst q3
  obtain ⟨a4, q4, _, _⟩ := DataW.trod_int Tryd.underlying3 t4
  simp only [List.cons.injEq, and_true] at q4
  subst q4
  obtain ⟨a5, q5, _, _⟩ := DataW.trod_int Tryd.underlying3 t5
  simp only [List.cons.injEq, and_true] at q5
  subst q5
  obtain ⟨a6, q6, _, _⟩ := DataW.trod_int Tryd.underlying3 t6
  simp only [List.cons.injEq, and_true] at q6
  subst q6
  obtain ⟨a7, q7, _, _⟩ := DataW.trod_int Tryd.underlying3 t7
  simp only [List.cons.injEq, and_true] at q7
  subst q7
  obtain ⟨a8, q8, _, _⟩ := DataW.trod_int Tryd.underlying3 t8
  simp only [List.cons.injEq, and_true] at q8
  subst q8
  obtain ⟨a9, q9, _, _⟩ := DataW.trod_int Tryd.underlying3 t9
  simp only [List.cons.injEq, and_true] at q9
  subst q9
  obtain ⟨A, l, cap, rfl, hR, hm, _, _⟩ := rd_ints Tryd.underlying43 Tryd.underlying3 int_cells t10
  refine ⟨⟨a0, a1, a2, a3, a4, a5, a6, a7, a8, a9, l, A, cap⟩, ?_, hR, hm⟩
  have hl11 : vs.length = 11 := hlen
  match vs, hl11 with
  | [b0, b1, b2, b3, b4, b5, b6, b7, b8, b9, b10], _ =>
    simp only [List.getElem?_cons_zero, List.getElem?_cons_succ, Option.some.injEq] at e0 e1 e2 e3 e4 e5 e6 e7 e8 e9 e10
    subst e0 e1 e2 e3 e4 e5 e6 e7 e8 e9 e10
    rfl


section
variable {H : Type} {enc : TypeId × Value → H} {w : World} {base : Nat} {held : Bool}

set_option maxRecDepth 100000 in
theorem ref_arg {v : Value} {d : DataW H} {p : List MemPlace} (hv : Value.okWide Tryd.prog w .any base 48 v) (h : DataW.Trod enc Tryd.prog w 0 (fun _ => true) held 48 v d p) :
    ∃ r : Rf, v = rfV r ∧ In64 r.index ∧ In64 r.tag := by
  obtain ⟨cs, rfl, _⟩ := okWide_struct Tryd.underlying48 hv
  obtain ⟨n, hn⟩ := h
  obtain ⟨cs⟩ := cs
  have hn : DataW.trod enc Tryd.prog w 0 (fun _ => true) held n 48 cs = some (d, p) := hn
  have hl := fld_len Tryd.underlying48 hn
  rw [show Tryd.prog.cellsOf 48 = 2 by kernel_rfl] at hl
  have c1 : Tryd.prog.cellsOf 3 = 1 := by kernel_rfl
  obtain ⟨_, _, h0⟩ := fld Tryd.underlying48 hn 0 0 1 3 rfl c1
  obtain ⟨_, _, h1⟩ := fld Tryd.underlying48 hn 1 1 1 3 rfl c1
  obtain ⟨z0, e0, w0⟩ := leaf_int Tryd.underlying3 h0
  obtain ⟨z1, e1, w1⟩ := leaf_int Tryd.underlying3 h1
  refine ⟨⟨z0, z1⟩, ?_, in64_of w0, in64_of w1⟩
  match cs, hl with
  | [a0, a1], _ =>
    simp at e0 e1
    subst e0 e1
    rfl

set_option maxRecDepth 100000 in
theorem word_arg {v : Value} {d : DataW H} {p : List MemPlace} (hv : Value.okWide Tryd.prog w .any base 46 v) (h : DataW.Trod enc Tryd.prog w 0 (fun _ => true) held 46 v d p) :
    ∃ u : Nat, v = .int .u64 (u : Int) ∧ u < 18446744073709551616 := by
  obtain ⟨z, e1, e2, _, hw⟩ := open_int Tryd.underlying46 hv h
  simp only [Lit.wf, Bool.and_eq_true, decide_eq_true_eq] at hw
  obtain ⟨h1, h2⟩ := hw
  obtain ⟨u, rfl⟩ := Int.eq_ofNat_of_zero_le h1
  exact ⟨u, e1, by have := Int.lt_of_le_of_lt h2 (show _ < (18446744073709551616 : Int) by decide); omega⟩
end

end Go.Proofs.YtknlhkkpheahlaaDoor

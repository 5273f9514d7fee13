/- How calls and what they came to are opened, as arguments. -/
import Derived.Test.YtknlhkkpheahlaaDoorOpenW
import Derived.Test.YtknlhkkpheahlaaDoorCsp1
import Derived.Test.YtknlhkkpheahlaaDoorCsp3
namespace Go.Proofs.YtknlhkkpheahlaaDoor
open Go.ChangeShapes Go.WideShapes Go.ChangeAt Go.RowKit Go.Deep

section
variable {H : Type} {enc : TypeId × Value → H} {w : World} {base : Nat} {held : Bool}

theorem in64_of {z : Int} (h : (Lit.int .i64 z).wf = true) : In64 z := by
  exact bounds_i64 h

set_option maxRecDepth 100000 in
theorem int_arg {t : TypeId} {v : Value} {d : DataW H} {p : List MemPlace} (ht : Tryd.prog.underlying t = some (.int .i64)) (hv : Value.okWide Tryd.prog w .any base t v) (h : DataW.Trod enc Tryd.prog w 0 (fun _ => true) held t v d p) :
    ∃ z : Int, v = .int .i64 z ∧ d = .lit (.int .i64 z) ∧ In64 z := by
  obtain ⟨z, e1, e2, _, hw⟩ := open_int ht hv h
  exact ⟨z, e1, e2, in64_of hw⟩

theorem open_case {n : Nat} {cs : List Value} {y : DataW H × List MemPlace} (h : DataW.trod enc Tryd.prog w 0 (fun _ => true) held n 66 cs = some y) : ∃ a : Cse, cs = a.cells ∧ In64 a.dir ∧ In64 a.handle ∧ In64 a.value := by
  have hl := fld_len Tryd.underlying66 h
  rw [show Tryd.prog.cellsOf 66 = 3 by kernel_rfl] at hl
  have c1 : Tryd.prog.cellsOf 3 = 1 := by kernel_rfl
  obtain ⟨_, _, h0⟩ := fld Tryd.underlying66 h 0 0 1 3 rfl c1
  obtain ⟨_, _, h1⟩ := fld Tryd.underlying66 h 1 1 1 3 rfl c1
  obtain ⟨_, _, h2⟩ := fld Tryd.underlying66 h 2 2 1 3 rfl c1
  obtain ⟨z0, e0, w0⟩ := leaf_int Tryd.underlying3 h0
  obtain ⟨z1, e1, w1⟩ := leaf_int Tryd.underlying3 h1
  obtain ⟨z2, e2, w2⟩ := leaf_int Tryd.underlying3 h2
  refine ⟨⟨z0, z1, z2⟩, ?_, in64_of w0, in64_of w1, in64_of w2⟩
  match cs, hl with
  | [a0, a1, a2], _ =>
    simp at e0 e1 e2
    subst e0 e1 e2
    rfl

theorem open_req {n : Nat} {cs : List Value} {y : DataW H × List MemPlace} (h : DataW.trod enc Tryd.prog w 0 (fun _ => true) held n 24 cs = some y) (hf : Fit Tryd.prog 24 y.1) :
    ∃ (q : Reqr) (l : List Cse), cs = q.cells ∧ ReqAt w q l ∧ (∀ a ∈ l, In64 a.dir ∧ In64 a.handle ∧ In64 a.value) ∧ l.length * 24 ≤ 140737488351232 ∧ q.n ≤ q.c ∧ In64 q.kind ∧ In64 q.arg ∧ In64 q.value := by
  have hl := fld_len Tryd.underlying24 h
  rw [show Tryd.prog.cellsOf 24 = 5 by kernel_rfl] at hl
  have c1 : Tryd.prog.cellsOf 3 = 1 := by kernel_rfl
  have cb : Tryd.prog.cellsOf 4 = 1 := by kernel_rfl
  have cs1 : Tryd.prog.cellsOf 22 = 1 := by kernel_rfl
  obtain ⟨_, _, h0⟩ := fld Tryd.underlying24 h 0 0 1 3 rfl c1
  obtain ⟨_, _, h1⟩ := fld Tryd.underlying24 h 1 1 1 3 rfl c1
  obtain ⟨_, _, h2⟩ := fld Tryd.underlying24 h 2 2 1 3 rfl c1
  obtain ⟨_, _, h3⟩ := fld Tryd.underlying24 h 3 3 1 4 rfl cb
  obtain ⟨y4, _, h4, f4⟩ := fldW Tryd.underlying24 h hf 4 4 1 22 rfl cs1
  obtain ⟨z0, e0, w0⟩ := leaf_int Tryd.underlying3 h0
  obtain ⟨z1, e1, w1⟩ := leaf_int Tryd.underlying3 h1
  obtain ⟨z2, e2, w2⟩ := leaf_int Tryd.underlying3 h2
  obtain ⟨z3, e3⟩ := leaf_bool Tryd.underlying4 h3
  obtain ⟨x4, e4, h4'⟩ := leaf_sliceW Tryd.underlying22 h4
  obtain ⟨A, l, cap, rfl, hR, _, hcap, _, hok, hsz⟩ := rd_recsW (α := Cse) (fun a => In64 a.dir ∧ In64 a.handle ∧ In64 a.value) Tryd.underlying22 (by kernel_rfl) (by decide) (fun n cs y h _ => open_case h) h4' f4
  rw [show Tryd.prog.bytesOf 66 = 24 by kernel_rfl] at hsz
  refine ⟨⟨z0, z1, z2, z3, A, l.length, cap⟩, l, ?_, ⟨rfl, hR⟩, hok, ?_, hcap, in64_of w0, in64_of w1, in64_of w2⟩
  · match cs, hl with
    | [a0, a1, a2, a3, a4], _ =>
      simp at e0 e1 e2 e3 e4
      subst e0 e1 e2 e3 e4
      rfl
  · have : reachBytes = 140737488351232 := rfl
    omega

set_option maxRecDepth 100000 in
theorem req_arg {v : Value} {d : DataW H} {p : List MemPlace} (hv : Value.okWide Tryd.prog w .any base 24 v) (h : DataW.Trod enc Tryd.prog w 0 (fun _ => true) held 24 v d p) (hf : Fit Tryd.prog 24 d) :
    ∃ (q : Reqr) (l : List Cse), v = reqV q ∧ ReqAt w q l ∧ HandlesOk l ∧ l.length ≤ 1099511627776000 ∧ (∀ a ∈ l, In64 a.dir ∧ In64 a.handle ∧ In64 a.value) ∧ l.length * 24 ≤ 140737488351232 ∧ q.n ≤ q.c ∧ In64 q.kind ∧ In64 q.arg ∧ In64 q.value := by
  obtain ⟨cs, rfl, _⟩ := okWide_struct Tryd.underlying24 hv
  obtain ⟨n, hn⟩ := h
  obtain ⟨q, l, e, h1, h2, h3, h4⟩ := open_req hn hf
  have e' : cs.toList = q.cells := e
  refine ⟨q, l, ?_, h1, fun a ha => (h2 a ha).2.1, by omega, h2, h3, h4⟩
  obtain ⟨cs⟩ := cs
  simp only at e'
  subst e'
  rfl

set_option maxRecDepth 100000 in
theorem res_arg {v : Value} {d : DataW H} {p : List MemPlace} (hv : Value.okWide Tryd.prog w .any base 27 v) (h : DataW.Trod enc Tryd.prog w 0 (fun _ => true) held 27 v d p) :
    ∃ r : Resr, v = rsV r ∧ In64 r.seq ∧ In64 r.case_ ∧ In64 r.code ∧ In64 r.value := by
  obtain ⟨cs, rfl, _⟩ := okWide_struct Tryd.underlying27 hv
  obtain ⟨n, hn⟩ := h
  obtain ⟨cs⟩ := cs
  have hn : DataW.trod enc Tryd.prog w 0 (fun _ => true) held n 27 cs = some (d, p) := hn
  have hl := fld_len Tryd.underlying27 hn
  rw [show Tryd.prog.cellsOf 27 = 4 by kernel_rfl] at hl
  have c1 : Tryd.prog.cellsOf 3 = 1 := by kernel_rfl
  have ce : Tryd.prog.cellsOf 25 = 1 := by kernel_rfl
  obtain ⟨_, _, h0⟩ := fld Tryd.underlying27 hn 0 0 1 3 rfl c1
  obtain ⟨_, _, h1⟩ := fld Tryd.underlying27 hn 1 1 1 3 rfl c1
  obtain ⟨_, _, h2⟩ := fld Tryd.underlying27 hn 2 2 1 25 rfl ce
  obtain ⟨_, _, h3⟩ := fld Tryd.underlying27 hn 3 3 1 3 rfl c1
  obtain ⟨z0, e0, w0⟩ := leaf_int Tryd.underlying3 h0
  obtain ⟨z1, e1, w1⟩ := leaf_int Tryd.underlying3 h1
  obtain ⟨z2, e2, w2⟩ := leaf_int Tryd.underlying25 h2
  obtain ⟨z3, e3, w3⟩ := leaf_int Tryd.underlying3 h3
  refine ⟨⟨z0, z1, z2, z3⟩, ?_, in64_of w0, in64_of w1, in64_of w2, in64_of w3⟩
  match cs, hl with
  | [a0, a1, a2, a3], _ =>
    simp at e0 e1 e2 e3
    subst e0 e1 e2 e3
    rfl
set_option maxRecDepth 100000 in
theorem cases_arg {v : Value} {d : DataW H} {p : List MemPlace} (hv : Value.okWide Tryd.prog w .any base 22 v) (h : DataW.Trod enc Tryd.prog w 0 (fun _ => true) held 22 v d p) (hf : Fit Tryd.prog 22 d) :
    ∃ (A : Option Addr) (l : List Cse) (c : Nat), v = .slice A l.length c ∧ Rd w A (rows l) ∧ l.length ≤ c ∧ l.length * 24 ≤ 140737488351232 ∧ (∀ a ∈ l, In64 a.dir ∧ In64 a.handle ∧ In64 a.value) := by
  obtain ⟨A0, n0, c0, rfl⟩ := okWide_slice Tryd.underlying22 hv
  obtain ⟨n, hn⟩ := h
  obtain ⟨A, l, cap, e, hR, _, hcap, _, hok, hsz⟩ := rd_recsW (α := Cse) (fun a => In64 a.dir ∧ In64 a.handle ∧ In64 a.value) Tryd.underlying22 (by kernel_rfl) (by decide) (fun n cs y h _ => open_case h) hn hf
  rw [show Tryd.prog.bytesOf 66 = 24 by kernel_rfl] at hsz
  exact ⟨A, l, cap, e, hR, hcap, by have : reachBytes = 140737488351232 := rfl; omega, hok⟩

set_option maxRecDepth 100000 in
theorem bool_arg {t : TypeId} {v : Value} {d : DataW H} {p : List MemPlace} (ht : Tryd.prog.underlying t = some .bool) (hv : Value.okWide Tryd.prog w .any base t v) (h : DataW.Trod enc Tryd.prog w 0 (fun _ => true) held t v d p) : ∃ b : Bool, v = .bool b := by
  obtain ⟨b, e, _⟩ := open_bool ht hv h
  exact ⟨b, e⟩
end

end Go.Proofs.YtknlhkkpheahlaaDoor

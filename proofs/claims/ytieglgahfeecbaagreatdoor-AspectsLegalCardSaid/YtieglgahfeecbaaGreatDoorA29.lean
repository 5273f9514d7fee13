/- Of a queue, a history that some order explains tells nothing that a queue can't have told: the statement AspectsLegal, whole: for every input the call returns true, and what came in reads as before. Conditions: none but what the row lists: the library's tables, tied to the program's text. -/
import Derived.Test.YtieglgahfeecbaaGreatDoorA28
import Derived.Test.YtieglgahfeecbaaGreatDoorA1
import Derived.Test.YtieglgahfeecbaaGreatDoorA10
import Derived.Test.YtieglgahfeecbaaGreatDoorA20
import Derived.Test.YtieglgahfeecbaaGreatDoorA14
import Derived.Test.YtieglgahfeecbaaGreatDoorA2
import Derived.LaidMore
import Derived.Lib.LaidTab
import Derived.Lib.TrailingZeros
import Derived.SizedLaws
import Derived.Test.YtieglgahfeecbaaGreatDoorCards
import Derived.Test.YtieglgahfeecbaaGreatDoorTie
import Derived.Deep.DeepHandedRow
import Derived.Stop.LaidErr
namespace Go.Proofs.YtieglgahfeecbaaGreatDoor
open Go.ChangeShapes Go.WideShapes Go.ChangeAt Go.RowKit Go.Deep

section
variable {H : Type} {enc : TypeId × Value → H} {P : Program} {w : World} {base : Nat} {spare : Nat → Bool} {held : Bool}

theorem addr_add (b o k : Nat) : (Addr.add ⟨b, o, none⟩ k) = ⟨b, o + k, none⟩ := by
  unfold Addr.add; split
  · simp_all
  · rfl

/-- A field's cells read as its type. -/
theorem fld {e : TypeId} {fs : Array Field} {n : Nat} {cs : List Value} {y : DataW H × List MemPlace} (he : P.underlying e = some (.struct fs)) (h : DataW.trod enc P w base spare held n e cs = some y) (j o c : Nat) (t : TypeId)
    (hj : fs[j]?.map (fun f => (f.offset, f.type)) = some (o, t)) (hc : P.cellsOf t = c) : ∃ y' n', DataW.trod enc P w base spare held n' t ((cs.drop o).take c) = some y' := by
  obtain ⟨xs, m, _, _, _, hlen, hg⟩ := DataW.trod_struct he h
  obtain ⟨f, hf, hp⟩ := Option.map_eq_some_iff.1 hj
  simp only [Prod.mk.injEq] at hp
  obtain ⟨rfl, rfl⟩ := hp
  have h1 := hg j f hf
  have hjl : j < fs.size := (Array.getElem?_eq_some_iff.1 hf).1
  rw [hc, List.getElem?_eq_getElem (by omega)] at h1
  exact ⟨_, m, h1⟩

theorem fld_len {e : TypeId} {fs : Array Field} {n : Nat} {cs : List Value} {y : DataW H × List MemPlace} (he : P.underlying e = some (.struct fs)) (h : DataW.trod enc P w base spare held n e cs = some y) : cs.length = P.cellsOf e := by
  obtain ⟨_, _, _, _, hl, _⟩ := DataW.trod_struct he h
  exact hl

theorem take1 {cs : List Value} {o : Nat} {v : Value} (h : (cs.drop o).take 1 = [v]) : cs[o]? = some v := by
  have := congrArg (fun l : List Value => l[0]?) h
  simpa [List.getElem?_take] using this

theorem leaf_int {t : TypeId} {k : IntKind} {n o : Nat} {cs : List Value} {y : DataW H × List MemPlace} (ht : P.underlying t = some (.int k)) (h : DataW.trod enc P w base spare held n t ((cs.drop o).take 1) = some y) : ∃ z, cs[o]? = some (.int k z) ∧ (Lit.int k z).wf = true := by
  obtain ⟨z, e, _, hw⟩ := DataW.trod_int ht h
  exact ⟨z, take1 e, hw⟩
theorem leaf_bool {t : TypeId} {n o : Nat} {cs : List Value} {y : DataW H × List MemPlace} (ht : P.underlying t = some .bool) (h : DataW.trod enc P w base spare held n t ((cs.drop o).take 1) = some y) : ∃ z, cs[o]? = some (.bool z) := by
  obtain ⟨z, e, _⟩ := DataW.trod_bool ht h
  exact ⟨z, take1 e⟩
theorem leaf_string {t : TypeId} {n o : Nat} {cs : List Value} {y : DataW H × List MemPlace} (ht : P.underlying t = some .string) (h : DataW.trod enc P w base spare held n t ((cs.drop o).take 1) = some y) : ∃ z : ByteArray, cs[o]? = some (.string z) ∧ z.size ≤ maxLen := by
  obtain ⟨z, e, _, hw⟩ := DataW.trod_string ht h
  exact ⟨z, take1 e, hw⟩
/-- A slice's cell, and how the slice itself reads. -/
theorem leaf_slice {t e : TypeId} {n o : Nat} {cs : List Value} {y : DataW H × List MemPlace} (ht : P.underlying t = some (.slice e)) (h : DataW.trod enc P w base spare held n t ((cs.drop o).take 1) = some y) : ∃ A l c, cs[o]? = some (.slice A l c) ∧ DataW.trod enc P w base spare held n t [.slice A l c] = some y := by
  rcases DataW.trod_slice ht h with ⟨hcs, _⟩ | ⟨a, len, cap, _, _, _, _, hcs, _⟩
  · exact ⟨_, _, _, take1 hcs, by rw [← hcs]; exact h⟩
  · exact ⟨_, _, _, take1 hcs, by rw [← hcs]; exact h⟩

theorem part_at {cs : List Value} {o c i : Nat} {v : Value} (h : ((cs.drop o).take c)[i]? = some v) : cs[o + i]? = some v := by
  rw [List.getElem?_take] at h
  split at h
  · simpa using h
  · cases h

/-- A slice of records that came in, as a list. -/
theorem rd_recs {α : Type} [C : Cellful α] (Ok : α → Prop) {t e : TypeId} {n : Nat} {x : Value} {y : DataW H × List MemPlace} (ht : P.underlying t = some (.slice e)) (hC : P.cellsOf e = C.s) (hpos : 0 < C.s)
    (hopen : ∀ (n : Nat) (cs : List Value) (y : DataW H × List MemPlace), DataW.trod enc P w base (fun _ => true) held n e cs = some y → ∃ a : α, cs = C.cells a ∧ Ok a)
    (h : DataW.trod enc P w base (fun _ => true) held n t [x] = some y) :
    ∃ (A : Option Addr) (l : List α) (cap : Nat), x = .slice A l.length cap ∧ Rd w A (rows l) ∧ l.length ≤ maxLen ∧ l.length ≤ cap ∧ (A = none → cap = 0) ∧ ∀ a ∈ l, Ok a := by
  rcases open_slice ht h with ⟨hcs, _⟩ | ⟨a, len, cap, m, n', D, Pl, hcs, _, hl, hm, hmm, _, hi⟩
  · simp only [List.cons.injEq, and_true] at hcs
    exact ⟨none, [], 0, hcs, .inl rfl, by simp, by simp, fun _ => rfl, by simp⟩
  · simp only [List.cons.injEq, and_true] at hcs
    simp only [if_true] at hmm
    rw [hC] at hi
    have hall : ∀ i, i < len → ∃ b : α, (∀ j, j < C.s → w.cell? ((a.add (i * C.s)).add j) = (C.cells b)[j]?) ∧ Ok b := by
      intro i hil
      obtain ⟨cs', hc, ht'⟩ := hi i (by omega)
      obtain ⟨b, rfl, hb⟩ := hopen _ _ _ ht'
      obtain ⟨_, _, hat⟩ := World.cells?_some hc
      exact ⟨b, fun j hj => hat j hj, hb⟩
    have hall' : ∀ i, ∃ b : α, i < len → (∀ j, j < C.s → w.cell? ((a.add (i * C.s)).add j) = (C.cells b)[j]?) ∧ Ok b := fun i => by
      by_cases hil : i < len
      · obtain ⟨b, hb⟩ := hall i hil
        exact ⟨b, fun _ => hb⟩
      · exact ⟨C.dflt, fun h => absurd h hil⟩
    obtain ⟨g, hg⟩ := Classical.axiomOfChoice hall'
    have hlen : ((List.range len).map g).length = len := by simp
    refine ⟨some a, (List.range len).map g, cap, by rw [hlen]; exact hcs, ?_, by omega, by omega, (fun h => by cases h), fun b hb => ?_⟩
    · rcases Nat.eq_zero_or_pos len with h0 | h0
      · left; simp [h0, rows]
      · right
        have c0 := (hg 0 h0).1 0 hpos
        have hsome : ∃ v, (C.cells (g 0))[0]? = some v := ⟨_, List.getElem?_eq_getElem (by rw [C.len]; exact hpos)⟩
        obtain ⟨v0, hv0⟩ := hsome
        rw [hv0] at c0
        obtain ⟨b, o, sp⟩ := a
        have hsp := spot_of_cell c0
        have hsp' : sp = none := by
          cases sp with
          | none => rfl
          | some s => simp [Addr.add] at hsp
        subst hsp'
        rw [addr_add, addr_add] at c0
        refine ⟨b, o, rfl, block_lt_of_cell c0, fun k v hk' => ?_⟩
        have hkl : k < len * C.s := by
          have := (List.getElem?_eq_some_iff.1 hk').1
          rw [rows_length, hlen] at this
          exact this
        have hd : k / C.s * C.s + k % C.s = k := by rw [Nat.mul_comm]; exact Nat.div_add_mod k C.s
        have hq : k / C.s < len := (Nat.div_lt_iff_lt_mul hpos).2 hkl
        have hr : k % C.s < C.s := Nat.mod_lt _ hpos
        have hat := rows_at (l := (List.range len).map g) (k := k / C.s) (by omega) (k % C.s) hr
        rw [hd, hk'] at hat
        have hgd : ((List.range len).map g).getD (k / C.s) C.dflt = g (k / C.s) := by
          simp [List.getD, hq]
        rw [hgd] at hat
        have hck := (hg (k / C.s) hq).1 (k % C.s) hr
        rw [addr_add, addr_add, Nat.add_assoc, hd, ← hat] at hck
        exact hck
    · simp only [List.mem_map, List.mem_range] at hb
      obtain ⟨i, hil, rfl⟩ := hb
      exact (hg i hil).2
end

end Go.Proofs.YtieglgahfeecbaaGreatDoor

namespace Go.Proofs.YtieglgahfeecbaaGreatDoor
open Go.ChangeShapes Go.WideShapes Go.ChangeAt Go.RowKit Go.Deep

section
variable {H : Type} {enc : TypeId × Value → H} {w : World} {held : Bool}

theorem open_cse {n : Nat} {cs : List Value} {y : DataW H × List MemPlace} (h : DataW.trod enc Tryz.prog w 0 (fun _ => true) held n 100 cs = some y) : ∃ a : Cse, cs = a.cells := by
  have hl := fld_len Tryz.underlying100 h
  rw [show Tryz.prog.cellsOf 100 = 3 by kernel_rfl] at hl
  have c1 : Tryz.prog.cellsOf 3 = 1 := by kernel_rfl
  obtain ⟨_, _, h0⟩ := fld Tryz.underlying100 h 0 0 1 3 rfl c1
  obtain ⟨_, _, h1⟩ := fld Tryz.underlying100 h 1 1 1 3 rfl c1
  obtain ⟨_, _, h2⟩ := fld Tryz.underlying100 h 2 2 1 3 rfl c1
  obtain ⟨z0, e0, _⟩ := leaf_int Tryz.underlying3 h0
  obtain ⟨z1, e1, _⟩ := leaf_int Tryz.underlying3 h1
  obtain ⟨z2, e2, _⟩ := leaf_int Tryz.underlying3 h2
  refine ⟨⟨z0, z1, z2⟩, ?_⟩
  match cs, hl with
  | [a0, a1, a2], _ =>
    simp at e0 e1 e2
    subst e0 e1 e2
    rfl

set_option maxRecDepth 100000 in
theorem open_noteQ {n : Nat} {cs : List Value} {y : DataW H × List MemPlace} (h : DataW.trod enc Tryz.prog w 0 (fun _ => true) held n 44 cs = some y) : ∃ a : Nte, cs = a.cells ∧ (Lit.int .i64 a.thread).wf = true ∧ ∃ l, ReqAt w a.q l := by
  have hl := fld_len Tryz.underlying44 h
  rw [show Tryz.prog.cellsOf 44 = 13 by kernel_rfl] at hl
  have c1 : Tryz.prog.cellsOf 3 = 1 := by kernel_rfl
  have cb : Tryz.prog.cellsOf 4 = 1 := by kernel_rfl
  have cr : Tryz.prog.cellsOf 40 = 5 := by kernel_rfl
  have cq : Tryz.prog.cellsOf 42 = 4 := by kernel_rfl
  have cs1 : Tryz.prog.cellsOf 38 = 1 := by kernel_rfl
  have ce : Tryz.prog.cellsOf 27 = 1 := by kernel_rfl
  obtain ⟨_, _, h0⟩ := fld Tryz.underlying44 h 0 0 1 3 rfl c1
  obtain ⟨_, _, h1⟩ := fld Tryz.underlying44 h 1 1 1 3 rfl c1
  obtain ⟨_, _, h2⟩ := fld Tryz.underlying44 h 2 2 1 3 rfl c1
  obtain ⟨_, _, h3⟩ := fld Tryz.underlying44 h 3 3 1 3 rfl c1
  obtain ⟨_, _, hr⟩ := fld Tryz.underlying44 h 4 4 5 40 rfl cr
  obtain ⟨_, _, hq⟩ := fld Tryz.underlying44 h 5 9 4 42 rfl cq
  obtain ⟨_, _, r0⟩ := fld Tryz.underlying40 hr 0 0 1 3 rfl c1
  obtain ⟨_, _, r1⟩ := fld Tryz.underlying40 hr 1 1 1 3 rfl c1
  obtain ⟨_, _, r2⟩ := fld Tryz.underlying40 hr 2 2 1 3 rfl c1
  obtain ⟨_, _, r3⟩ := fld Tryz.underlying40 hr 3 3 1 4 rfl cb
  obtain ⟨_, _, r4⟩ := fld Tryz.underlying40 hr 4 4 1 38 rfl cs1
  obtain ⟨_, _, q0⟩ := fld Tryz.underlying42 hq 0 0 1 3 rfl c1
  obtain ⟨_, _, q1⟩ := fld Tryz.underlying42 hq 1 1 1 3 rfl c1
  obtain ⟨_, _, q2⟩ := fld Tryz.underlying42 hq 2 2 1 27 rfl ce
  obtain ⟨_, _, q3⟩ := fld Tryz.underlying42 hq 3 3 1 3 rfl c1
  obtain ⟨z0, e0, _⟩ := leaf_int Tryz.underlying3 h0
  obtain ⟨z1, e1, w1⟩ := leaf_int Tryz.underlying3 h1
  obtain ⟨z2, e2, _⟩ := leaf_int Tryz.underlying3 h2
  obtain ⟨z3, e3, _⟩ := leaf_int Tryz.underlying3 h3
  obtain ⟨z4, e4, _⟩ := leaf_int Tryz.underlying3 r0
  obtain ⟨z5, e5, _⟩ := leaf_int Tryz.underlying3 r1
  obtain ⟨z6, e6, _⟩ := leaf_int Tryz.underlying3 r2
  obtain ⟨z7, e7⟩ := leaf_bool Tryz.underlying4 r3
  obtain ⟨z8, l8, c8, e8, h8⟩ := leaf_slice Tryz.underlying38 r4
  obtain ⟨z9, e9, _⟩ := leaf_int Tryz.underlying3 q0
  obtain ⟨z10, e10, _⟩ := leaf_int Tryz.underlying3 q1
  obtain ⟨z11, e11, _⟩ := leaf_int Tryz.underlying27 q2
  obtain ⟨z12, e12, _⟩ := leaf_int Tryz.underlying3 q3
  obtain ⟨A, l, cap, ex, hR, _⟩ := rd_recs (α := Cse) (fun _ => True) Tryz.underlying38 (by kernel_rfl) (by decide) (fun n cs y h => by
    obtain ⟨a, h1⟩ := open_cse h
    exact ⟨a, h1, trivial⟩) h8
  injection ex with x1 x2 x3
  subst x1 x2 x3
  replace e4 := part_at e4
  replace e5 := part_at e5
  replace e6 := part_at e6
  replace e7 := part_at e7
  replace e8 := part_at e8
  replace e9 := part_at e9
  replace e10 := part_at e10
  replace e11 := part_at e11
  replace e12 := part_at e12
  refine ⟨⟨z0, z1, z2, z3, z4, z5, z6, z7, z8, l.length, c8, z9, z10, z11, z12⟩, ?_, w1, l, ⟨rfl, hR⟩⟩
  match cs, hl with
  | [a0, a1, a2, a3, a4, a5, a6, a7, a8, a9, a10, a11, a12], _ =>
    simp at e0 e1 e2 e3 e4 e5 e6 e7 e8 e9 e10 e11 e12
    subst e0 e1 e2 e3 e4 e5 e6 e7 e8 e9 e10 e11 e12
    rfl
set_option maxRecDepth 100000 in
theorem notes_arg {v : Value} {d : DataW H} {p : List MemPlace} {base : Nat} (hv : Value.okWide Tryz.prog w .any base 25 v) (h : DataW.Trod enc Tryz.prog w 0 (fun _ => true) held 25 v d p) :
    ∃ (A : Option Addr) (l : List Nte) (c : Nat), v = .slice A l.length c ∧ Rd w A (rows l) ∧ l.length ≤ maxLen ∧ ThreadsOk l ∧ ∀ a ∈ l, ∃ cs, ReqAt w a.q cs := by
  obtain ⟨a0, l0, c0, rfl⟩ := okWide_slice Tryz.underlying25 hv
  obtain ⟨n0, h0⟩ := h
  obtain ⟨A1, l, cap1, e0, hR1, hm1, _, _, hok⟩ := rd_recs (fun a : Nte => (Lit.int .i64 a.thread).wf = true ∧ ∃ cs, ReqAt w a.q cs) Tryz.underlying25 (by kernel_rfl) (by decide) (fun n cs y h => open_noteQ h) h0
  exact ⟨A1, l, cap1, e0, hR1, hm1, fun a ha => (hok a ha).1, fun a ha => (hok a ha).2⟩
end

theorem nts_plain {w : World} : ∀ (NS : List Nte), (∀ a ∈ NS, ∃ l, ReqAt w a.q l) → ∃ PS : List NtP, PS.length = NS.length ∧ ∀ k, k < NS.length → ∃ cs, ReqAt w (NS.getD k Nte.none).q cs ∧ PS.getD k NtP.none = (NS.getD k Nte.none).p cs
  | [], _ => ⟨[], rfl, fun k hk => absurd hk (by simp)⟩
  | a :: r, h => by
    obtain ⟨PS, h1, h2⟩ := nts_plain r (fun b hb => h b (List.mem_cons_of_mem _ hb))
    obtain ⟨l, h3⟩ := h a (List.mem_cons_self ..)
    refine ⟨a.p l :: PS, by simp [h1], fun k hk => ?_⟩
    cases k with
    | zero => exact ⟨l, h3, rfl⟩
    | succ k => simpa using h2 k (by simpa using hk)
theorem nts_in {w : World} {NA : Option Addr} {NS : List Nte} (hR : Rd w NA (rows NS)) (hl : NS.length ≤ 4096) (h : ∀ a ∈ NS, ∃ l, ReqAt w a.q l) : ∃ PS, NtsIn w NA NS PS := by
  obtain ⟨PS, h1, h2⟩ := nts_plain NS h
  exact ⟨PS, hR, h1, hl, h2⟩
theorem NtsIn.like {w : World} {NA : Option Addr} {NS : List Nte} {PS : List NtP} (h : NtsIn w NA NS PS) : Like NS PS := ⟨h.len, fun k hk => by
  obtain ⟨cs, _, h2⟩ := h.is_ k hk
  exact ⟨cs, h2⟩⟩

end Go.Proofs.YtieglgahfeecbaaGreatDoor

namespace Go.Proofs.YtieglgahfeecbaaGreatDoor
open Go.RowKit Go.Sort
attribute [local go_sem ↓] Go.wp_at_zero Go.wp_at_succ

theorem startO_few {c : Cfg} (hk : ¬ c.kind = 3) : (startO c).length ≤ 1048576 := by
  unfold startO
  split
  · rename_i hc
    have hf := startC_fit hc
    have hb := chk_kind hc
    try rw [if_neg hk]
    rw [putC, if_pos ((fitsC_iff hc hk).2 hf), cellsI_len]
    have := hf.ndn
    omega
  · simp

set_option maxHeartbeats 16000000 in
set_option maxRecDepth 100000 in
theorem LawAL_any (c : Cfg) (NA : Option Addr) (nc : Nat) (NS : List Nte) (w : World) (hc : CfgIn w c) (hok : ThreadsOk NS) (hR : Rd w NA (rows NS)) (hq : ∀ a ∈ NS, ∃ l, ReqAt w a.q l) (hz : Tz16 w) :
    Calls Tryz.prog 5 #[cfgV c, .slice NA NS.length nc] w fun e w' => e = .returned (.bool true) ∧ Below w.heap.size w w' := by
  have HB0 := Lib.hid ((Below.refl w.heap.size w).alloc (Nat.le_refl _) (.cells #[.int .i64 c.kind, .int .i64 c.threads, .int .i64 c.chans, .int .i64 c.cap, .int .i64 c.nodes, .int .i64 c.retire, .int .i64 c.patience, .int .i64 c.tags, .int .i64 c.seqs, .int .i64 c.gens, .slice c.sa c.start.length c.sc] 24))
  have HBC := Lib.hid (BoxC.new w c)
  by_cases h60 : 60 < NS.length
  · have d1 : (60 : Int) < (NS.length : Int) := by omega
    generalize NS.length = n at *
    clear hc hok hR hq hz h60
    unfold cfgV
    go_enter Tryz.func5, Tryz.ntmps5
    go_wp2_with (refine (awake43_any _).mono ?_; rintro e w1 ⟨rfl, hb1⟩; have HB1 := Lib.hid (HB0.out.trans (hb1.mono HB0.out.size)); clear hb1)
    go_ret
    exact ⟨rfl, HB1.out⟩
  have d1 : ¬ (60 : Int) < (NS.length : Int) := by omega
  by_cases h6 : 6 < c.threads
  · generalize NS.length = n at *
    clear hc hok hR hq hz h60
    unfold cfgV
    go_enter Tryz.func5, Tryz.ntmps5
    go_wp2_with (refine (awake43_any _).mono ?_; rintro e w1 ⟨rfl, hb1⟩; have HB1 := Lib.hid (HB0.out.trans (hb1.mono HB0.out.size)); clear hb1)
    go_ret
    exact ⟨rfl, HB1.out⟩
  by_cases hk : c.kind = 1
  case neg =>
    have d3 : (c.kind == 1) = false := by simp [hk]
    generalize NS.length = n at *
    clear hc hok hR hq hz h60 hk
    unfold cfgV
    go_enter Tryz.func5, Tryz.ntmps5
    go_wp2_with (refine (awake43_any _).mono ?_; rintro e w1 ⟨rfl, hb1⟩; have HB1 := Lib.hid (HB0.out.trans (hb1.mono HB0.out.size)); clear hb1)
    go_ret
    exact ⟨rfl, HB1.out⟩
  have d3 : (c.kind == 1) = true := by simp [hk]
  obtain ⟨PS, hN⟩ := nts_in (NA := NA) hR (by omega) hq
  have hcl := fun (hck : checkS c PS = 0) => (checkS_ok hck).1
  have hfw : (startO c).length ≤ 1048576 := startO_few (by omega)
  have HLG := Lib.hid (fun W (hb : Below w.heap.size w W) => hLegal_any c NA nc NS PS W (objOk_fifo c hk) (hc.below hb) (hN.below hb) (by omega) (by omega) (hz.below hb) hfw)
  have HWR := Lib.hid (fun W (hb : Below w.heap.size w W) => Wrong_any NA nc NS W (by omega) hok (hR.below hb))
  have HRT : RowKit.Hid (checkS c PS = 0 → legalB c PS → wrongS (callsS NS) = false) := Lib.hid (fun h1 h2 => legal_right hk hN.like h1 h2)
  unfold RetLegal at HLG
  generalize hE : checkS c PS = E at *
  have HNL : RowKit.Hid (NS.length = NS.length) := Lib.hid rfl
  generalize NS.length = n at *
  generalize callsS NS = K at *
  have h6' : ¬ 6 < c.threads := h6
  clear hc hok hR hq hz h60 hk hN hcl hfw hE HNL h6
  unfold cfgV at HLG ⊢
  by_cases he : E = 0
  · subst he
    go_enter Tryz.func5, Tryz.ntmps5
    go_upto_region 4 with (go_at_call 7
                           refine (HLG.out _ HB0.out).mono ?_
                           rintro e w1 ⟨b, rfl, hb, hb1⟩
                           have HB1 := Lib.hid (HB0.out.trans (hb1.mono HB0.out.size))
                           have HBL := Lib.hid hb
                           clear hb hb1)
    cases b
    · go_wp2_with (refine (awake43_any _).mono ?_; rintro e w2 ⟨rfl, hb2⟩; have HB2 := Lib.hid (HB1.out.trans (hb2.mono HB1.out.size)); clear hb2)
      go_ret
      exact ⟨rfl, HB2.out⟩
    · have HRF := Lib.hid (HRT.out (by trivial) (HBL.out.1 rfl).2)
      rw [HRF.out] at HWR
      go_wp2_with (first
        | (go_at_call 13
           refine (HWR.out _ HB1.out).mono ?_; rintro e w3 ⟨rfl, hb3⟩; have HB3 := Lib.hid (HB1.out.trans (hb3.mono HB1.out.size)); clear hb3)
        | (refine (awake43_any _).mono ?_; rintro e w2 ⟨rfl, hb2⟩; have HB2 := Lib.hid (HB3.out.trans (hb2.mono HB3.out.size)); clear hb2))
      go_ret
      exact ⟨rfl, HB2.out⟩
  · have hne : (E == 0) = false := by simpa using he
    have hne2 : (E != 0) = true := by simpa using he
    go_enter Tryz.func5, Tryz.ntmps5
    go_upto_region 4 with (go_at_call 7
                           refine (HLG.out _ HB0.out).mono ?_
                           rintro e w1 ⟨b, rfl, hb, hb1⟩
                           have HB1 := Lib.hid (HB0.out.trans (hb1.mono HB0.out.size))
                           clear hb hb1)
    go_wp2_with (refine (awake43_any _).mono ?_; rintro e w2 ⟨rfl, hb2⟩; have HB2 := Lib.hid (HB1.out.trans (hb2.mono HB1.out.size)); clear hb2)
    go_ret
    exact ⟨rfl, HB2.out⟩

end Go.Proofs.YtieglgahfeecbaaGreatDoor

namespace Go.Proofs.YtieglgahfeecbaaGreatDoor
open Go.ChangeShapes Go.WideShapes Go.ChangeAt Go.RowKit Go.Deep

theorem cfg_cells : Tryz.prog.cellsOf 24 = 11 := by kernel_rfl
theorem int_cells : Tryz.prog.cellsOf 3 = 1 := by kernel_rfl

set_option maxRecDepth 100000 in
theorem open_cfg {H : Type} {enc : TypeId × Value → H} {r : Reach} {b0 : Nat} {w : World} {base : Nat} {held : Bool} {v : Value} {d : DataW H} {p : List MemPlace}
    (hv : Value.okWide Tryz.prog w r b0 24 v) (h : DataW.Trod enc Tryz.prog w base (fun _ => true) held 24 v d p) : ∃ c : Cfg, v = cfgV c ∧ CfgIn w c := by
  obtain ⟨vs, rfl, hlen, hf⟩ := open_struct Tryz.underlying24 (by kernel_rfl) (by kernel_rfl) hv h
  obtain ⟨x0, y0, n0, e0, t0⟩ := hf 0 _ rfl
  obtain ⟨x1, y1, n1, e1, t1⟩ := hf 1 _ rfl
  obtain ⟨x2, y2, n2, e2, t2⟩ := hf 2 _ rfl
  obtain ⟨x3, y3, n3, e3, t3⟩ := hf 3 _ rfl
  obtain ⟨x4, y4, n4, e4, t4⟩ := hf 4 _ rfl
  obtain ⟨x5, y5, n5, e5, t5⟩ := hf 5 _ rfl
  obtain ⟨x6, y6, n6, e6, t6⟩ := hf 6 _ rfl
  obtain ⟨x7, y7, n7, e7, t7⟩ := hf 7 _ rfl
  obtain ⟨x8, y8, n8, e8, t8⟩ := hf 8 _ rfl
  obtain ⟨x9, y9, n9, e9, t9⟩ := hf 9 _ rfl
  obtain ⟨x10, y10, n10, e10, t10⟩ := hf 10 _ rfl
  obtain ⟨a0, q0, _, _⟩ := DataW.trod_int Tryz.underlying3 t0
  simp only [List.cons.injEq, and_true] at q0
  subst q0
  obtain ⟨a1, q1, _, _⟩ := DataW.trod_int Tryz.underlying3 t1
  simp only [List.cons.injEq, and_true] at q1
  subst q1
  obtain ⟨a2, q2, _, _⟩ := DataW.trod_int Tryz.underlying3 t2
  simp only [List.cons.injEq, and_true] at q2
  subst q2
  obtain ⟨a3, q3, _, _⟩ := DataW.trod_int Tryz.underlying3 t3
  simp only [List.cons.injEq, and_true] at q3
  subst q3
  obtain ⟨a4, q4, _, _⟩ := DataW.trod_int Tryz.underlying3 t4
  simp only [List.cons.injEq, and_true] at q4
  subst q4
  obtain ⟨a5, q5, _, _⟩ := DataW.trod_int Tryz.underlying3 t5
  simp only [List.cons.injEq, and_true] at q5
  subst q5
  obtain ⟨a6, q6, _, _⟩ := DataW.trod_int Tryz.underlying3 t6
  simp only [List.cons.injEq, and_true] at q6
  subst q6
  obtain ⟨a7, q7, _, _⟩ := DataW.trod_int Tryz.underlying3 t7
  simp only [List.cons.injEq, and_true] at q7
  subst q7
  obtain ⟨a8, q8, _, _⟩ := DataW.trod_int Tryz.underlying3 t8
  simp only [List.cons.injEq, and_true] at q8
  subst q8
  obtain ⟨a9, q9, _, _⟩ := DataW.trod_int Tryz.underlying3 t9
  simp only [List.cons.injEq, and_true] at q9
  subst q9
  obtain ⟨A, l, cap, rfl, hR, hm, _, _⟩ := rd_ints Tryz.underlying22 Tryz.underlying3 int_cells t10
  refine ⟨⟨a0, a1, a2, a3, a4, a5, a6, a7, a8, a9, l, A, cap⟩, ?_, hR, hm⟩
  have hl11 : vs.length = 11 := hlen
  match vs, hl11 with
  | [b0, b1, b2, b3, b4, b5, b6, b7, b8, b9, b10], _ =>
    simp only [List.getElem?_cons_zero, List.getElem?_cons_succ, Option.some.injEq] at e0 e1 e2 e3 e4 e5 e6 e7 e8 e9 e10
    subst e0 e1 e2 e3 e4 e5 e6 e7 e8 e9 e10
    rfl


end Go.Proofs.YtieglgahfeecbaaGreatDoor

namespace Go.Proofs.YtieglgahfeecbaaGreatDoor
open Go.ChangeShapes Go.WideShapes Go.ChangeAt Go.RowKit Go.Deep

/-- The library's table of which base 16 reads one cell. -/
abbrev Tab64 (w : World) : Prop := Lib.TabIs Tryz.prog w "math/bits.deBruijn64tab" .u8 (List.map (fun n : Nat => (n : Int)) Lib.deBruijn64tab)
theorem Tab64.tz {w : World} (h : Tab64 w) : Tz16 w := by
  have hc := Lib.TabIs.cell h (show Tryz.prog.globalNamed "math/bits.deBruijn64tab" = some 2 by kernel_rfl) 15 (by decide)
  have hc' : w.cell? ⟨2, 15, none⟩ = some (.int .u8 4) := by
    rw [hc]; rfl
  refine ⟨?_, hc'⟩
  rcases Nat.lt_or_ge 2 w.heap.size with hl | hl
  · exact hl
  · simp [World.cell?, Array.getElem?_eq_none hl] at hc'

end Go.Proofs.YtieglgahfeecbaaGreatDoor

namespace Go.Proofs.YtieglgahfeecbaaGreatDoor
open Go.ChangeShapes Go.WideShapes Go.ChangeAt Go.RowKit Go.Deep

section
variable {H : Type} {enc : TypeId × Value → H} {P : Program} {w : World} {base : Nat} {spare : Nat → Bool} {held : Bool}

/-- All that it reads is within the form's reach. -/
def Fit (P : Program) (t : TypeId) (d : DataW H) : Prop := (d.weights P t).all (· ≤ reachBytes) = true

theorem fit_cons {t : TypeId} {ts : List TypeId} {d : DataW H} {ds : List (DataW H)} (h : (DataW.weightsEach P (t :: ts) (d :: ds)).all (· ≤ reachBytes) = true) : Fit P t d ∧ (DataW.weightsEach P ts ds).all (· ≤ reachBytes) = true := by
  simp only [DataW.weightsEach, List.all_append, Bool.and_eq_true] at h
  exact h

/-- A field's cells read as its type. -/
theorem fldW {e : TypeId} {fs : Array Field} {n : Nat} {cs : List Value} {y : DataW H × List MemPlace} (he : P.underlying e = some (.struct fs)) (h : DataW.trod enc P w base spare held n e cs = some y) (hf : Fit P e y.1) (j o c : Nat) (t : TypeId)
    (hj : fs[j]?.map (fun f => (f.offset, f.type)) = some (o, t)) (hc : P.cellsOf t = c) : ∃ y' n', DataW.trod enc P w base spare held n' t ((cs.drop o).take c) = some y' ∧ Fit P t y'.1 := by
  obtain ⟨xs, m, _, hx, _, hlen, hg⟩ := DataW.trod_struct he h
  obtain ⟨f, hff, hp⟩ := Option.map_eq_some_iff.1 hj
  simp only [Prod.mk.injEq] at hp
  obtain ⟨rfl, rfl⟩ := hp
  have h1 := hg j f hff
  have hjl : j < fs.size := (Array.getElem?_eq_some_iff.1 hff).1
  rw [hc, List.getElem?_eq_getElem (by omega)] at h1
  refine ⟨_, m, h1, ?_⟩
  subst hx
  unfold Fit at hf ⊢
  simp only [DataW.weights, he] at hf
  refine List.all_eq_true.2 fun a ha => List.all_eq_true.1 hf a (DataW.weights_mem_each (j := j) (t := f.type) ?_ ?_ a ha)
  · rw [List.getElem?_map, Array.getElem?_toList, hff]; rfl
  · rw [List.getElem?_map, List.getElem?_eq_getElem (by omega)]; rfl

theorem fit_elems {e : TypeId} : ∀ (l : List (DataW H)), (DataW.weightsAll P e l).all (· ≤ reachBytes) = true → ∀ d ∈ l, Fit P e d
  | [], _, _, h => by simp at h
  | a :: l, h, d, hd => by
    simp only [DataW.weightsAll, List.all_append, Bool.and_eq_true] at h
    rcases List.mem_cons.1 hd with rfl | hd
    · exact h.1
    · exact fit_elems l h.2 d hd

/-- A slice of records that came in, as a list. -/
theorem rd_recsW {α : Type} [C : Cellful α] (Ok : α → Prop) {t e : TypeId} {n : Nat} {x : Value} {y : DataW H × List MemPlace} (ht : P.underlying t = some (.slice e)) (hC : P.cellsOf e = C.s) (hpos : 0 < C.s)
    (hopen : ∀ (n : Nat) (cs : List Value) (y : DataW H × List MemPlace), DataW.trod enc P w base (fun _ => true) held n e cs = some y → Fit P e y.1 → ∃ a : α, cs = C.cells a ∧ Ok a)
    (h : DataW.trod enc P w base (fun _ => true) held n t [x] = some y) (hf : Fit P t y.1) :
    ∃ (A : Option Addr) (l : List α) (cap : Nat), x = .slice A l.length cap ∧ Rd w A (rows l) ∧ l.length ≤ maxLen ∧ l.length ≤ cap ∧ (A = none → cap = 0) ∧ (∀ a ∈ l, Ok a) ∧ cap * P.bytesOf e ≤ reachBytes := by
  rcases open_slice ht h with ⟨hcs, _⟩ | ⟨a, len, cap, m, n', D, Pl, hcs, _, hl, hm, hmm, hx, hi⟩
  · simp only [List.cons.injEq, and_true] at hcs
    exact ⟨none, [], 0, hcs, .inl rfl, by simp, by simp, fun _ => rfl, by simp, by simp⟩
  · simp only [List.cons.injEq, and_true] at hcs
    simp only [if_true] at hmm
    subst hmm
    rw [hx] at hf
    unfold Fit at hf
    simp only [DataW.weights, ht, List.all_cons, List.all_append, Bool.and_eq_true, decide_eq_true_eq, List.length_map, List.length_range] at hf
    obtain ⟨hsz, hf1, hf2⟩ := hf
    have hfit : ∀ i, i < len → Fit P e (D i) := fun i hil => fit_elems _ hf1 (D i) (List.mem_map.2 ⟨i, List.mem_range.2 hil, rfl⟩)
    rw [hC] at hi
    have hall : ∀ i, i < len → ∃ b : α, (∀ j, j < C.s → w.cell? ((a.add (i * C.s)).add j) = (C.cells b)[j]?) ∧ Ok b := by
      intro i hil
      obtain ⟨cs', hc, ht'⟩ := hi i (by omega)
      obtain ⟨b, rfl, hb⟩ := hopen _ _ _ ht' (hfit i hil)
      obtain ⟨_, _, hat⟩ := World.cells?_some hc
      exact ⟨b, fun j hj => hat j hj, hb⟩
    have hall' : ∀ i, ∃ b : α, i < len → (∀ j, j < C.s → w.cell? ((a.add (i * C.s)).add j) = (C.cells b)[j]?) ∧ Ok b := fun i => by
      by_cases hil : i < len
      · obtain ⟨b, hb⟩ := hall i hil
        exact ⟨b, fun _ => hb⟩
      · exact ⟨C.dflt, fun h => absurd h hil⟩
    obtain ⟨g, hg⟩ := Classical.axiomOfChoice hall'
    have hlen : ((List.range len).map g).length = len := by simp
    refine ⟨some a, (List.range len).map g, m, by rw [hlen]; exact hcs, ?_, by omega, by omega, (fun h => by cases h), fun b hb => ?_, by rw [show len + (m - len) = m by omega] at hsz; exact hsz⟩
    · rcases Nat.eq_zero_or_pos len with h0 | h0
      · left; simp [h0, rows]
      · right
        have c0 := (hg 0 h0).1 0 hpos
        have hsome : ∃ v, (C.cells (g 0))[0]? = some v := ⟨_, List.getElem?_eq_getElem (by rw [C.len]; exact hpos)⟩
        obtain ⟨v0, hv0⟩ := hsome
        rw [hv0] at c0
        obtain ⟨b, o, sp⟩ := a
        have hsp := spot_of_cell c0
        have hsp' : sp = none := by
          cases sp with
          | none => rfl
          | some s => simp [Addr.add] at hsp
        subst hsp'
        rw [addr_add, addr_add] at c0
        refine ⟨b, o, rfl, block_lt_of_cell c0, fun k v hk' => ?_⟩
        have hkl : k < len * C.s := by
          have := (List.getElem?_eq_some_iff.1 hk').1
          rw [rows_length, hlen] at this
          exact this
        have hd : k / C.s * C.s + k % C.s = k := by rw [Nat.mul_comm]; exact Nat.div_add_mod k C.s
        have hq : k / C.s < len := (Nat.div_lt_iff_lt_mul hpos).2 hkl
        have hr : k % C.s < C.s := Nat.mod_lt _ hpos
        have hat := rows_at (l := (List.range len).map g) (k := k / C.s) (by omega) (k % C.s) hr
        rw [hd, hk'] at hat
        have hgd : ((List.range len).map g).getD (k / C.s) C.dflt = g (k / C.s) := by
          simp [List.getD, hq]
        rw [hgd] at hat
        have hck := (hg (k / C.s) hq).1 (k % C.s) hr
        rw [addr_add, addr_add, Nat.add_assoc, hd, ← hat] at hck
        exact hck
    · simp only [List.mem_map, List.mem_range] at hb
      obtain ⟨i, hil, rfl⟩ := hb
      exact (hg i hil).2

theorem leaf_sliceW {t e : TypeId} {n o : Nat} {cs : List Value} {y : DataW H × List MemPlace} (ht : P.underlying t = some (.slice e)) (h : DataW.trod enc P w base spare held n t ((cs.drop o).take 1) = some y) : ∃ x, cs[o]? = some x ∧ DataW.trod enc P w base spare held n t [x] = some y := by
  obtain ⟨A, l, c, e1, e2⟩ := leaf_slice ht h
  exact ⟨_, e1, e2⟩
end

end Go.Proofs.YtieglgahfeecbaaGreatDoor

namespace Go.Proofs.YtieglgahfeecbaaGreatDoor
open Go.ChangeShapes Go.WideShapes Go.ChangeAt Go.RowKit Go.Deep

theorem aspectsLegal_tab64 {W : World} (h : laidMetH Tryz.prog Rows.aspectsLegalRow.laid W) : Tab64 W := by
  have h' : laidMet Tryz.prog Rows.aspectsLegalRow.laid W := h
  exact Lib.tabIs_of_head (rest := [("internal/strconv.uint64pow10", Rows.laid_internal_strconv_uint64pow10)]) (show Tryz.prog.globalNamed "math/bits.deBruijn64tab" = some 2 by kernel_rfl) (show (Tryz.prog.globals[2]?).map (·.type) = some 241 by kernel_rfl) Tryz.underlying241 Tryz.underlying5 (by kernel_rfl) (by kernel_rfl) h'.tail

theorem aspectsLegal_met (os : Os) : laidMet Tryz.prog Rows.aspectsLegalRow.laid ((World.doorLaid Tryz.prog 31 os).forCall (fun _ _ => 0) ⟨#[], #[.agg #[.int .i64 0, .int .i64 0, .int .i64 0, .int .i64 0, .int .i64 0, .int .i64 0, .int .i64 0, .int .i64 0, .int .i64 0, .int .i64 0, .slice none 0 0], .slice none 0 0], []⟩).memory :=
  laidMet_of_run' 8 (by kernel_rfl) (by kernel_rfl)
theorem aspectsLegal_reads (os : Os) {H : Type} (enc : TypeId × Value → H) : ∃ places, DataW.whole enc Tryz.prog ((World.doorLaid Tryz.prog 31 os).forCall (fun _ _ => 0) ⟨#[], #[.agg #[.int .i64 0, .int .i64 0, .int .i64 0, .int .i64 0, .int .i64 0, .int .i64 0, .int .i64 0, .int .i64 0, .int .i64 0, .int .i64 0, .slice none 0 0], .slice none 0 0], []⟩).memory Tryz.f5.params.toList Rows.aspectsLegalSpec.vars false (#[.agg #[.int .i64 0, .int .i64 0, .int .i64 0, .int .i64 0, .int .i64 0, .int .i64 0, .int .i64 0, .int .i64 0, .int .i64 0, .int .i64 0, .slice none 0 0], .slice none 0 0] : Array Value).toList 8 = some ([.agg [.lit (.int .i64 0), .lit (.int .i64 0), .lit (.int .i64 0), .lit (.int .i64 0), .lit (.int .i64 0), .lit (.int .i64 0), .lit (.int .i64 0), .lit (.int .i64 0), .lit (.int .i64 0), .lit (.int .i64 0), .nil], .nil], [], places) :=
  ⟨[], by kernel_rfl⟩

set_option maxRecDepth 100000 in
theorem aspectsLegal_lifted (os : Os) (started : os.Started) (H : Type) (enc : TypeId × Value → H) (F : Stop.Interp) :
    ReturnsInHanded {} Tryz.checked os 5 .any ((OpenSpec.ofChange Rows.aspectsLegalSpec).preRow enc Tryz.prog Tryz.f5 Rows.aspectsLegalRow.domain false Rows.aspectsLegalRow.laid) (((OpenSpec.ofChange Rows.aspectsLegalSpec).at F).post enc Tryz.prog Tryz.f5 false true false false) := by
  obtain ⟨places, hx⟩ := aspectsLegal_reads os enc
  refine returnsInHanded_of_row (C := Tryz.checked) (s := OpenSpec.ofChange Rows.aspectsLegalSpec) own_knob started (by kernel_rfl) Tryz.func5
    (witness_row_at (enc := enc) (C := Tryz.checked) false (World.doorLaid Tryz.prog 31 os) #[.agg #[.int .i64 0, .int .i64 0, .int .i64 0, .int .i64 0, .int .i64 0, .int .i64 0, .int .i64 0, .int .i64 0, .int .i64 0, .int .i64 0, .slice none 0 0], .slice none 0 0] rfl (by kernel_rfl) (by kernel_rfl) (by kernel_rfl)
      (OpenSpec.preRow_of_cond 8 hx (by kernel_rfl) (fun k hk => by cases hk) (by kernel_rfl) (aspectsLegal_met os))) ?_
  intro W base args ds gs before hval0 hW _ _ hsz0 hL _ _
  have hval : ∀ (j : Nat) t v, Tryz.f5.params[j]? = some t → args[j]? = some v → Value.okWide Tryz.prog W .any base t v := hval0
  have hW' := hW
  obtain ⟨p, q, hA0, hV, rfl, hfz, hnd⟩ := hW
  have hA : DataW.TrodAll enc Tryz.prog W 0 (fun _ => true) true Tryz.f5.params.toList args.toList ds p := hA0
  obtain ⟨rfl, rfl⟩ := trodVars_none hV
  have hsz : (DataW.weightsEach Tryz.prog (Tryz.f5.params.toList ++ []) (ds ++ [])).all (· ≤ reachBytes) = true := hsz0
  rw [List.append_nil, List.append_nil] at hsz
  rw [Tryz.params5] at hA hval hsz
  simp only at hA hsz
  obtain ⟨v0, vs0, d0, ds0, p0, q0, hargs0, rfl, rfl, h0, r0⟩ := trodAll_cons hA
  obtain ⟨v1, vs1, d1, ds1, p1, q1, hargs1, rfl, rfl, h1, r1⟩ := trodAll_cons r0
  obtain ⟨rfl, rfl, rfl⟩ := trodAll_nil r1
  subst hargs1
  obtain rfl : args = #[v0, v1] := by cases args; simp_all
  obtain ⟨f0, hz⟩ := fit_cons hsz
  obtain ⟨f1, hz⟩ := fit_cons hz
  clear hA0 hval0 hsz0 hsz hz
  obtain ⟨c, rfl, hcf⟩ := open_cfg (hval 0 24 v0 rfl rfl) h0
  obtain ⟨A, l, cap, rfl, hR, _, hok, hq⟩ := notes_arg (hval 1 25 v1 rfl rfl) h1
  have hT64 := aspectsLegal_tab64 hL
  refine (LawAL_any c A cap l W hcf hok hR hq hT64.tz).mono fun e W' ⟨he, hb⟩ => ?_
  subst he
  exact ⟨_, rfl, law_post laid_out (by kernel_rfl) (by kernel_rfl) Tryz.underlying4 rfl hW' rfl hb⟩

theorem aspectsLegal_said : Rows.AspectsLegalSaid :=
  OpenClaim.holds_of_cond 5 Tryz.f5 rfl rfl rfl rfl rfl rfl rfl ⟨rfl, rfl, rfl, rfl, rfl⟩ rfl rfl rfl rfl rfl (by kernel_rfl) Tryz.func5 (by kernel_rfl)
    (of_decide_eq_true (by kernel_rfl)) (by unfold Func.isWrapper; first | (rw [if_pos (by decide +kernel)]; kernel_rfl) | (rw [if_neg (by decide +kernel)]; exact ⟨rfl, rfl⟩))
    (fun os started H enc _ F => by rw [OpenClaim.pre_eq_preRow]; exact aspectsLegal_lifted os started H enc F)

theorem aspectsLegal_plain (f : FuncId) (fn : Func) (hf : Tryz.pinned.checked.prog.funcNamed "stopgate/stopgatelaw43.AspectsLegal" = some f) (hfn : Tryz.pinned.checked.prog.funcs[f]? = some fn) :
    false = Tryz.pinned.checked.prog.looks [] ∧ ∀ (j : Nat) t, fn.params[j]? = some t → Tryz.pinned.checked.prog.wantsStandIn t = false := by
  obtain rfl : f = 5 := Option.some.inj ((show Tryz.prog.funcNamed "stopgate/stopgatelaw43.AspectsLegal" = some 5 by kernel_rfl).symm.trans hf) |>.symm
  obtain rfl : fn = Tryz.f5 := (Option.some.inj (Tryz.func5.symm.trans hfn)).symm
  refine ⟨by kernel_rfl, fun j t ht => ?_⟩
  rw [Tryz.params5] at ht
  have hm : t ∈ [24, 25] := by simpa using Array.mem_of_getElem? ht
  have hall : ([24, 25].all fun u => !Tryz.prog.wantsStandIn u) = true := by kernel_rfl
  exact (show Tryz.prog.wantsStandIn t = false by simpa using List.all_eq_true.1 hall t hm)

theorem aspectsLegal_holds : Rows.AspectsLegalCardSaid :=
  Claim7.holds_tied_plain_at .later [] _ _ _ _ aspectsLegal_said (fun _ h => by cases h) (by kernel_rfl) (fun _ h => by cases h) aspectsLegal_row_tie rfl ⟨rfl, rfl⟩ (by kernel_rfl) rfl aspectsLegal_plain (by kernel_rfl)

end Go.Proofs.YtieglgahfeecbaaGreatDoor

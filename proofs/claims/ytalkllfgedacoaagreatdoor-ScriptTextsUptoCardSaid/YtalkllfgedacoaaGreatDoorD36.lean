/- Events are said the same both ways, and so is a call: the statement ScriptTexts, its second form: for every input of bulk at most 1048576 the call returns true, and what came in reads as before. Conditions: what came in is of bulk at most 1048576; what the row lists: the library's tables, tied to the program's text. -/
import Derived.Test.YtalkllfgedacoaaGreatDoorD2
import Derived.Test.YtalkllfgedacoaaGreatDoorD29
import Derived.Test.YtalkllfgedacoaaGreatDoorD13
import Derived.Test.YtalkllfgedacoaaGreatDoorCards
import Derived.Test.YtalkllfgedacoaaGreatDoorTie
import Derived.Test.YtalkllfgedacoaaGreatDoorD35
import Derived.Deep.DeepHandedRow
import Derived.LaidMore
import Derived.Stop.LaidErr
namespace Go.Proofs.YtalkllfgedacoaaGreatDoor
open Go.ChangeShapes Go.WideShapes Go.ChangeAt Go.RowKit Go.Deep

theorem bulk_pos {H : Type} (d : DataW H) : 1 ≤ Rows.uptoBulk d := by
  cases d with
  | lit l => cases l <;> simp [Rows.uptoBulk]
  | _ => simp [Rows.uptoBulk]
theorem bulk_len {H : Type} : ∀ (l : List (DataW H)), l.length ≤ Rows.uptoBulkAll l
  | [] => by simp [Rows.uptoBulkAll]
  | d :: r => by
    have h1 := bulk_len r
    have h2 := bulk_pos d
    simp only [Rows.uptoBulkAll, List.length_cons]
    omega
theorem bulk_in {H : Type} {d : DataW H} : ∀ {l : List (DataW H)}, d ∈ l → Rows.uptoBulk d + l.length ≤ Rows.uptoBulkAll l + 1
  | x :: r, h => by
    simp only [Rows.uptoBulkAll, List.length_cons]
    rcases List.mem_cons.1 h with rfl | h
    · have := bulk_len r; omega
    · have h1 := bulk_in h
      have h2 := bulk_pos x
      omega

section
variable {H : Type} {enc : TypeId × Value → H} {P : Program} {w : World} {base : Nat} {spare : Nat → Bool} {held : Bool}

/-- A slice of records that came in, as a list, no longer than the bulk. -/
theorem rd_recsN {α : Type} [C : Cellful α] (Ok : α → Prop) {t e : TypeId} {n : Nat} {x : Value} {y : DataW H × List MemPlace} (ht : P.underlying t = some (.slice e)) (hC : P.cellsOf e = C.s) (hpos : 0 < C.s)
    (hopen : ∀ (n : Nat) (cs : List Value) (y : DataW H × List MemPlace), DataW.trod enc P w base (fun _ => true) held n e cs = some y → ∃ a : α, cs = C.cells a ∧ Ok a)
    (h : DataW.trod enc P w base (fun _ => true) held n t [x] = some y) :
    ∃ (A : Option Addr) (l : List α) (cap : Nat), x = .slice A l.length cap ∧ Rd w A (rows l) ∧ (∀ a ∈ l, Ok a) ∧ l.length ≤ cap ∧ l.length + 1 ≤ Rows.uptoBulk y.1 := by
  have hx := open_slice ht h
  obtain ⟨A, l, cap, rfl, hR, _, hcap, _, hok⟩ := rd_recs Ok ht hC hpos hopen h
  refine ⟨A, l, cap, rfl, hR, hok, hcap, ?_⟩
  rcases hx with ⟨hcs, hy⟩ | ⟨a, len, cap', m, n', D, Pl, hcs, _, hl, hm, hmm, hy, hi⟩
  · simp only [List.cons.injEq, and_true] at hcs
    injection hcs with h1 h2 h3
    have := bulk_pos y.1
    omega
  · simp only [List.cons.injEq, and_true] at hcs
    injection hcs with h1 h2 h3
    rw [hy]
    simp only [Rows.uptoBulk]
    have h4 := bulk_len ((List.range len).map D)
    rw [List.length_map, List.length_range] at h4
    omega

/-- A field's cells read as its type, its bulk beside the others'. -/
theorem fldB {e : TypeId} {fs : Array Field} {n : Nat} {cs : List Value} {y : DataW H × List MemPlace} (he : P.underlying e = some (.struct fs)) (h : DataW.trod enc P w base spare held n e cs = some y) (j o c : Nat) (t : TypeId)
    (hj : fs[j]?.map (fun f => (f.offset, f.type)) = some (o, t)) (hc : P.cellsOf t = c) : ∃ y' n', DataW.trod enc P w base spare held n' t ((cs.drop o).take c) = some y' ∧ Rows.uptoBulk y'.1 + fs.size ≤ Rows.uptoBulk y.1 := by
  obtain ⟨xs, m, _, hx, _, hlen, hg⟩ := DataW.trod_struct he h
  obtain ⟨f, hff, hp⟩ := Option.map_eq_some_iff.1 hj
  simp only [Prod.mk.injEq] at hp
  obtain ⟨rfl, rfl⟩ := hp
  have h1 := hg j f hff
  have hjl : j < fs.size := (Array.getElem?_eq_some_iff.1 hff).1
  rw [hc, List.getElem?_eq_getElem (by omega)] at h1
  refine ⟨_, m, h1, ?_⟩
  subst hx
  simp only [Rows.uptoBulk]
  have hmem : (xs[j]'(by omega)).1 ∈ xs.map (·.1) := List.mem_map.2 ⟨_, List.getElem_mem _, rfl⟩
  have := bulk_in hmem
  rw [List.length_map] at this
  have hl2 := hlen
  omega
end

section
variable {H : Type} {enc : TypeId × Value → H} {w : World} {base : Nat} {held : Bool}

set_option maxRecDepth 100000 in
theorem open_reqB {n : Nat} {cs : List Value} {y : DataW H × List MemPlace} (h : DataW.trod enc Tryz.prog w 0 (fun _ => true) held n 24 cs = some y) :
    ∃ (q : Reqr) (l : List Cse), cs = q.cells ∧ ReqAt w q l ∧ CallIn q l ∧ q.n + 6 ≤ Rows.uptoBulk y.1 ∧ q.n ≤ q.c := by
  have hl := fld_len Tryz.underlying24 h
  rw [show Tryz.prog.cellsOf 24 = 5 by kernel_rfl] at hl
  have c1 : Tryz.prog.cellsOf 3 = 1 := by kernel_rfl
  have cb : Tryz.prog.cellsOf 4 = 1 := by kernel_rfl
  have cs1 : Tryz.prog.cellsOf 22 = 1 := by kernel_rfl
  obtain ⟨_, _, h0⟩ := fld Tryz.underlying24 h 0 0 1 3 rfl c1
  obtain ⟨_, _, h1⟩ := fld Tryz.underlying24 h 1 1 1 3 rfl c1
  obtain ⟨_, _, h2⟩ := fld Tryz.underlying24 h 2 2 1 3 rfl c1
  obtain ⟨_, _, h3⟩ := fld Tryz.underlying24 h 3 3 1 4 rfl cb
  obtain ⟨y4, _, h4, f4⟩ := fldB Tryz.underlying24 h 4 4 1 22 rfl cs1
  obtain ⟨z0, e0, w0⟩ := leaf_int Tryz.underlying3 h0
  obtain ⟨z1, e1, w1⟩ := leaf_int Tryz.underlying3 h1
  obtain ⟨z2, e2, w2⟩ := leaf_int Tryz.underlying3 h2
  obtain ⟨z3, e3⟩ := leaf_bool Tryz.underlying4 h3
  obtain ⟨x4, e4, h4'⟩ := leaf_sliceW Tryz.underlying22 h4
  obtain ⟨A, l, cap, rfl, hR, hok, hcap, hb⟩ := rd_recsN (α := Cse) (fun a => In64 a.dir ∧ In64 a.handle ∧ In64 a.value) Tryz.underlying22 (by kernel_rfl) (by decide) (fun n cs y h => open_case h) h4'
  refine ⟨⟨z0, z1, z2, z3, A, l.length, cap⟩, l, ?_, ⟨rfl, hR⟩, ⟨in64_of w1, in64_of w2, fun x hx => ⟨(hok x hx).2.1, (hok x hx).2.2⟩⟩, ?_, hcap⟩
  · match cs, hl with
    | [a0, a1, a2, a3, a4], _ =>
      simp at e0 e1 e2 e3 e4
      subst e0 e1 e2 e3 e4
      rfl
  · have e5 : (5 : Nat) ≤ 5 := Nat.le_refl 5
    have f4' : Rows.uptoBulk y4.1 + 5 ≤ Rows.uptoBulk y.1 := f4
    show l.length + 6 ≤ _
    omega

end

section
variable {H : Type} {enc : TypeId × Value → H} {P : Program} {w : World} {base : Nat} {spare : Nat → Bool} {held : Bool}
/-- A slice of records that came in, as a list. -/
theorem rd_recsQ {α : Type} [C : Cellful α] (Q : DataW H → Prop) (Ok : α → Prop) {t e : TypeId} {n : Nat} {x : Value} {y : DataW H × List MemPlace} (ht : P.underlying t = some (.slice e)) (hC : P.cellsOf e = C.s) (hpos : 0 < C.s)
    (hopen : ∀ (n : Nat) (cs : List Value) (y : DataW H × List MemPlace), DataW.trod enc P w base (fun _ => true) held n e cs = some y → Q y.1 → ∃ a : α, cs = C.cells a ∧ Ok a)
    (h : DataW.trod enc P w base (fun _ => true) held n t [x] = some y) (hq : ∀ es sp, y.1 = .slice es sp → ∀ d ∈ es, Q d) :
    ∃ (A : Option Addr) (l : List α) (cap : Nat), x = .slice A l.length cap ∧ Rd w A (rows l) ∧ l.length ≤ maxLen ∧ l.length ≤ cap ∧ (A = none → cap = 0) ∧ (∀ a ∈ l, Ok a) := by
  rcases open_slice ht h with ⟨hcs, _⟩ | ⟨a, len, cap, m, n', D, Pl, hcs, _, hl, hm, hmm, hx, hi⟩
  · simp only [List.cons.injEq, and_true] at hcs
    exact ⟨none, [], 0, hcs, .inl rfl, by simp, by simp, fun _ => rfl, by simp⟩
  · simp only [List.cons.injEq, and_true] at hcs
    simp only [if_true] at hmm
    subst hmm
    have hfit : ∀ i, i < len → Q (D i) := fun i hil => hq _ _ (by rw [hx]) (D i) (List.mem_map.2 ⟨i, List.mem_range.2 hil, rfl⟩)
    rw [hC] at hi
    have hall : ∀ i, i < len → ∃ b : α, (∀ j, j < C.s → w.cell? ((a.add (i * C.s)).add j) = (C.cells b)[j]?) ∧ Ok b := by
      intro i hil
      obtain ⟨cs', hc, ht'⟩ := hi i (by omega)
      obtain ⟨b, rfl, hb⟩ := hopen _ _ _ ht' (hfit i hil)
      obtain ⟨_, _, hat⟩ := World.cells?_some hc
      exact ⟨b, fun j hj => hat j hj, hb⟩
    have hall' : ∀ i, ∃ b : α, i < len → (∀ j, j < C.s → w.cell? ((a.add (i * C.s)).add j) = (C.cells b)[j]?) ∧ Ok b := fun i => by
      by_cases hil : i < len
      · obtain ⟨b, hb⟩ := hall i hil
        exact ⟨b, fun _ => hb⟩
      · exact ⟨C.dflt, fun h => absurd h hil⟩
    obtain ⟨g, hg⟩ := Classical.axiomOfChoice hall'
    have hlen : ((List.range len).map g).length = len := by simp
    refine ⟨some a, (List.range len).map g, m, by rw [hlen]; exact hcs, ?_, by omega, by omega, (fun h => by cases h), fun b hb => ?_⟩
    · rcases Nat.eq_zero_or_pos len with h0 | h0
      · left; simp [h0, rows]
      · right
        have c0 := (hg 0 h0).1 0 hpos
        have hsome : ∃ v, (C.cells (g 0))[0]? = some v := ⟨_, List.getElem?_eq_getElem (by rw [C.len]; exact hpos)⟩
        obtain ⟨v0, hv0⟩ := hsome
        rw [hv0] at c0
        obtain ⟨b, o, sp⟩ := a
        have hsp := spot_of_cell c0
        have hsp' : sp = none := by
          cases sp with
          | none => rfl
          | some s => simp [Addr.add] at hsp
        subst hsp'
        rw [addr_add, addr_add] at c0
        refine ⟨b, o, rfl, block_lt_of_cell c0, fun k v hk' => ?_⟩
        have hkl : k < len * C.s := by
          have := (List.getElem?_eq_some_iff.1 hk').1
          rw [rows_length, hlen] at this
          exact this
        have hd : k / C.s * C.s + k % C.s = k := by rw [Nat.mul_comm]; exact Nat.div_add_mod k C.s
        have hq : k / C.s < len := (Nat.div_lt_iff_lt_mul hpos).2 hkl
        have hr : k % C.s < C.s := Nat.mod_lt _ hpos
        have hat := rows_at (l := (List.range len).map g) (k := k / C.s) (by omega) (k % C.s) hr
        rw [hd, hk'] at hat
        have hgd : ((List.range len).map g).getD (k / C.s) C.dflt = g (k / C.s) := by
          simp [List.getD, hq]
        rw [hgd] at hat
        have hck := (hg (k / C.s) hq).1 (k % C.s) hr
        rw [addr_add, addr_add, Nat.add_assoc, hd, ← hat] at hck
        exact hck
    · simp only [List.mem_map, List.mem_range] at hb
      obtain ⟨i, hil, rfl⟩ := hb
      exact (hg i hil).2

end

theorem bulk_mem {H : Type} {d : DataW H} : ∀ {l : List (DataW H)}, d ∈ l → Rows.uptoBulk d ≤ Rows.uptoBulkAll l
  | x :: r, h => by
    simp only [Rows.uptoBulkAll]
    rcases List.mem_cons.1 h with rfl | h
    · omega
    · have := bulk_mem h; omega

section
variable {H : Type} {enc : TypeId × Value → H} {P : Program} {w : World} {base : Nat} {spare : Nat → Bool} {held : Bool}

theorem slice_len {t e : TypeId} {n m c : Nat} {A : Option Addr} {y : DataW H × List MemPlace} (ht : P.underlying t = some (.slice e)) (h : DataW.trod enc P w base (fun _ => true) held n t [.slice A m c] = some y) : m + 1 ≤ Rows.uptoBulk y.1 := by
  rcases open_slice ht h with ⟨hcs, hy⟩ | ⟨a, len, cap', m', n', D, Pl, hcs, _, hl, hm, hmm, hy, hi⟩
  · simp only [List.cons.injEq, and_true] at hcs
    injection hcs with h1 h2 h3
    have := bulk_pos y.1
    omega
  · simp only [List.cons.injEq, and_true] at hcs
    injection hcs with h1 h2 h3
    rw [hy]
    simp only [Rows.uptoBulk]
    have h4 := bulk_len ((List.range len).map D)
    rw [List.length_map, List.length_range] at h4
    omega

end

end Go.Proofs.YtalkllfgedacoaaGreatDoor

namespace Go.Proofs.YtalkllfgedacoaaGreatDoor
open Go.RowKit Go.Sort

def RqIn (r : Rq) : Prop := In64 r.arg ∧ In64 r.value ∧ ∀ k ∈ r.cs, In64 k.handle ∧ In64 k.value
theorem in64_0 : In64 0 := ⟨by decide, by decide⟩
theorem in64_k {k : Int} (h : 0 ≤ k ∧ k ≤ 3) : In64 k := ⟨by omega, by omega⟩
theorem in64_nat {n : Nat} (h : n ≤ 4294967295) : In64 (n : Int) := ⟨by omega, by omega⟩
theorem tabQ_in {h : ByteArray} {m : Nat} {a b : Int} {r : Rq} (ha : In64 a) (hb : In64 b) (e : tabQ h m a b = some r) : RqIn r := by
  have key : ∀ (p : Prop) [Decidable p] (x : Rq), RqIn x → (if p then some x else none) = some r → RqIn r := fun p _ x hx hh => by
    by_cases hp : p
    · rw [if_pos hp] at hh; injection hh with hh; rw [← hh]; exact hx
    · rw [if_neg hp] at hh; cases hh
  have k0 : ∀ (kd x y : Int) (d : Bool), In64 x → In64 y → RqIn ⟨kd, x, y, d, []⟩ := fun kd x y d hx hy => ⟨hx, hy, fun k hk => by cases hk⟩
  have k1 : ∀ (kd di x y : Int) (d : Bool), In64 x → In64 y → RqIn ⟨kd, 0, 0, d, [⟨di, x, y⟩]⟩ := fun kd di x y d hx hy => ⟨in64_0, in64_0, fun k hk => by rw [List.mem_singleton.1 hk]; exact ⟨hx, hy⟩⟩
  unfold tabQ at e
  by_cases g_make : h = w_makeS
  · rw [if_pos g_make] at e; exact key _ _ (k0 _ _ _ _ ha in64_0) e
  rw [if_neg g_make] at e
  by_cases g_free : h = w_freeS
  · rw [if_pos g_free] at e; exact key _ _ (k0 _ _ _ _ ha in64_0) e
  rw [if_neg g_free] at e
  by_cases g_close : h = w_closeS
  · rw [if_pos g_close] at e; exact key _ _ (k0 _ _ _ _ ha in64_0) e
  rw [if_neg g_close] at e
  by_cases g_len : h = w_lenS
  · rw [if_pos g_len] at e; exact key _ _ (k0 _ _ _ _ ha in64_0) e
  rw [if_neg g_len] at e
  by_cases g_cap : h = w_capS
  · rw [if_pos g_cap] at e; exact key _ _ (k0 _ _ _ _ ha in64_0) e
  rw [if_neg g_cap] at e
  by_cases g_send : h = w_sendS
  · rw [if_pos g_send] at e; exact key _ _ (k1 _ _ _ _ _ ha hb) e
  rw [if_neg g_send] at e
  by_cases g_recv : h = w_recvS
  · rw [if_pos g_recv] at e; exact key _ _ (k1 _ _ _ _ _ ha in64_0) e
  rw [if_neg g_recv] at e
  by_cases g_trysend : h = w_trysendS
  · rw [if_pos g_trysend] at e; exact key _ _ (k1 _ _ _ _ _ ha hb) e
  rw [if_neg g_trysend] at e
  by_cases g_tryrecv : h = w_tryrecvS
  · rw [if_pos g_tryrecv] at e; exact key _ _ (k1 _ _ _ _ _ ha in64_0) e
  rw [if_neg g_tryrecv] at e
  by_cases g_cancel : h = w_cancelS
  · rw [if_pos g_cancel] at e; exact key _ _ (k0 _ _ _ _ ha hb) e
  rw [if_neg g_cancel] at e
  by_cases g_put : h = w_putS
  · rw [if_pos g_put] at e; exact key _ _ (k0 _ _ _ _ in64_0 ha) e
  rw [if_neg g_put] at e
  by_cases g_take : h = w_takeS
  · rw [if_pos g_take] at e; exact key _ _ (k0 _ _ _ _ in64_0 in64_0) e
  rw [if_neg g_take] at e
  cases e

theorem caseQ_in {s : ByteArray} {k : Cse} (h : caseQ s = some k) : In64 k.handle ∧ In64 k.value := by
  unfold caseQ at h
  split at h
  · cases h
  · rename_i n hn
    have hall : ∀ i, n.getD i 0 ≤ 4294967295 := fun i => by
      rw [List.getD]
      cases hi : n[i]? with
      | none => exact Nat.zero_le _
      | some z => exact numsQ_le hn z (List.mem_of_getElem? hi)
    unfold caseN at h
    split at h
    · cases h
    · split at h
      · injection h with h
        rw [← h]
        exact ⟨in64_nat (hall 0), in64_nat (hall 1)⟩
      · split at h
        · injection h with h
          rw [← h]
          exact ⟨in64_nat (hall 0), in64_0⟩
        · cases h
theorem casesQ_in : ∀ {l : List ByteArray} {x : List Cse}, casesQ l = some x → ∀ k ∈ x, In64 k.handle ∧ In64 k.value
  | [], x, h => by rw [casesQ] at h; injection h with h; subst h; exact fun k hk => by cases hk
  | s :: r, x, h => by
    rw [casesQ] at h
    cases hq : caseQ s with
    | none => rw [hq] at h; cases h
    | some n =>
      rw [hq] at h
      cases hr : casesQ r with
      | none => rw [hr] at h; cases h
      | some y =>
        rw [hr] at h
        injection h with h
        subst h
        intro k hk
        rcases List.mem_cons.1 hk with rfl | hk
        · exact caseQ_in hq
        · exact casesQ_in hr k hk
theorem callQ_in {l : List ByteArray} {r : Rq} (h : callQ l = some r) : RqIn r := by
  unfold callQ at h
  split at h
  · cases h
  · split at h
    · unfold selQ selN at h
      split at h
      · cases h
      · rename_i hc
        split at h
        · injection h with h
          subst h
          exact ⟨in64_0, in64_0, casesQ_in hc⟩
        · cases h
    · split at h
      · cases h
      · rename_i n hn
        unfold wordN at h
        split at h
        · cases h
        · have hall : ∀ i, n.getD i 0 ≤ 4294967295 := fun i => by
            rw [List.getD]
            cases hi : n[i]? with
            | none => exact Nat.zero_le _
            | some z => exact numsQ_le hn z (List.mem_of_getElem? hi)
          exact tabQ_in (in64_nat (hall 0)) (in64_nat (hall 1)) h

theorem okE_in {e : Ev} (h : okE e = true) : EvIn e := by
  unfold okE at h
  rw [Bool.and_eq_true, decide_eq_true_eq] at h
  obtain ⟨⟨t1, t2⟩, h2⟩ := h
  have ht : In64 e.thread := ⟨by omega, by omega⟩
  by_cases k1 : e.kind = 1
  · rw [if_pos k1, decide_eq_true_eq] at h2
    rw [h2]
    exact ⟨in64_k (k := 1) (by decide), ht, in64_0, in64_0, (fun k hk => by cases hk), Nat.zero_le _, in64_0, (fun k hk => by cases hk), Nat.zero_le _⟩
  · rw [if_neg k1] at h2
    by_cases k2 : e.kind = 2
    · rw [if_pos k2, decide_eq_true_eq] at h2
      have hc := (sayR_back h2.1).1
      have hl := callQ_len hc
      obtain ⟨i1, i2, i3⟩ := callQ_in hc
      rw [h2.2]
      exact ⟨in64_k (k := 2) (by decide), ht, i1, i2, i3, (by show e.rq.cs.length ≤ _; omega), in64_0, (fun k hk => by cases hk), Nat.zero_le _⟩
    · rw [if_neg k2] at h2
      by_cases k3 : e.kind = 3
      · rw [if_pos k3, Bool.and_eq_true, decide_eq_true_eq] at h2
        have hs := h2.1
        unfold startQ at hs
        rw [Bool.and_eq_true, Bool.and_eq_true, Bool.and_eq_true, decide_eq_true_eq] at hs
        have hh : ∀ x : Int, handQ x = true → In64 x := fun x hx => by
          unfold handQ at hx
          rw [decide_eq_true_eq] at hx
          exact ⟨by omega, by omega⟩
        rw [h2.2]
        exact ⟨in64_k (k := 3) (by decide), ht, in64_0, in64_0, (fun k hk => by cases hk), Nat.zero_le _, hh _ hs.1.1.1, (fun n hn => hh n (List.all_eq_true.1 hs.1.2 n hn)), (by show e.outs.length ≤ _; have := hs.1.1.2; omega)⟩
      · rw [if_neg k3] at h2
        cases h2
theorem readQ_in {s : ByteArray} {l : List Ev} (h : readQ s = .right l) : ∀ e ∈ l, EvIn e ∧ EvSm e := by
  have hs := readQ_small h
  unfold readQ at h
  split at h
  · cases h
  · have h1 := (read_cost _ 0 [] l (by rw [List.nil_append]; exact h)).2
    exact fun e he => ⟨okE_in (h1 e he).1, hs e he⟩

end Go.Proofs.YtalkllfgedacoaaGreatDoor

namespace Go.Proofs.YtalkllfgedacoaaGreatDoor
open Go.ChangeShapes Go.WideShapes Go.ChangeAt Go.RowKit Go.Deep

section
variable {H : Type} {enc : TypeId × Value → H} {w : World} {base : Nat} {held : Bool}

theorem slice_nil {P : Program} {t e : TypeId} {n m c : Nat} {A : Option Addr} {y : DataW H × List MemPlace} (ht : P.underlying t = some (.slice e)) (h : DataW.trod enc P w base (fun _ => true) held n t [.slice A m c] = some y) (hA : A = none) : m = 0 ∧ c = 0 := by
  rcases open_slice ht h with ⟨hcs, hy⟩ | ⟨a, len, cap', m', n', D, Pl, hcs, _⟩
  · simp only [List.cons.injEq, and_true] at hcs
    injection hcs with h1 h2 h3
    exact ⟨h2, h3⟩
  · simp only [List.cons.injEq, and_true] at hcs
    injection hcs with h1 h2 h3
    rw [hA] at h1
    cases h1

set_option maxRecDepth 100000 in
theorem open_event {n : Nat} {cs : List Value} {y : DataW H × List MemPlace} (h : DataW.trod enc Tryz.prog w 0 (fun _ => true) held n 74 cs = some y) (hb : Rows.uptoBulk y.1 ≤ 1048576) :
    ∃ a : EvR, cs = EvR.cells a ∧ ∃ x : Ev, EvAt w a x ∧ EvIn x ∧ EvSm x := by
  have hl := fld_len Tryz.underlying74 h
  rw [show Tryz.prog.cellsOf 74 = 9 by kernel_rfl] at hl
  have c1 : Tryz.prog.cellsOf 3 = 1 := by kernel_rfl
  have cq : Tryz.prog.cellsOf 24 = 5 := by kernel_rfl
  have ci : Tryz.prog.cellsOf 53 = 1 := by kernel_rfl
  obtain ⟨_, _, h0⟩ := fld Tryz.underlying74 h 0 0 1 3 rfl c1
  obtain ⟨_, _, h1⟩ := fld Tryz.underlying74 h 1 1 1 3 rfl c1
  obtain ⟨y2, _, h2, f2⟩ := fldB Tryz.underlying74 h 2 2 5 24 rfl cq
  obtain ⟨_, _, h3⟩ := fld Tryz.underlying74 h 3 7 1 3 rfl c1
  obtain ⟨y4, _, h4, f4⟩ := fldB Tryz.underlying74 h 4 8 1 53 rfl ci
  obtain ⟨z0, e0, w0⟩ := leaf_int Tryz.underlying3 h0
  obtain ⟨z1, e1, w1⟩ := leaf_int Tryz.underlying3 h1
  obtain ⟨q, l, eq, hr, hc, hq, _⟩ := open_reqB h2
  obtain ⟨z3, e3, w3⟩ := leaf_int Tryz.underlying3 h3
  obtain ⟨x4, e4, h4'⟩ := leaf_sliceW Tryz.underlying53 h4
  have h5 := h4'
  obtain ⟨A, ol, cap, rfl, hR, _, _, hwf⟩ := rd_ints Tryz.underlying53 Tryz.underlying3 c1 h4'
  have hs := slice_len Tryz.underlying53 h5
  have hnil := slice_nil Tryz.underlying53 h5
  have f2' : Rows.uptoBulk y2.1 + 5 ≤ Rows.uptoBulk y.1 := f2
  have f4' : Rows.uptoBulk y4.1 + 5 ≤ Rows.uptoBulk y.1 := f4
  have hql := hr.len
  refine ⟨⟨z0, z1, q, z3, A, ol.length, cap⟩, ?_, ⟨z0, z1, ⟨q.kind, q.arg, q.value, q.dflt, l⟩, z3, ol⟩, ⟨rfl, rfl, rfl, rfl, rfl, rfl, hr, rfl, rfl, hR, hnil⟩,
    ⟨in64_of w0, in64_of w1, hc.1, hc.2.1, hc.2.2, by show l.length ≤ _; omega, in64_of w3, fun x hx => in64_of (hwf x hx), by show ol.length ≤ _; omega⟩, ⟨by show l.length ≤ _; omega, by show ol.length ≤ _; omega⟩⟩
  match cs, hl with
  | [a0, a1, a2, a3, a4, a5, a6, a7, a8], _ =>
    simp [Reqr.cells] at e0 e1 eq e3 e4
    obtain ⟨q0, q1, q2, q3, q4⟩ := eq
    subst e0 e1 e3 e4 q0 q1 q2 q3 q4
    rfl

theorem events_list {W : World} : ∀ (l : List EvR), (∀ a ∈ l, ∃ x : Ev, EvAt W a x ∧ EvIn x ∧ EvSm x) → ∃ xs : List Ev, EvsAt W l xs ∧ ∀ x ∈ xs, EvIn x ∧ EvSm x
  | [], _ => ⟨[], trivial, fun x hx => by cases hx⟩
  | a :: r, h => by
    obtain ⟨x, h1, h2⟩ := h a (List.mem_cons_self ..)
    obtain ⟨xs, h3, h4⟩ := events_list r (fun b hb => h b (List.mem_cons_of_mem _ hb))
    refine ⟨x :: xs, ⟨h1, h3⟩, fun z hz => ?_⟩
    rcases List.mem_cons.1 hz with rfl | hz
    · exact h2
    · exact h4 z hz

set_option maxRecDepth 100000 in
theorem events_arg {v : Value} {d : DataW H} {p : List MemPlace} (hv : Value.okWide Tryz.prog w .any base 61 v) (h : DataW.Trod enc Tryz.prog w 0 (fun _ => true) held 61 v d p) (hb : Rows.uptoBulk d ≤ 1048576) :
    ∃ (A : Option Addr) (n c : Nat) (xs : List Ev), v = .slice A n c ∧ n ≤ 1048576 ∧ n ≤ c ∧ EvsIn w A n xs ∧ ∀ x ∈ xs, EvIn x ∧ EvSm x := by
  obtain ⟨A0, n0, c0, rfl⟩ := okWide_slice Tryz.underlying61 hv
  obtain ⟨n, hn⟩ := h
  have hlen := slice_len Tryz.underlying61 hn
  obtain ⟨A, l, cap, e, hR, _, hcap, _, hok⟩ := rd_recsQ (α := EvR) (fun d => Rows.uptoBulk d ≤ 1048576) (fun a => ∃ x : Ev, EvAt w a x ∧ EvIn x ∧ EvSm x) Tryz.underlying61 (by kernel_rfl) (by decide) (fun n cs y h hb => open_event h hb) hn (fun es sp he d hd => by
    have h1 := bulk_mem hd
    have hb' := hb
    rw [show d = d from rfl] at h1
    simp only at he
    rw [he] at hb'
    simp only [Rows.uptoBulk] at hb'
    omega)
  injection e with e1 e2 e3
  subst e1 e2 e3
  obtain ⟨xs, h1, h2⟩ := events_list l hok
  exact ⟨A0, l.length, c0, xs, rfl, by have h3 : l.length + 1 ≤ Rows.uptoBulk d := hlen; omega, hcap, ⟨l, rfl, hR, h1⟩, h2⟩
end

end Go.Proofs.YtalkllfgedacoaaGreatDoor

namespace Go.Proofs.YtalkllfgedacoaaGreatDoor
open Go.ChangeShapes Go.WideShapes Go.ChangeAt Go.RowKit Go.Deep

set_option maxRecDepth 100000 in
theorem req_argB {H : Type} {enc : TypeId × Value → H} {w : World} {base : Nat} {held : Bool} {v : Value} {d : DataW H} {p : List MemPlace} (hv : Value.okWide Tryz.prog w .any base 24 v) (h : DataW.Trod enc Tryz.prog w 0 (fun _ => true) held 24 v d p) :
    ∃ (q : Reqr) (l : List Cse), v = reqV q ∧ ReqAt w q l ∧ CallIn q l ∧ q.n + 6 ≤ Rows.uptoBulk d := by
  obtain ⟨cs, rfl, _⟩ := okWide_struct Tryz.underlying24 hv
  obtain ⟨n, hn⟩ := h
  obtain ⟨cs⟩ := cs
  have hn : DataW.trod enc Tryz.prog w 0 (fun _ => true) held n 24 cs = some (d, p) := hn
  obtain ⟨q, l, eq, h1, h2, h3, _⟩ := open_reqB hn
  subst eq
  exact ⟨q, l, rfl, h1, h2, h3⟩

end Go.Proofs.YtalkllfgedacoaaGreatDoor

namespace Go.Proofs.YtalkllfgedacoaaGreatDoor
open Go.ChangeShapes Go.WideShapes Go.ChangeAt Go.RowKit Go.Deep

theorem scriptTexts_laid {W : World} (h : laidMetH Tryz.prog Rows.scriptTextsUptoRow.laid W) : laidMetH Tryz.prog scrL W := h
theorem scriptTexts_met (os : Os) : laidMetH Tryz.prog Rows.scriptTextsUptoRow.laid ((scrW os).forCall (fun _ _ => 0) ⟨#[], #[.slice none 0 0, .agg #[.int .i64 0, .int .i64 0, .int .i64 0, .bool false, .slice none 0 0]], []⟩).memory := scr_met os #[.slice none 0 0, .agg #[.int .i64 0, .int .i64 0, .int .i64 0, .bool false, .slice none 0 0]]
theorem scriptTexts_reads (os : Os) {H : Type} (enc : TypeId × Value → H) : ∃ places, DataW.whole enc Tryz.prog ((scrW os).forCall (fun _ _ => 0) ⟨#[], #[.slice none 0 0, .agg #[.int .i64 0, .int .i64 0, .int .i64 0, .bool false, .slice none 0 0]], []⟩).memory Tryz.f6.params.toList Rows.scriptTextsSpec.vars false (#[.slice none 0 0, .agg #[.int .i64 0, .int .i64 0, .int .i64 0, .bool false, .slice none 0 0]] : Array Value).toList 8 = some ([.nil, .agg [.lit (.int .i64 0), .lit (.int .i64 0), .lit (.int .i64 0), .lit (.bool false), .nil]], [], places) :=
  ⟨[], by kernel_rfl⟩

set_option maxRecDepth 100000 in
theorem scriptTexts_lifted (os : Os) (started : os.Started) (H : Type) (enc : TypeId × Value → H) (F : Stop.Interp) :
    ReturnsInHanded {} Tryz.checked os 6 .any ((Rows.OpenSpec.upto Rows.scriptTextsSpec).preRow enc Tryz.prog Tryz.f6 Rows.scriptTextsUptoRow.domain false Rows.scriptTextsUptoRow.laid) (((Rows.OpenSpec.upto Rows.scriptTextsSpec).at F).post enc Tryz.prog Tryz.f6 false true false false) := by
  obtain ⟨places, hx⟩ := scriptTexts_reads os enc
  refine returnsInHanded_of_row (C := Tryz.checked) (s := Rows.OpenSpec.upto Rows.scriptTextsSpec) own_knob started (by kernel_rfl) Tryz.func6
    (witness_row_at (enc := enc) (C := Tryz.checked) false (scrW os) #[.slice none 0 0, .agg #[.int .i64 0, .int .i64 0, .int .i64 0, .bool false, .slice none 0 0]] (scrW_os os) (by kernel_rfl) (by kernel_rfl) (by kernel_rfl)
      (OpenSpec.preRow_of_cond 8 hx (by kernel_rfl) (fun k hk => by cases hk; kernel_rfl) (by kernel_rfl) (scriptTexts_met os))) ?_
  intro W base args ds gs before hval0 hW _ hcond _ hL hSh _
  have hk := hcond _ rfl
  have hval : ∀ (j : Nat) t v, Tryz.f6.params[j]? = some t → args[j]? = some v → Value.okWide Tryz.prog W .any base t v := hval0
  have hW' := hW
  obtain ⟨p, q, hA0, hV, rfl, hfz, hnd⟩ := hW
  have hA : DataW.TrodAll enc Tryz.prog W 0 (fun _ => true) true Tryz.f6.params.toList args.toList ds p := hA0
  obtain ⟨rfl, rfl⟩ := trodVars_none hV
  rw [Tryz.params6] at hA hval
  simp only at hA
  obtain ⟨v0, vs0, d0, ds0, p0, q0, hargs0, rfl, rfl, h0, r0⟩ := trodAll_cons hA
  obtain ⟨v1, vs1, d1, ds1, p1, q1, hargs1, rfl, rfl, h1, r1⟩ := trodAll_cons r0
  obtain ⟨rfl, rfl, rfl⟩ := trodAll_nil r1
  subst hargs1
  obtain rfl : args = #[v0, v1] := by cases args; simp_all
  clear hA0 hval0
  have hblk : Rows.uptoBulkAll ([d0, d1] ++ []) ≤ 1048576 := of_decide_eq_true hk
  simp only [Rows.uptoBulkAll, List.append_nil] at hblk
  obtain ⟨A, n, c, l, rfl, hn, hnc, hev, hi⟩ := events_arg (hval 0 61 v0 rfl rfl) h0 (by omega)
  obtain ⟨q, cs, rfl, hrq, hcq, hqn⟩ := req_argB (hval 1 24 v1 rfl rfl) h1
  have hL2 := scriptTexts_laid hL
  have hT := scr_tab hL2
  have hE := scr_err hL2
  have hQ := scr_et hL2
  have hM := scr_ml hSh
  refine (lawTX_any A n c l q cs W hn hnc hev hi hE hT hM hQ hrq (by omega) hcq).mono fun e W' ⟨he, hb⟩ => ?_
  subst he
  exact ⟨_, rfl, law_post laid_out (by kernel_rfl) (by kernel_rfl) Tryz.underlying4 rfl hW' rfl hb⟩

theorem scriptTexts_said : Rows.ScriptTextsUptoSaid :=
  OpenClaim.holds_of_cond 6 Tryz.f6 rfl rfl rfl rfl rfl rfl rfl ⟨rfl, rfl, rfl, rfl, rfl⟩ rfl rfl rfl rfl rfl (by kernel_rfl) Tryz.func6 (by kernel_rfl)
    (of_decide_eq_true (by kernel_rfl)) (by unfold Func.isWrapper; first | (rw [if_pos (by decide +kernel)]; kernel_rfl) | (rw [if_neg (by decide +kernel)]; exact ⟨rfl, rfl⟩))
    (fun os started H enc _ F => by rw [OpenClaim.pre_eq_preRow]; exact scriptTexts_lifted os started H enc F)

theorem scriptTexts_plain (f : FuncId) (fn : Func) (hf : Tryz.pinned.checked.prog.funcNamed "stopgate/stopgatelaw24.ScriptTexts" = some f) (hfn : Tryz.pinned.checked.prog.funcs[f]? = some fn) :
    true = Tryz.pinned.checked.prog.looks [] ∧ ∀ (j : Nat) t, fn.params[j]? = some t → Tryz.pinned.checked.prog.wantsStandIn t = false := by
  obtain rfl : f = 6 := Option.some.inj ((show Tryz.prog.funcNamed "stopgate/stopgatelaw24.ScriptTexts" = some 6 by kernel_rfl).symm.trans hf) |>.symm
  obtain rfl : fn = Tryz.f6 := (Option.some.inj (Tryz.func6.symm.trans hfn)).symm
  refine ⟨by kernel_rfl, fun j t ht => ?_⟩
  rw [Tryz.params6] at ht
  have hm : t ∈ [61, 24] := by simpa using Array.mem_of_getElem? ht
  have hall : ([61, 24].all fun u => !Tryz.prog.wantsStandIn u) = true := by kernel_rfl
  exact (show Tryz.prog.wantsStandIn t = false by simpa using List.all_eq_true.1 hall t hm)

theorem scriptTexts_holds : Rows.ScriptTextsUptoCardSaid :=
  Claim7.holds_tied_plain_at .later [] _ _ _ _ scriptTexts_said (fun _ h => by cases h) (by kernel_rfl) (fun _ h => by cases h) scriptTextsUpto_row_tie rfl ⟨rfl, rfl⟩ (by kernel_rfl) rfl scriptTexts_plain (by kernel_rfl)

end Go.Proofs.YtalkllfgedacoaaGreatDoor

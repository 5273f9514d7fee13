/- The row of words that threads share (package mem): how it lies in memory, what may change; the count of accesses, walked. -/
import Derived.Test.YtmllbailfbjoeaaAwake43
import Derived.Test.YtmllbailfbjoeaaTick3
import Derived.Maps.AppendAt
namespace Go.Proofs.Ytmllbailfbjoeaa
open Go.RowKit Go.Sort

/-- From a to w: new blocks, and writes to blocks of S alone. -/
structure Keep (S : Nat → Prop) (a w : World) : Prop where
  os : w.os = a.os
  tape : w.tape = a.tape
  output : w.output = a.output
  size : a.heap.size ≤ w.heap.size
  block : ∀ k, k < a.heap.size → ¬ S k → w.heap[k]? = a.heap[k]?

section
variable {S T : Nat → Prop} {a b w : World} {g : Nat} {t : TypeId} {cs : List Value}
theorem Keep.refl (S : Nat → Prop) (w : World) : Keep S w w := ⟨rfl, rfl, rfl, Nat.le_refl _, fun _ _ _ => rfl⟩
theorem Keep.trans' (h : Keep S a b) (k : Keep T b w) (hT : ∀ j, j < a.heap.size → T j → S j) : Keep S a w :=
  ⟨k.os.trans h.os, k.tape.trans h.tape, k.output.trans h.output, Nat.le_trans h.size k.size, fun i hi hn => (k.block i (Nat.lt_of_lt_of_le hi h.size) (fun h' => hn (hT i hi h'))).trans (h.block i hi hn)⟩
theorem Keep.trans (h : Keep S a b) (k : Keep S b w) : Keep S a w := h.trans' k (fun _ _ h => h)
theorem Keep.of_below (h : Below a.heap.size a w) : Keep S a w := ⟨h.os, h.tape, h.output, h.size, fun i hi _ => h.block i hi⟩
theorem Keep.of_grown {row : Option Nat} (h : a.grownBy w row) (hS : ∀ k, row = some k → S k) : Keep S a w :=
  ⟨h.os, h.tape, h.output, h.size, fun i hi hn => h.block i hi (fun e => hn (hS i e.symm))⟩
theorem Keep.alloc (h : Keep S a w) (o : Obj) : Keep S a (w.alloc o) := h.trans (.of_below ((Below.refl _ _).alloc (Nat.le_refl _) _))
theorem Keep.drew (h : Keep S a w) : Keep S a w.drew := ⟨h.os, h.tape, h.output, h.size, h.block⟩
theorem Keep.drewN (h : Keep S a w) (n : Nat) : Keep S a (w.drewN n) := ⟨h.os, h.tape, h.output, h.size, h.block⟩
theorem Keep.set_ (h : Keep S a w) (g i : Nat) (u : Value) (hS : a.heap.size ≤ g ∨ S g) : Keep S a (w.setCell ⟨g, i, none⟩ u) :=
  ⟨h.os, h.tape, h.output, by simpa [World.setCell] using h.size, fun k hk hn => (Below.heap_setCell _ _ _ _ (by
    rcases hS with h' | h'
    · show k ≠ g; omega
    · rintro rfl; exact hn h')).trans (h.block k hk hn)⟩
theorem Keep.below {B : Nat} (h : Keep S a w) (hS : ∀ k, S k → B ≤ k) (hB : B ≤ a.heap.size) : Below B a w :=
  ⟨h.os, h.tape, h.output, h.size, fun k hk => h.block k (by omega) (fun h' => by have := hS k h'; omega)⟩
theorem Keep.blk (h : Keep S a w) (hb : Blk a g t cs) (hS : ¬ S g) : Blk w g t cs := (h.block g hb.lt hS).trans hb
theorem Keep.own {base : Nat} {e : TypeId} {s n : Nat} {v : Value} {xs : List Value} (h : Keep S a w) (ho : a.ownsRow base e s v n xs) (hS : ∀ k, v.ownBlock = some k → ¬ S k) : w.ownsRow base e s v n xs := by
  refine ⟨ho.1, ?_⟩
  rcases ho.2 with h2 | ⟨g, cap, cur, hv, hg, hh, r⟩
  · exact .inl h2
  · have hlt : g < a.heap.size := by
      rcases Nat.lt_or_ge g a.heap.size with hlt | hge
      · exact hlt
      · rw [Array.getElem?_eq_none hge] at hh; cases hh
    exact .inr ⟨g, cap, cur, hv, hg, (h.block g hlt (hS g (by rw [hv]; rfl))).trans hh, r⟩
end

/-- The cells of a Mem. -/
def memL (n gw : Nat) (AC : Option Addr) (k cc : Nat) : List Value := [.slice (some ⟨gw, 0, none⟩) n n, .slice none 0 0, .slice AC k cc, .bool false]

/-- The words lie in block gw, the Mem itself in gm; cb is where the counts lie. -/
structure MAt (gw gm B : Nat) (cb : Option Nat) (ws : List Int) (w : World) (cs : List Int) (AC : Option Addr) (cc : Nat) : Prop where
  words : Blk w gw 42 (words ws)
  box : Blk w gm 132 (memL ws.length gw AC cs.length cc)
  row : w.ownsRow B 3 1 (.slice AC cs.length cc) cs.length (ints cs)
  few : cs.length ≤ 64
  cb : Value.ownBlock (.slice AC cs.length cc) = cb
  ne : gw ≠ gm
  ltw : gw < B
  ltm : gm < B
  base : B ≤ w.heap.size

def memS (gw gm : Nat) (cb : Option Nat) : Nat → Prop := fun k => k = gw ∨ k = gm ∨ cb = some k

/-- Behind an access: the words stand as said, and nothing but they, the Mem and the counts was touched. -/
def MPost (gw gm B : Nat) (cb : Option Nat) (ws' : List Int) (w w' : World) : Prop :=
  ∃ cb' cs AC cc, MAt gw gm B cb' ws' w' cs AC cc ∧ Keep (memS gw gm cb) w w' ∧ (cb' = cb ∨ ∀ k, cb' = some k → w.heap.size ≤ k)

section
variable {gw gm B : Nat} {cb : Option Nat} {ws : List Int} {w w' : World} {cs : List Int} {AC : Option Addr} {cc : Nat}
theorem MAt.cbB (h : MAt gw gm B cb ws w cs AC cc) : ∀ k, cb = some k → B ≤ k := fun k hk => own_block h.row k (by rw [h.cb]; exact hk)
theorem MAt.keep {S : Nat → Prop} (h : MAt gw gm B cb ws w cs AC cc) (hk : Keep S w w') (h1 : ¬ S gw) (h2 : ¬ S gm) (h3 : ∀ k, cb = some k → ¬ S k) : MAt gw gm B cb ws w' cs AC cc :=
  ⟨hk.blk h.words h1, hk.blk h.box h2, hk.own h.row (fun k e => h3 k (by rw [← h.cb]; exact e)), h.few, h.cb, h.ne, h.ltw, h.ltm, Nat.le_trans h.base hk.size⟩
theorem MAt.below (h : MAt gw gm B cb ws w cs AC cc) (hb : Below w.heap.size w w') : MAt gw gm B cb ws w' cs AC cc :=
  h.keep (S := fun _ => False) (.of_below hb) (fun h => h) (fun h => h) (fun _ _ h => h)
theorem MAt.alloc (h : MAt gw gm B cb ws w cs AC cc) (o : Obj) : MAt gw gm B cb ws (w.alloc o) cs AC cc := h.below ((Below.refl _ _).alloc (Nat.le_refl _) _)
theorem mpost_refl (h : MAt gw gm B cb ws w cs AC cc) : MPost gw gm B cb ws w w := ⟨cb, cs, AC, cc, h, .refl _ _, .inl rfl⟩
theorem MPost.trans {ws2 : List Int} {w1 w2 : World} {cb1 : Option Nat} (hK : Keep (memS gw gm cb) w w1) (hc : cb1 = cb ∨ ∀ k, cb1 = some k → w.heap.size ≤ k) (h2 : MPost gw gm B cb1 ws2 w1 w2) : MPost gw gm B cb ws2 w w2 := by
  obtain ⟨cb2, cs, AC, cc, hM, hK2, hc2⟩ := h2
  refine ⟨cb2, cs, AC, cc, hM, hK.trans' hK2 ?_, ?_⟩
  · rintro j hj (h | h | h)
    · exact .inl h
    · exact .inr (.inl h)
    · rcases hc with h' | h'
      · exact .inr (.inr (by rw [← h']; exact h))
      · have := h' j h; omega
  · rcases hc2 with h' | h'
    · rw [h']; exact hc
    · exact .inr (fun k hk => Nat.le_trans hK.size (h' k hk))
end

/-- append of one number, and where the row lies then. -/
theorem append_int_at {ops : Array Oper} {rest : List Oper} {o : Oper} {a : Act} {Q : Exit → Act → World → Prop} {w : World} (s x : Operand) (hgd : o.guard = none)
    (ho : o.op = .call { callee := .builtin .append, args := #[s, x], argTypes := #[22, 22] })
    (base : Nat) (A : Option Addr) (n c : Nat) (l : List Int) (z : Int) (g c' : Nat) (hs : a.eval s = .slice A n c) (hown : w.ownsRow base 3 1 (.slice A n c) n (ints l))
    (hx : a.eval x = .slice (some ⟨g, 0, none⟩) 1 c') (hcell : w.cell? ⟨g, 0, none⟩ = some (.int .i64 z)) (hlen : n ≤ 2097152) (hbase : base ≤ w.heap.size)
    (h : ∀ A' c'' w', w'.ownsRow base 3 1 (.slice A' (n + 1) c'') (n + 1) (ints (l ++ [z])) → w.grownBy w' (Value.ownBlock (.slice A n c)) → (Value.ownBlock (.slice A' (n + 1) c'') = Value.ownBlock (.slice A n c) ∨ Value.ownBlock (.slice A' (n + 1) c'') = some w.heap.size) → wpList Try.prog ops Q rest (a.put o.dst (.slice A' (n + 1) c'')) w') :
    wpList Try.prog ops Q (o :: rest) a w := by
  obtain ⟨i0, hi, hz0, hz1, hz2⟩ := info_parts int_info
  refine wpList_append_own_at w hgd s x 22 ho base 3 i0 (.int .i64 0) 1 8 Try.underlying22 hi hz0 hz1 hz2 rfl (by decide) _ n (ints l) hs hown ⟨g, 0, none⟩ 1 c' [.int .i64 z] hx rfl ?_ ?_ ?_ ?_ hbase ?_
  · intro j u hj
    match j, hj with
    | 0, hj => simp at hj; subst hj; simpa [Addr.add] using hcell
  · intro u hu; simp at hu; subst hu; rfl
  · unfold maxLen; omega
  · omega
  · intro v' w' hown' hg _ hat
    obtain ⟨g', cap', hv⟩ : ∃ g' cap', v' = .slice (some ⟨g', 0, none⟩) (n + 1) cap' := by
      rcases hown'.2 with ⟨_, h0⟩ | ⟨g', cap', _, hv, _⟩
      · omega
      · exact ⟨g', cap', hv⟩
    subst hv
    refine h _ _ w' ?_ hg hat
    rw [show ints (l ++ [z]) = ints l ++ [.int .i64 z] by simp [ints]]
    exact hown'

section
variable {gw gm B : Nat} {cb : Option Nat} {ws : List Int} {w w3 : World} {cs : List Int} {AC : Option Addr} {cc : Nat}
/-- A count is written. -/
theorem MAt.counted {g : Nat} (h : MAt gw gm B cb ws w cs (some ⟨g, 0, none⟩) cc) {j : Nat} (hj : j < cs.length) (x : Int) :
    MAt gw gm B cb ws (w.setCell ⟨g, j, none⟩ (.int .i64 x)) (cs.set j x) (some ⟨g, 0, none⟩) cc ∧ Keep (memS gw gm cb) w (w.setCell ⟨g, j, none⟩ (.int .i64 x)) := by
  have hcb : cb = some g := by rw [← h.cb]; rfl
  have hgB := h.cbB g hcb
  have h1 := h.ltw
  have h2 := h.ltm
  have hK : Keep (fun k => k = g) w (w.setCell ⟨g, j, none⟩ (.int .i64 x)) := (Keep.refl _ w).set_ g j _ (.inr rfl)
  refine ⟨⟨hK.blk h.words (by omega), ?_, ?_, by simpa using h.few, by simpa using h.cb, h.ne, h1, h2, by simpa [World.setCell] using h.base⟩, (Keep.refl _ w).set_ g j _ (.inr (.inr (.inr hcb)))⟩
  · rw [List.length_set]; exact hK.blk h.box (by omega)
  · rw [List.length_set, ← ints_set]; exact own_set h.row (by omega) j _ (by omega)

/-- The row of counts has grown. -/
theorem MAt.more (h : MAt gw gm B cb ws w cs AC cc) (hl : cs.length < 64) {A3 : Option Addr} {c3 : Nat} (hg : w.grownBy w3 (Value.ownBlock (.slice AC cs.length cc)))
    (ho : w3.ownsRow B 3 1 (.slice A3 (cs.length + 1) c3) (cs.length + 1) (ints (cs ++ [0]))) :
    MAt gw gm B (Value.ownBlock (.slice A3 (cs.length + 1) c3)) ws (w3.setCell ⟨gm, 2, none⟩ (.slice A3 (cs.length + 1) c3)) (cs ++ [0]) A3 c3 ∧ Keep (memS gw gm cb) w (w3.setCell ⟨gm, 2, none⟩ (.slice A3 (cs.length + 1) c3)) := by
  have h1 := h.ltw
  have h2 := h.ltm
  have hK : Keep (fun k => cb = some k) w w3 := .of_grown hg (fun k hk => by rw [← h.cb]; exact hk)
  have hK4 : Keep (fun k => k = gm) w3 (w3.setCell ⟨gm, 2, none⟩ (.slice A3 (cs.length + 1) c3)) := (Keep.refl _ w3).set_ gm 2 _ (.inr rfl)
  have hn : ∀ g, g < B → ¬ cb = some g := fun g hg e => by have := h.cbB g e; omega
  refine ⟨⟨hK4.blk (hK.blk h.words (hn gw h1)) h.ne, ?_, ?_, by simp; omega, by simp, h.ne, h1, h2, Nat.le_trans h.base (Nat.le_trans hK.size hK4.size)⟩, ?_⟩
  · have hb := (hK.blk h.box (hn gm h2)).set_ 2 (.slice A3 (cs.length + 1) c3)
    simpa [memL] using hb
  · have : (cs ++ [0]).length = cs.length + 1 := by simp
    rw [this]
    exact hK4.own ho (fun k hk e => by have := own_block ho k hk; omega)
  · exact (Keep.trans' (T := fun k => k = gm) (⟨hK.os, hK.tape, hK.output, hK.size, fun k hk hn => hK.block k hk (fun e => hn (.inr (.inr e)))⟩ : Keep (memS gw gm cb) w w3) hK4 (fun j _ e => .inr (.inl e)))
end

theorem mem_cells {w : World} {gm n gw k cc : Nat} {AC : Option Addr} (h : Blk w gm 132 (memL n gw AC k cc)) :
    w.cell? ⟨gm, 0, none⟩ = some (.slice (some ⟨gw, 0, none⟩) n n) ∧ w.cell? ⟨gm, 1, none⟩ = some (.slice none 0 0) ∧ w.cell? ⟨gm, 2, none⟩ = some (.slice AC k cc) ∧ w.cell? ⟨gm, 3, none⟩ = some (.bool false) ∧ w.frozen? ⟨gm, 2, none⟩ = false :=
  ⟨h.cell rfl, h.cell rfl, h.cell rfl, h.cell rfl, h.frozen 2⟩

set_option maxHeartbeats 4000000 in
set_option maxRecDepth 100000 in
theorem count_any (gw gm B : Nat) (cb : Option Nat) (ws cs : List Int) (AC : Option Addr) (cc t : Nat) (w : World) (ht : t < 64) (hM : MAt gw gm B cb ws w cs AC cc) :
    Calls Try.prog 135 #[.pointer (some ⟨gm, 0, none⟩), .int .i64 t] w (fun e w' => e = .returned (.tuple #[]) ∧ MPost gw gm B cb ws w w') := by
  have t1 : (0 : Int) ≤ (t : Int) := by omega
  have t2 : (t : Int) < 64 := by omega
  have HM := Lib.hid hM
  clear hM
  go_enter Try.func135, Try.ntmps135
  go_wp2
  go_loopg [] (t + 1 - cs.length) (fun g wr => ∃ (cb1 : Option Nat) (cs1 : List Int) (AC1 : Option Addr) (cc1 : Nat), g = t + 1 - cs1.length ∧ MAt gw gm B cb1 ws wr cs1 AC1 cc1 ∧ Keep (memS gw gm cb) w wr ∧ (cb1 = cb ∨ ∀ k, cb1 = some k → w.heap.size ≤ k))
  case atStart => exact ⟨cb, cs, AC, cc, rfl, HM.out, .refl _ _, .inl rfl⟩
  case round =>
    obtain ⟨cb1, cs1, AC1, cc1, hg, hM1, hK, hC⟩ := hrel
    clear HM
    have HM1 := Lib.hid hM1
    have HK := Lib.hid hK
    have HC := Lib.hid hC
    have HG := Lib.hid hg
    have hfew := hM1.few
    have hcbB := hM1.cbB
    obtain ⟨c0, c1, c2, c3, hf2⟩ := mem_cells hM1.box
    clear hM1 hK hC hg
    generalize hn : cs1.length = n at *
    have HN := Lib.hid hn
    clear hn
    by_cases hlt : n ≤ t
    · have q1 : (n : Int) ≤ (t : Int) := by omega
      have HROW := Lib.hid (show wr.ownsRow B 3 1 (.slice AC1 n cc1) n (ints cs1) by rw [← HN.out]; exact HM1.out.row)
      go_wp2_with (first
        | (at_builtin; refine append_int_at _ _ rfl rfl B AC1 n cc1 cs1 0 _ 1 rfl (HROW.out.alloc _) rfl (new1 _ _ _) (by omega) (by have := HM1.out.base; simp; omega) ?_; intro A3 c3' w3 hown3 hg3 hat3; have HOWN3 := Lib.hid hown3; have HG3 := Lib.hid hg3; have HAT3 := Lib.hid hat3; have hbx3 := (blk_grown (HM1.out.box.alloc _) hg3 (by intro e; have := own_block HROW.out gm e.symm; have := HM1.out.ltm; omega)); have hff := hbx3.frozen 2; have hfc : w3.cell? ⟨gm, 2, none⟩ = some (.slice AC1 n cc1) := (by have h := hbx3.cell (i := 2) rfl; rw [HN.out] at h; exact h); clear hown3 hg3 hat3 hbx3))
      go_roundg (t + 1 - (n + 1))
      case measure => rw [HG.out]; omega
      case rel =>
        have hMa := HM1.out.alloc (.cells #[.int .i64 0] 3)
        have hg3 := HG3.out
        have ho3 := HOWN3.out
        have hat := HAT3.out
        have hcb := hMa.cb
        have hnn := HN.out
        subst hnn
        obtain ⟨hM4, hK4⟩ := hMa.more (by omega) hg3 ho3
        have hKa : Keep (memS gw gm cb1) wr (wr.alloc (.cells #[.int .i64 0] 3)) := (Keep.refl _ wr).alloc _
        have hKt := hKa.trans hK4
        refine ⟨_, cs1 ++ [0], A3, c3', by simp, hM4, HK.out.trans' hKt ?_, ?_⟩
        · rintro j hj (h | h | h)
          · exact .inl h
          · exact .inr (.inl h)
          · rcases HC.out with h' | h'
            · exact .inr (.inr (by rw [← h']; exact h))
            · have := h' j h; omega
        · rcases hat with h' | h'
          · rw [h', hcb]; exact HC.out
          · right
            intro k hk
            rw [h'] at hk
            injection hk with hk
            have := HK.out.size
            simp at hk
            omega
    · have q1 : ¬ (n : Int) ≤ (t : Int) := by omega
      obtain ⟨g, rfl, hgB, hgl⟩ := own_some (HM1.out.row) (by rw [HN.out]; omega)
      have hrd := (own_rd HM1.out.row).at_ (by rw [ints_length, HN.out]; omega)
      obtain ⟨b, o, he, _, hcell⟩ := hrd
      simp only [Option.some.injEq, Addr.mk.injEq, and_true] at he
      obtain ⟨rfl, rfl⟩ := he
      have d0 := hcell t _ (ints_at (by rw [HN.out]; omega))
      rw [Nat.zero_add] at d0
      obtain ⟨_, hge, _, _, hfz, _⟩ := own_form HM1.out.row (by rw [HN.out]; omega)
      injection hge with hge
      injection hge with hge
      subst hge
      have f0 := hfz t
      have t3 : (t : Int) < (n : Int) := by omega
      clear hcell hfz
      generalize cs1.getD t 0 = x at *
      go_wp2
      go_end0
      refine ⟨rfl, ?_⟩
      obtain ⟨hM4, hK4⟩ := HM1.out.counted (j := t) (by rw [HN.out]; omega) (wrap64 (x + 1))
      exact ⟨cb1, _, _, _, hM4, HK.out.trans' hK4 (by
        rintro j hj (h | h | h)
        · exact .inl h
        · exact .inr (.inl h)
        · rcases HC.out with h' | h'
          · exact .inr (.inr (by rw [← h']; exact h))
          · have := h' j h; omega), HC.out⟩

end Go.Proofs.Ytmllbailfbjoeaa

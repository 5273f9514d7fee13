/- Arguments opened: words, and rows of accesses; the reach pays for words. -/
import Derived.Test.YtmllbailfbjoeaaClose
import Derived.Test.YtmllbailfbjoeaaAcc
import Derived.Test.YtmllbailfbjoeaaEq
import Derived.SizedLaws
import Derived.ChangeSame
namespace Go.Proofs.Ytmllbailfbjoeaa
open Go.ChangeShapes Go.WideShapes Go.ChangeAt Go.RowKit Go.Deep

section
variable {H : Type} {enc : TypeId × Value → H} {P : Program}

theorem add_none (b o k : Nat) : (Addr.add ⟨b, o, none⟩ k) = ⟨b, o + k, none⟩ := by
  unfold Addr.add; split
  · simp_all
  · rfl

/-- A slice of words that came in, as a list; its datum's room. -/
theorem rd_words {w : World} {base : Nat} {held : Bool} {t e : TypeId} {n : Nat} {x : Value} {y : DataW H × List MemPlace} (ht : P.underlying t = some (.slice e)) (he : P.underlying e = some (.int .u64)) (hc : P.cellsOf e = 1)
    (h : DataW.trod enc P w base (fun _ => true) held n t [x] = some y) :
    ∃ (A : Option Addr) (l : List Int) (cap : Nat), x = .slice A l.length cap ∧ Rd w A (words l) ∧ l.length ≤ maxLen ∧ l.length ≤ cap ∧ (∀ z ∈ l, (Lit.int .u64 z).wf = true) ∧
      ((y.1 = .nil ∧ l = []) ∨ ∃ sp, y.1 = .slice (lits .u64 l) sp) := by
  rcases open_ints ht he hc h with ⟨hcs, hx⟩ | ⟨a, len, cap, zs, hcs, _, hl, hm, hz, hx, hcell, hwf⟩
  · simp only [List.cons.injEq, and_true] at hcs
    exact ⟨none, [], 0, hcs, .inl rfl, by simp, by simp, by simp, .inl ⟨by rw [hx], rfl⟩⟩
  · simp only [List.cons.injEq, and_true] at hcs
    simp only [if_true] at hz
    have hlen : (zs.take len).length = len := by rw [List.length_take]; omega
    refine ⟨some a, zs.take len, cap, by rw [hlen]; exact hcs, ?_, by omega, by omega, fun z hz' => hwf z (List.mem_of_mem_take hz'), .inr ⟨_, by rw [hx]⟩⟩
    rcases Nat.eq_zero_or_pos len with h0 | h0
    · left; simp [h0, words]
    · right
      have c0 := hcell 0 (by omega)
      obtain ⟨b, o, sp⟩ := a
      have hsp := spot_of_cell c0
      simp [Addr.add] at hsp
      subst hsp
      refine ⟨b, o, rfl, block_lt_of_cell (a := ⟨b, o, none⟩) (by simpa [Addr.add] using c0), fun k v hk => ?_⟩
      have hkl : k < (zs.take len).length := by
        have := (List.getElem?_eq_some_iff.1 hk).1
        simpa [words] using this
      rw [words_at hkl] at hk
      have hck := hcell k (by omega)
      rw [add_none] at hck
      rw [hck, ← hk]
      congr 2
      simp only [List.getD, List.getElem?_take]
      rw [if_pos (by omega)]

/-- What the fields of an access are. -/
def accKind : Nat → TypeDesc
  | 0 => .int .i64
  | 1 => .int .i64
  | 2 => .int .i64
  | 3 => .int .u64
  | 4 => .int .u64
  | 5 => .int .u64
  | _ => .bool

/-- The numbers of an access are of their kinds. -/
structure Acc.Ok (a : Acc) : Prop where
  thread : (Lit.int .i64 a.thread).wf = true
  kind : (Lit.int .i64 a.kind).wf = true
  addr : (Lit.int .i64 a.addr).wf = true
  want : (Lit.int .u64 a.want).wf = true
  old : (Lit.int .u64 a.old).wf = true
  now : (Lit.int .u64 a.now).wf = true

/-- The cells of one access. -/
theorem open_acc {w : World} {base : Nat} {spare : Nat → Bool} {held : Bool} {e : TypeId} {fs : Array Field} {n : Nat} {cs : List Value} {y : DataW H × List MemPlace} (he : P.underlying e = some (.struct fs)) (hone : oneCellFields P fs = true) (hC : P.cellsOf e = 7) (hsz : fs.size = 7)
    (hk : ∀ j f, fs[j]? = some f → P.underlying f.type = some (accKind j)) (h : DataW.trod enc P w base spare held n e cs = some y) : ∃ a : Acc, cs = a.cells ∧ a.Ok := by
  obtain ⟨xs, m, _, hx, hl, hlen, hg⟩ := DataW.trod_struct he h
  rw [hC] at hl
  have key : ∀ j, j < 7 → ∃ v y n t, cs[j]? = some v ∧ P.underlying t = some (accKind j) ∧ DataW.trod enc P w base spare held n t [v] = some y := by
    intro j hj
    have hjf : fs[j]? = some (fs[j]'(by omega)) := Array.getElem?_eq_getElem (by omega)
    obtain ⟨o, k⟩ := hone_of hone j _ hjf
    have h1 := hg j _ hjf
    rw [o, k, List.drop_eq_getElem_cons (by omega)] at h1
    simp only [List.take_succ_cons, List.take_zero] at h1
    exact ⟨cs[j]'(by omega), xs[j]'(by omega), m, _, List.getElem?_eq_getElem (by omega), hk j _ hjf, h1.trans (List.getElem?_eq_getElem (by omega))⟩
  obtain ⟨v0, y0, n0, t0, c0, k0, h0⟩ := key 0 (by omega)
  obtain ⟨v1, y1, n1, t1, c1, k1, h1⟩ := key 1 (by omega)
  obtain ⟨v2, y2, n2, t2, c2, k2, h2⟩ := key 2 (by omega)
  obtain ⟨v3, y3, n3, t3, c3, k3, h3⟩ := key 3 (by omega)
  obtain ⟨v4, y4, n4, t4, c4, k4, h4⟩ := key 4 (by omega)
  obtain ⟨v5, y5, n5, t5, c5, k5, h5⟩ := key 5 (by omega)
  obtain ⟨v6, y6, n6, t6, c6, k6, h6⟩ := key 6 (by omega)
  obtain ⟨z0, e0, _, w0⟩ := DataW.trod_int k0 h0
  obtain ⟨z1, e1, _, w1⟩ := DataW.trod_int k1 h1
  obtain ⟨z2, e2, _, w2⟩ := DataW.trod_int k2 h2
  obtain ⟨z3, e3, _, w3⟩ := DataW.trod_int k3 h3
  obtain ⟨z4, e4, _, w4⟩ := DataW.trod_int k4 h4
  obtain ⟨z5, e5, _, w5⟩ := DataW.trod_int k5 h5
  obtain ⟨z6, e6, _⟩ := DataW.trod_bool k6 h6
  simp only [List.cons.injEq, and_true] at e0 e1 e2 e3 e4 e5 e6
  subst e0 e1 e2 e3 e4 e5 e6
  refine ⟨⟨z0, z1, z2, z3, z4, z5, z6⟩, ?_, ⟨w0, w1, w2, w3, w4, w5⟩⟩
  match cs, hl with
  | [a0, a1, a2, a3, a4, a5, a6], _ =>
    simp at c0 c1 c2 c3 c4 c5 c6
    subst c0 c1 c2 c3 c4 c5 c6
    rfl

/-- A slice of accesses that came in, as a list. -/
theorem rd_accs {w : World} {base : Nat} {held : Bool} {t e : TypeId} {fs : Array Field} {n : Nat} {x : Value} {y : DataW H × List MemPlace} (ht : P.underlying t = some (.slice e)) (he : P.underlying e = some (.struct fs)) (hone : oneCellFields P fs = true) (hC : P.cellsOf e = 7) (hsz : fs.size = 7)
    (hk : ∀ j f, fs[j]? = some f → P.underlying f.type = some (accKind j)) (h : DataW.trod enc P w base (fun _ => true) held n t [x] = some y) :
    ∃ (A : Option Addr) (l : List Acc) (cap : Nat), x = .slice A l.length cap ∧ Rd w A (accs l) ∧ l.length ≤ maxLen ∧ l.length ≤ cap ∧ ∀ a ∈ l, a.Ok := by
  rcases open_slice ht h with ⟨hcs, _⟩ | ⟨a, len, cap, m, n', D, Pl, hcs, _, hl, hm, hmm, _, hi⟩
  · simp only [List.cons.injEq, and_true] at hcs
    exact ⟨none, [], 0, hcs, .inl rfl, by simp, by simp, by simp⟩
  · simp only [List.cons.injEq, and_true] at hcs
    simp only [if_true] at hmm
    rw [hC] at hi
    have hall : ∀ i, i < len → ∃ b : Acc, (∀ j, j < 7 → w.cell? ((a.add (i * 7)).add j) = b.cells[j]?) ∧ b.Ok := by
      intro i hil
      obtain ⟨cs', hc, ht'⟩ := hi i (by omega)
      obtain ⟨b, rfl, hb⟩ := open_acc he hone hC hsz hk ht'
      obtain ⟨_, _, hat⟩ := World.cells?_some hc
      exact ⟨b, fun j hj => hat j hj, hb⟩
    have hall' : ∀ i, ∃ b : Acc, i < len → (∀ j, j < 7 → w.cell? ((a.add (i * 7)).add j) = b.cells[j]?) ∧ b.Ok := fun i => by
      by_cases hil : i < len
      · obtain ⟨b, hb⟩ := hall i hil
        exact ⟨b, fun _ => hb⟩
      · exact ⟨Acc.none, fun h => absurd h hil⟩
    obtain ⟨g, hg⟩ := Classical.axiomOfChoice hall'
    have hlen : ((List.range len).map g).length = len := by simp
    refine ⟨some a, (List.range len).map g, cap, by rw [hlen]; exact hcs, ?_, by omega, by omega, fun b hb => ?_⟩
    · rcases Nat.eq_zero_or_pos len with h0 | h0
      · left; simp [h0, accs]
      · right
        have c0 := (hg 0 h0).1 0 (by omega)
        obtain ⟨b, o, sp⟩ := a
        have hsp := spot_of_cell (c0.trans (by rfl : _ = some (Value.int .i64 (g 0).thread)))
        have hsp' : sp = none := by
          cases sp with
          | none => rfl
          | some s => simp [Addr.add] at hsp
        subst hsp'
        rw [add_none, add_none] at c0
        refine ⟨b, o, rfl, block_lt_of_cell (c0.trans (by rfl : _ = some (Value.int .i64 (g 0).thread))), fun k v hk' => ?_⟩
        have hkl : k < len * 7 := by
          have := (List.getElem?_eq_some_iff.1 hk').1
          rw [accs_length, hlen] at this
          exact this
        have hd : k / 7 * 7 + k % 7 = k := by omega
        have hat := accs_at (l := (List.range len).map g) (k := k / 7) (by omega) (k % 7) (by omega)
        rw [hd, hk'] at hat
        have hgd : ((List.range len).map g).getD (k / 7) Acc.none = g (k / 7) := by
          have : k / 7 < len := by omega
          simp [List.getD, this]
        rw [hgd] at hat
        have hck := (hg (k / 7) (by omega)).1 (k % 7) (by omega)
        rw [add_none, add_none, Nat.add_assoc, hd, ← hat] at hck
        exact hck
    · simp only [List.mem_map, List.mem_range] at hb
      obtain ⟨i, hil, rfl⟩ := hb
      exact (hg i hil).2
end

end Go.Proofs.Ytmllbailfbjoeaa

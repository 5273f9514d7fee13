/- How halls, and cells, are opened, as arguments: no list longer than the bulk allows. -/
import Derived.Test.YtalkllfgedacoaaGreatDoorO24
import Derived.Test.YtalkllfgedacoaaGreatDoorO16
import Derived.Test.YtalkllfgedacoaaGreatDoorO18
import Derived.Test.YtalkllfgedacoaaGreatDoorO23
namespace Go.Proofs.YtalkllfgedacoaaGreatDoor
open Go.RowKit Go.Sort

theorem own_ne {w : World} {base : Nat} {t : TypeId} {s n c : Nat} {A : Option Addr} {xs : List Value} (h : w.ownsRow base t s (.slice A n c) n xs) : some w.heap.size ≠ Value.ownBlock (.slice A n c) := by
  rcases h.2 with ⟨hv, _⟩ | ⟨g, cap, cur, hv, _, hg, _⟩
  · rw [hv]; simp [Value.ownBlock]
  · rw [hv]
    have := (Array.getElem?_eq_some_iff.1 hg).1
    simp only [Value.ownBlock, ne_eq, Option.some.injEq]
    omega

theorem lines_one {α : Type} {f : Int → α → List ByteArray} {d : α} {l : List α} (h : ∀ i x, (f i x).length = 1) : ∀ k, (linesS f d l k).length = k
  | 0 => rfl
  | k + 1 => by
    rw [linesS, List.length_append, lines_one h k, h]
theorem lines_done (dl : List Resr) (k : Nat) (h : dl.length = k) : (donesS dl).length = k := by
  rw [donesS, h]
  exact lines_one (fun _ _ => rfl) k

set_option maxHeartbeats 8000000 in
set_option maxRecDepth 100000 in
theorem rdone_any (dA : Option Addr) (dn dc : Nat) (dl : List Resr) (w : World) (hl : dl.length = dn) (hn : dn ≤ 1048576) (hi : ∀ x ∈ dl, In64 x.seq ∧ In64 x.value ∧ In64 x.case_) (hA : Rd w dA (rows dl)) :
    Calls Tryz.prog 44 #[.slice dA dn dc] w fun e w' => ∃ A c, e = .returned (.slice A dn c) ∧ w'.ownsRow w.heap.size 9 1 (.slice A dn c) dn (rows (donesS dl)) ∧ Below w.heap.size w w' := by
  obtain ⟨W1, hW1⟩ : ∃ W1 : World, W1 = w := ⟨_, rfl⟩
  rw [← hW1] at hA ⊢
  clear hW1
  have HDR := Lib.hid hA
  have HDL := Lib.hid hl
  have HDI := Lib.hid hi
  generalize hPe : (fun (_ : World) => True) = P at *
  have HPZ : RowKit.Hid (P W1) := Lib.hid (by rw [← hPe]; trivial)
  have HBL : RowKit.Hid (∀ (w w' : World), P w → Below w.heap.size w w' → P w') := Lib.hid (by rw [← hPe]; exact fun _ _ _ _ => trivial)
  clear hA hl hi hPe
  go_enter Tryz.func44, Tryz.ntmps44
  go_wp2_with fail
  go_loopg [8, 3] dn (fun gg i s wr => ∃ (k m : Nat) (A : Option Addr) (cp : Nat), k ≤ dn ∧ gg = dn - k ∧ i = .int .i64 k ∧ s = .slice A m cp ∧ m ≤ 2200000 + k ∧ m = (([] : List ByteArray) ++ linesS doneL Resr.none dl k).length ∧ wr.ownsRow W1.heap.size 9 1 (.slice A m cp) m (rows (([] : List ByteArray) ++ linesS doneL Resr.none dl k)) ∧ Below W1.heap.size W1 wr)
  case atStart => exact ⟨0, 0, none, 0, Nat.zero_le _, rfl, rfl, rfl, by omega, by rw [linesS, List.append_nil]; exact rfl, by rw [linesS, List.append_nil]; exact own_nil _ _ _ _, Below.refl _ _⟩
  case round =>
    obtain ⟨k, m, A, cp, hk, hg, rfl, rfl, hm, hml, hown, hb⟩ := hrel
    have HG := Lib.hid hg
    have HO := Lib.hid hown
    have HB := Lib.hid hb
    have HML := Lib.hid hml
    clear hg hown hb hml
    by_cases hlt : k < dn
    · have q1 : (k : Int) < ((dn : Nat) : Int) := by omega
      have hkl : k < dl.length := by rw [HDL.out]; exact hlt
      obtain ⟨b2, o2, hA, hbl, hcl⟩ := (HDR.out.below HB.out).at_ (by rw [rows_length]; exact Nat.mul_pos (by omega) (by decide))
      subst hA
      obtain ⟨y0, y1, y2, y3⟩ := rsr_cells hcl hkl rfl
      have HIN := Lib.hid (HDI.out (dl.getD k Resr.none) (by rw [List.getD, List.getElem?_eq_getElem hkl]; exact List.getElem_mem hkl))
      have HTK : RowKit.Hid (([] : List ByteArray) ++ linesS doneL Resr.none dl (k + 1) = (([] : List ByteArray) ++ linesS doneL Resr.none dl k) ++ [doneS (k : Int) (dl.getD k Resr.none)]) := Lib.hid (by
        rw [linesS, ← List.append_assoc]
        rfl)
      clear hcl hkl
      generalize dl.getD k Resr.none = x at *
      generalize ([] : List ByteArray) ++ linesS doneL Resr.none dl k = LL at *
      obtain ⟨rs, rc, re, rv⟩ := x
      simp only at y0 y1 y2 y3 HIN
      have HKI : In64 (k : Int) := ⟨by omega, by omega⟩
      have HE1 := Lib.hid (fun W (h : P W) => rdec_any (k : Int) W HKI)
      have HE2 := Lib.hid (fun W (h : P W) => rRes_any ⟨rs, rc, re, rv⟩ W HIN.out.1 HIN.out.2.1 HIN.out.2.2)
      unfold rsV at HE2
      simp only at HE2
      have hz1 := itoaS_size HKI
      have hz2 := resS_size (r := ⟨rs, rc, re, rv⟩) HIN.out.1 HIN.out.2.1 HIN.out.2.2
      unfold doneS at HTK
      generalize itoaS (k : Int) = z1 at *
      generalize resS ⟨rs, rc, re, rv⟩ = z2 at *
      have d0 : ¬ 9223372036854775807 < 5 + z1.size := by omega
      have d1 : ¬ 9223372036854775807 < 5 + z1.size + 1 := by omega
      have d2 : ¬ 9223372036854775807 < 5 + z1.size + 1 + z2.size := by omega
      clear hz1 hz2 HKI
      have HPX := Lib.hid (HBL.out _ _ HPZ.out HB.out)
      go_upto_region 5 with (fail)
      have HBX : RowKit.Hid (Blk (wr.alloc (.cells #[.int .i64 rs, .int .i64 rc, .int .i64 re, .int .i64 rv] 36)) wr.heap.size 36 [.int .i64 rs, .int .i64 rc, .int .i64 re, .int .i64 rv]) := Lib.hid (Blk.new wr _ _)
      have HBA := Lib.hid ((Below.refl wr.heap.size wr).alloc (Nat.le_refl _) (.cells #[.int .i64 rs, .int .i64 rc, .int .i64 re, .int .i64 rv] 36))
      have HBWA := Lib.hid (HB.out.alloc HB.out.size (.cells #[.int .i64 rs, .int .i64 rc, .int .i64 re, .int .i64 rv] 36))
      have HPW := Lib.hid (HBL.out _ _ HPX.out HBA.out)
      have HOA := Lib.hid (fun (v : World) (h : Below (wr.alloc (.cells #[.int .i64 rs, .int .i64 rc, .int .i64 re, .int .i64 rv] 36)).heap.size (wr.alloc (.cells #[.int .i64 rs, .int .i64 rc, .int .i64 re, .int .i64 rv] 36)) v) => own_below HO.out (HBA.out.trans (h.mono HBA.out.size)))
      have HNE := Lib.hid (own_ne HO.out)
      generalize wr.alloc (.cells #[.int .i64 rs, .int .i64 rc, .int .i64 re, .int .i64 rv] 36) = WA at *
      generalize wr.heap.size = br at *
      have y4 := HBX.out.cell (i := 0) rfl
      have y5 := HBX.out.cell (i := 1) rfl
      have y6 := HBX.out.cell (i := 2) rfl
      have y7 := HBX.out.cell (i := 3) rfl
      have hgl := HBX.out.lt
      have HP0 : RowKit.Hid (P WA.drew) := Lib.hid (HBL.out _ _ HPW.out (Below.drewN' (Below.refl _ _) 1))
      go_region_held3 (fun w' => w'.cell? ⟨br, 0, none⟩ = some (.int .i64 rs) ∧ w'.cell? ⟨br, 1, none⟩ = some (.int .i64 rc) ∧ w'.cell? ⟨br, 2, none⟩ = some (.int .i64 re) ∧ w'.cell? ⟨br, 3, none⟩ = some (.int .i64 rv)) (first | go_keep | (simp only [hk0]; go_keep)) (first
        | (go_at_call 37; (with_reducible refine (HE1.out WA.drew HP0.out).mono ?_); rintro er v1 ⟨rfl, hb1⟩; have hB1 : Below WA.heap.size WA v1 := ⟨hb1.os, hb1.tape, hb1.output, hb1.size, hb1.block⟩; have hk0 := fun o => hB1.cell (p := ⟨br, o, none⟩) hgl; have HP1 := Lib.hid (HBL.out _ _ HPW.out hB1))
        | (go_at_call 39; (with_reducible refine (HE2.out v1 HP1.out).mono ?_); rintro er v2 ⟨rfl, hb2⟩; have hB2 : Below WA.heap.size WA v2 := hB1.trans (hb2.mono hB1.size); have hk0 := fun o => hB2.cell (p := ⟨br, o, none⟩) hgl; have HP2 := Lib.hid (HBL.out _ _ HPW.out hB2))
        | (refine step_app ?_ (.tmp 13) (.tmp 21) 57 9 ?_ W1.heap.size (.string ⟨#[]⟩) 1 16 Tryz.underlying57 str_info ?_ ?_ A m cp (rows LL) ?_ ((HOA.out v2 hB2).alloc _) _ 1 1 (rows [⟨#[100, 111, 110, 101, 32]⟩ ++ z1 ++ ⟨#[32]⟩ ++ z2]) (by rfl) ?_ ?_ ?_ (rows_one _) (m + 1) rfl (rows LL ++ rows [⟨#[100, 111, 110, 101, 32]⟩ ++ z1 ++ ⟨#[32]⟩ ++ z2]) rfl ?_ ?_ ?_ ?_; rfl; rfl; rfl; decide; rfl; simp; rfl; exact (blk_new (cs := rows [⟨#[100, 111, 110, 101, 32]⟩ ++ z1 ++ ⟨#[32]⟩ ++ z2]) (by rfl)).rd; (unfold maxLen; omega); omega; (focus (have := hB2.size; have := HBWA.out.size; rw [World.size_alloc]; omega)); intro A4 d4 w4 hown4 hg4 hb4; have hB4 : Below W1.heap.size W1 w4 := ((HBWA.out.trans (hB2.mono HBWA.out.size)).alloc (HBWA.out.trans (hB2.mono HBWA.out.size)).size _).trans hb4; have hX4 := blk_grown ((HBX.out.below hB2 hgl).alloc _) hg4 HNE.out; have f0 := hX4.cell (i := 0) rfl; have f1 := hX4.cell (i := 1) rfl; have f2 := hX4.cell (i := 2) rfl; have f3 := hX4.cell (i := 3) rfl))
      have HO4 := Lib.hid hown4
      have HB4 := Lib.hid hB4
      clear hX4 f0 f1 f2 f3 hk0 hown4 hg4 hb4 hB4
      go_wp2_with fail
      go_roundg (dn - (k + 1))
      case measure => rw [HG.out]; omega
      case rel => exact ⟨k + 1, m + 1, A4, d4, by omega, rfl, by go_num, rfl, by omega, by rw [HTK.out, List.length_append, HML.out]; rfl, by rw [HTK.out, rows_append]; exact HO4.out, HB4.out⟩
    · obtain rfl : k = dn := by omega
      have q1 : ¬ (k : Int) < (k : Int) := by omega
      have HF : RowKit.Hid (([] : List ByteArray) ++ linesS doneL Resr.none dl k = ([] : List ByteArray) ++ donesS dl) := Lib.hid (by rw [donesS, HDL.out])
      have HN : RowKit.Hid (m = k) := Lib.hid (by rw [HML.out, HF.out, List.nil_append]; exact lines_done dl k HDL.out)
      have hmk := HN.out
      subst hmk
      go_wp2_with fail
      go_ret
      exact ⟨A, cp, rfl, by have h := HO.out; rw [HF.out, List.nil_append] at h; exact h, HB.out⟩

end Go.Proofs.YtalkllfgedacoaaGreatDoor

namespace Go.Proofs.YtalkllfgedacoaaGreatDoor
open Go.RowKit Go.Sort

theorem rd_one (v : World) (X : ByteArray) : Rd (v.alloc (.cells #[.string X] 9)) (some ⟨v.heap.size, 0, none⟩) (rows [X]) := (blk_new (cs := rows [X]) rfl).rd
theorem in64_zero : In64 0 := ⟨by decide, by decide⟩
/-- What a hall's lines read of the world. -/
structure HIn (chans : List Chn) (waits : List Wtr) (w : World) : Prop where
  tab : TabT w
  err : ErrT w
  ml : MLT w
  bufs : ∀ x ∈ chans, Rd w x.A (ints x.buf)
  cses : ∀ x ∈ waits, Rd w x.A (rows x.cs)
theorem HIn.below {chans : List Chn} {waits : List Wtr} {w w' : World} (h : HIn chans waits w) (hb : Below w.heap.size w w') : HIn chans waits w' :=
  ⟨h.tab.below hb, h.err.below hb, h.ml.below hb, fun x hx => (h.bufs x hx).below hb, fun x hx => (h.cses x hx).below hb⟩
structure ChnIn (x : Chn) : Prop where
  gen : In64 x.gen
  cap : In64 x.cap
  len : x.buf.length ≤ 1048576
  buf : ∀ y ∈ x.buf, In64 y
structure WtrIn (x : Wtr) : Prop where
  ticket : In64 x.ticket
  len : x.cs.length ≤ 1048570
  cs : ∀ k ∈ x.cs, In64 k.handle ∧ In64 k.value

end Go.Proofs.YtalkllfgedacoaaGreatDoor

namespace Go.Proofs.YtalkllfgedacoaaGreatDoor
open Go.ChangeShapes Go.WideShapes Go.ChangeAt Go.RowKit Go.Deep

section
variable {H : Type} {enc : TypeId × Value → H} {P : Program} {w : World} {base : Nat} {spare : Nat → Bool} {held : Bool}

/-- A slice of records that came in, as a list. -/
theorem rd_recsQ {α : Type} [C : Cellful α] (Q : DataW H → Prop) (Ok : α → Prop) {t e : TypeId} {n : Nat} {x : Value} {y : DataW H × List MemPlace} (ht : P.underlying t = some (.slice e)) (hC : P.cellsOf e = C.s) (hpos : 0 < C.s)
    (hopen : ∀ (n : Nat) (cs : List Value) (y : DataW H × List MemPlace), DataW.trod enc P w base (fun _ => true) held n e cs = some y → Q y.1 → ∃ a : α, cs = C.cells a ∧ Ok a)
    (h : DataW.trod enc P w base (fun _ => true) held n t [x] = some y) (hq : ∀ es sp, y.1 = .slice es sp → ∀ d ∈ es, Q d) :
    ∃ (A : Option Addr) (l : List α) (cap : Nat), x = .slice A l.length cap ∧ Rd w A (rows l) ∧ l.length ≤ maxLen ∧ l.length ≤ cap ∧ (A = none → cap = 0) ∧ (∀ a ∈ l, Ok a) := by
  rcases open_slice ht h with ⟨hcs, _⟩ | ⟨a, len, cap, m, n', D, Pl, hcs, _, hl, hm, hmm, hx, hi⟩
  · simp only [List.cons.injEq, and_true] at hcs
    exact ⟨none, [], 0, hcs, .inl rfl, by simp, by simp, fun _ => rfl, by simp⟩
  · simp only [List.cons.injEq, and_true] at hcs
    simp only [if_true] at hmm
    subst hmm
    have hfit : ∀ i, i < len → Q (D i) := fun i hil => hq _ _ (by rw [hx]) (D i) (List.mem_map.2 ⟨i, List.mem_range.2 hil, rfl⟩)
    rw [hC] at hi
    have hall : ∀ i, i < len → ∃ b : α, (∀ j, j < C.s → w.cell? ((a.add (i * C.s)).add j) = (C.cells b)[j]?) ∧ Ok b := by
      intro i hil
      obtain ⟨cs', hc, ht'⟩ := hi i (by omega)
      obtain ⟨b, rfl, hb⟩ := hopen _ _ _ ht' (hfit i hil)
      obtain ⟨_, _, hat⟩ := World.cells?_some hc
      exact ⟨b, fun j hj => hat j hj, hb⟩
    have hall' : ∀ i, ∃ b : α, i < len → (∀ j, j < C.s → w.cell? ((a.add (i * C.s)).add j) = (C.cells b)[j]?) ∧ Ok b := fun i => by
      by_cases hil : i < len
      · obtain ⟨b, hb⟩ := hall i hil
        exact ⟨b, fun _ => hb⟩
      · exact ⟨C.dflt, fun h => absurd h hil⟩
    obtain ⟨g, hg⟩ := Classical.axiomOfChoice hall'
    have hlen : ((List.range len).map g).length = len := by simp
    refine ⟨some a, (List.range len).map g, m, by rw [hlen]; exact hcs, ?_, by omega, by omega, (fun h => by cases h), fun b hb => ?_⟩
    · rcases Nat.eq_zero_or_pos len with h0 | h0
      · left; simp [h0, rows]
      · right
        have c0 := (hg 0 h0).1 0 hpos
        have hsome : ∃ v, (C.cells (g 0))[0]? = some v := ⟨_, List.getElem?_eq_getElem (by rw [C.len]; exact hpos)⟩
        obtain ⟨v0, hv0⟩ := hsome
        rw [hv0] at c0
        obtain ⟨b, o, sp⟩ := a
        have hsp := spot_of_cell c0
        have hsp' : sp = none := by
          cases sp with
          | none => rfl
          | some s => simp [Addr.add] at hsp
        subst hsp'
        rw [addr_add, addr_add] at c0
        refine ⟨b, o, rfl, block_lt_of_cell c0, fun k v hk' => ?_⟩
        have hkl : k < len * C.s := by
          have := (List.getElem?_eq_some_iff.1 hk').1
          rw [rows_length, hlen] at this
          exact this
        have hd : k / C.s * C.s + k % C.s = k := by rw [Nat.mul_comm]; exact Nat.div_add_mod k C.s
        have hq : k / C.s < len := (Nat.div_lt_iff_lt_mul hpos).2 hkl
        have hr : k % C.s < C.s := Nat.mod_lt _ hpos
        have hat := rows_at (l := (List.range len).map g) (k := k / C.s) (by omega) (k % C.s) hr
        rw [hd, hk'] at hat
        have hgd : ((List.range len).map g).getD (k / C.s) C.dflt = g (k / C.s) := by
          simp [List.getD, hq]
        rw [hgd] at hat
        have hck := (hg (k / C.s) hq).1 (k % C.s) hr
        rw [addr_add, addr_add, Nat.add_assoc, hd, ← hat] at hck
        exact hck
    · simp only [List.mem_map, List.mem_range] at hb
      obtain ⟨i, hil, rfl⟩ := hb
      exact (hg i hil).2

end

theorem bulk_mem {H : Type} {d : DataW H} : ∀ {l : List (DataW H)}, d ∈ l → Rows.uptoBulk d ≤ Rows.uptoBulkAll l
  | x :: r, h => by
    simp only [Rows.uptoBulkAll]
    rcases List.mem_cons.1 h with rfl | h
    · omega
    · have := bulk_mem h; omega

section
variable {H : Type} {enc : TypeId × Value → H} {P : Program} {w : World} {base : Nat} {spare : Nat → Bool} {held : Bool}

theorem slice_len {t e : TypeId} {n m c : Nat} {A : Option Addr} {y : DataW H × List MemPlace} (ht : P.underlying t = some (.slice e)) (h : DataW.trod enc P w base (fun _ => true) held n t [.slice A m c] = some y) : m + 1 ≤ Rows.uptoBulk y.1 := by
  rcases open_slice ht h with ⟨hcs, hy⟩ | ⟨a, len, cap', m', n', D, Pl, hcs, _, hl, hm, hmm, hy, hi⟩
  · simp only [List.cons.injEq, and_true] at hcs
    injection hcs with h1 h2 h3
    have := bulk_pos y.1
    omega
  · simp only [List.cons.injEq, and_true] at hcs
    injection hcs with h1 h2 h3
    rw [hy]
    simp only [Rows.uptoBulk]
    have h4 := bulk_len ((List.range len).map D)
    rw [List.length_map, List.length_range] at h4
    omega

theorem rd_recsB {α : Type} [C : Cellful α] (N : Nat) (Ok : α → Prop) {t e : TypeId} {n : Nat} {x : Value} {y : DataW H × List MemPlace} (ht : P.underlying t = some (.slice e)) (hC : P.cellsOf e = C.s) (hpos : 0 < C.s)
    (hopen : ∀ (n : Nat) (cs : List Value) (y : DataW H × List MemPlace), DataW.trod enc P w base (fun _ => true) held n e cs = some y → Rows.uptoBulk y.1 ≤ N → ∃ a : α, cs = C.cells a ∧ Ok a)
    (h : DataW.trod enc P w base (fun _ => true) held n t [x] = some y) (hb : Rows.uptoBulk y.1 ≤ N) :
    ∃ (A : Option Addr) (l : List α) (cap : Nat), x = .slice A l.length cap ∧ Rd w A (rows l) ∧ (∀ a ∈ l, Ok a) ∧ l.length + 1 ≤ Rows.uptoBulk y.1 := by
  have h' := h
  obtain ⟨A, l, cap, rfl, hR, _, _, _, hok⟩ := rd_recsQ (fun d => Rows.uptoBulk d ≤ N) Ok ht hC hpos hopen h (fun es sp he d hd => by
    have h1 := bulk_mem hd
    rw [he] at hb
    simp only [Rows.uptoBulk] at hb
    omega)
  exact ⟨A, l, cap, rfl, hR, hok, slice_len ht h'⟩
end

section
variable {H : Type} {enc : TypeId × Value → H} {w : World} {base : Nat} {held : Bool}

set_option maxRecDepth 100000 in
theorem open_chan {n : Nat} {cs : List Value} {y : DataW H × List MemPlace} (h : DataW.trod enc Tryz.prog w 0 (fun _ => true) held n 91 cs = some y) (hb : Rows.uptoBulk y.1 ≤ 1048572) : ∃ a : Chn, cs = Chn.cells a ∧ ChnIn a ∧ Rd w a.A (ints a.buf) := by
  have hl := fld_len Tryz.underlying91 h
  rw [show Tryz.prog.cellsOf 91 = 5 by kernel_rfl] at hl
  have c1 : Tryz.prog.cellsOf 3 = 1 := by kernel_rfl
  have cb : Tryz.prog.cellsOf 4 = 1 := by kernel_rfl
  have ci : Tryz.prog.cellsOf 53 = 1 := by kernel_rfl
  obtain ⟨_, _, h0⟩ := fld Tryz.underlying91 h 0 0 1 3 rfl c1
  obtain ⟨_, _, h1⟩ := fld Tryz.underlying91 h 1 1 1 3 rfl c1
  obtain ⟨_, _, h2⟩ := fld Tryz.underlying91 h 2 2 1 4 rfl cb
  obtain ⟨_, _, h3⟩ := fld Tryz.underlying91 h 3 3 1 4 rfl cb
  obtain ⟨y4, _, h4, f4⟩ := fldB Tryz.underlying91 h 4 4 1 53 rfl ci
  obtain ⟨z0, e0, w0⟩ := leaf_int Tryz.underlying3 h0
  obtain ⟨z1, e1, w1⟩ := leaf_int Tryz.underlying3 h1
  obtain ⟨z2, e2⟩ := leaf_bool Tryz.underlying4 h2
  obtain ⟨z3, e3⟩ := leaf_bool Tryz.underlying4 h3
  obtain ⟨x4, e4, h4'⟩ := leaf_sliceW Tryz.underlying53 h4
  have h5 := h4'
  obtain ⟨A, l, cap, rfl, hR, _, _, hwf⟩ := rd_ints Tryz.underlying53 Tryz.underlying3 c1 h4'
  have hs := slice_len Tryz.underlying53 h5
  have f4' : Rows.uptoBulk y4.1 + 1 ≤ Rows.uptoBulk y.1 := Nat.le_trans (Nat.add_le_add_left (by decide) _) f4
  refine ⟨⟨z0, z1, z2, z3, A, cap, l⟩, ?_, ⟨in64_of w0, in64_of w1, by show l.length ≤ _; omega, fun x hx => in64_of (hwf x hx)⟩, hR⟩
  match cs, hl with
  | [a0, a1, a2, a3, a4], _ =>
    simp at e0 e1 e2 e3 e4
    subst e0 e1 e2 e3 e4
    rfl

set_option maxRecDepth 100000 in
theorem open_wait {n : Nat} {cs : List Value} {y : DataW H × List MemPlace} (h : DataW.trod enc Tryz.prog w 0 (fun _ => true) held n 94 cs = some y) (hb : Rows.uptoBulk y.1 ≤ 1048572) : ∃ a : Wtr, cs = Wtr.cells a ∧ WtrIn a ∧ Rd w a.A (rows a.cs) := by
  have hl := fld_len Tryz.underlying94 h
  rw [show Tryz.prog.cellsOf 94 = 4 by kernel_rfl] at hl
  have c1 : Tryz.prog.cellsOf 3 = 1 := by kernel_rfl
  have cb : Tryz.prog.cellsOf 4 = 1 := by kernel_rfl
  have ci : Tryz.prog.cellsOf 22 = 1 := by kernel_rfl
  obtain ⟨_, _, h0⟩ := fld Tryz.underlying94 h 0 0 1 4 rfl cb
  obtain ⟨_, _, h1⟩ := fld Tryz.underlying94 h 1 1 1 3 rfl c1
  obtain ⟨_, _, h2⟩ := fld Tryz.underlying94 h 2 2 1 3 rfl c1
  obtain ⟨y3, _, h4, f3⟩ := fldB Tryz.underlying94 h 3 3 1 22 rfl ci
  obtain ⟨z0, e0⟩ := leaf_bool Tryz.underlying4 h0
  obtain ⟨z1, e1, w1⟩ := leaf_int Tryz.underlying3 h1
  obtain ⟨z2, e2, w2⟩ := leaf_int Tryz.underlying3 h2
  obtain ⟨x4, e4, h4'⟩ := leaf_sliceW Tryz.underlying22 h4
  obtain ⟨A, l, cap, rfl, hR, hok, hcap, hs⟩ := rd_recsN (α := Cse) (fun a => In64 a.dir ∧ In64 a.handle ∧ In64 a.value) Tryz.underlying22 (by kernel_rfl) (by decide) (fun n cs y h => open_case h) h4'
  have f4' : Rows.uptoBulk y3.1 + 4 ≤ Rows.uptoBulk y.1 := f3
  refine ⟨⟨z0, z1, z2, A, cap, l⟩, ?_, ⟨in64_of w1, by show l.length ≤ _; omega, fun x hx => ⟨(hok x hx).2.1, (hok x hx).2.2⟩⟩, hR⟩
  match cs, hl with
  | [a0, a1, a2, a3], _ =>
    simp at e0 e1 e2 e4
    subst e0 e1 e2 e4
    rfl

set_option maxRecDepth 100000 in
theorem open_result {n : Nat} {cs : List Value} {y : DataW H × List MemPlace} (h : DataW.trod enc Tryz.prog w 0 (fun _ => true) held n 36 cs = some y) : ∃ a : Resr, cs = Resr.cells a ∧ In64 a.seq ∧ In64 a.value ∧ In64 a.case_ := by
  have hl := fld_len Tryz.underlying36 h
  rw [show Tryz.prog.cellsOf 36 = 4 by kernel_rfl] at hl
  have c1 : Tryz.prog.cellsOf 3 = 1 := by kernel_rfl
  have ce : Tryz.prog.cellsOf 34 = 1 := by kernel_rfl
  obtain ⟨_, _, h0⟩ := fld Tryz.underlying36 h 0 0 1 3 rfl c1
  obtain ⟨_, _, h1⟩ := fld Tryz.underlying36 h 1 1 1 3 rfl c1
  obtain ⟨_, _, h2⟩ := fld Tryz.underlying36 h 2 2 1 34 rfl ce
  obtain ⟨_, _, h3⟩ := fld Tryz.underlying36 h 3 3 1 3 rfl c1
  obtain ⟨z0, e0, w0⟩ := leaf_int Tryz.underlying3 h0
  obtain ⟨z1, e1, w1⟩ := leaf_int Tryz.underlying3 h1
  obtain ⟨z2, e2, w2⟩ := leaf_int Tryz.underlying34 h2
  obtain ⟨z3, e3, w3⟩ := leaf_int Tryz.underlying3 h3
  refine ⟨⟨z0, z1, z2, z3⟩, ?_, in64_of w0, in64_of w3, in64_of w1⟩
  match cs, hl with
  | [a0, a1, a2, a3], _ =>
    simp at e0 e1 e2 e3
    subst e0 e1 e2 e3
    rfl

set_option maxRecDepth 100000 in
theorem hall_arg {v : Value} {d : DataW H} {p : List MemPlace} (hv : Value.okWide Tryz.prog w .any base 52 v) (h : DataW.Trod enc Tryz.prog w 0 (fun _ => true) held 52 v d p) (hb : Rows.uptoBulk d ≤ 1048576) :
    ∃ (t : Int) (A : Option Addr) (ac : Nat) (chans : List Chn) (B : Option Addr) (bc : Nat) (waits : List Wtr) (D : Option Addr) (dc : Nat) (dl : List Resr),
      v = .agg #[.int .i64 t, .slice A chans.length ac, .slice B waits.length bc, .slice D dl.length dc] ∧ In64 t ∧ chans.length ≤ 1048576 ∧ (∀ x ∈ chans, ChnIn x ∧ Rd w x.A (ints x.buf)) ∧ Rd w A (rows chans) ∧
      waits.length ≤ 1048576 ∧ (∀ x ∈ waits, WtrIn x ∧ Rd w x.A (rows x.cs)) ∧ Rd w B (rows waits) ∧ dl.length ≤ 1048576 ∧ (∀ x ∈ dl, In64 x.seq ∧ In64 x.value ∧ In64 x.case_) ∧ Rd w D (rows dl) := by
  obtain ⟨cs, rfl, _⟩ := okWide_struct Tryz.underlying52 hv
  obtain ⟨n, hn⟩ := h
  obtain ⟨cs⟩ := cs
  have hn : DataW.trod enc Tryz.prog w 0 (fun _ => true) held n 52 cs = some (d, p) := hn
  have hl := fld_len Tryz.underlying52 hn
  rw [show Tryz.prog.cellsOf 52 = 4 by kernel_rfl] at hl
  have c1 : Tryz.prog.cellsOf 3 = 1 := by kernel_rfl
  have ca : Tryz.prog.cellsOf 48 = 1 := by kernel_rfl
  have cb : Tryz.prog.cellsOf 49 = 1 := by kernel_rfl
  have cd : Tryz.prog.cellsOf 50 = 1 := by kernel_rfl
  obtain ⟨_, _, h0⟩ := fld Tryz.underlying52 hn 0 0 1 3 rfl c1
  obtain ⟨y1, _, h1, f1⟩ := fldB Tryz.underlying52 hn 1 1 1 48 rfl ca
  obtain ⟨y2, _, h2, f2⟩ := fldB Tryz.underlying52 hn 2 2 1 49 rfl cb
  obtain ⟨y3, _, h3, f3⟩ := fldB Tryz.underlying52 hn 3 3 1 50 rfl cd
  obtain ⟨z0, e0, w0⟩ := leaf_int Tryz.underlying3 h0
  obtain ⟨x1, e1, k1⟩ := leaf_sliceW Tryz.underlying48 h1
  obtain ⟨x2, e2, k2⟩ := leaf_sliceW Tryz.underlying49 h2
  obtain ⟨x3, e3, k3⟩ := leaf_sliceW Tryz.underlying50 h3
  have g1 : Rows.uptoBulk y1.1 + 4 ≤ Rows.uptoBulk d := f1
  have g2 : Rows.uptoBulk y2.1 + 4 ≤ Rows.uptoBulk d := f2
  have g3 : Rows.uptoBulk y3.1 + 4 ≤ Rows.uptoBulk d := f3
  obtain ⟨A, chans, ac, rfl, r1, o1, s1⟩ := rd_recsB (α := Chn) 1048572 (fun a => ChnIn a ∧ Rd w a.A (ints a.buf)) Tryz.underlying48 (by kernel_rfl) (by decide) (fun n cs y h hb => open_chan h hb) k1 (by omega)
  obtain ⟨B, waits, bc, rfl, r2, o2, s2⟩ := rd_recsB (α := Wtr) 1048572 (fun a => WtrIn a ∧ Rd w a.A (rows a.cs)) Tryz.underlying49 (by kernel_rfl) (by decide) (fun n cs y h hb => open_wait h hb) k2 (by omega)
  obtain ⟨D, dl, dc, rfl, r3, o3, _, s3⟩ := rd_recsN (α := Resr) (fun a => In64 a.seq ∧ In64 a.value ∧ In64 a.case_) Tryz.underlying50 (by kernel_rfl) (by decide) (fun n cs y h => open_result h) k3
  match cs, hl with
  | [a0, a1, a2, a3], _ =>
    simp at e0 e1 e2 e3
    subst e0 e1 e2 e3
    exact ⟨z0, A, ac, chans, B, bc, waits, D, dc, dl, rfl, in64_of w0, by omega, o1, r1, by omega, o2, r2, by omega, o3, r3⟩

set_option maxRecDepth 100000 in
theorem cells_arg {v : Value} {d : DataW H} {p : List MemPlace} (hv : Value.okWide Tryz.prog w .any base 55 v) (h : DataW.Trod enc Tryz.prog w 0 (fun _ => true) held 55 v d p) (hb : Rows.uptoBulk d ≤ 1048576) :
    ∃ (t : Int) (A : Option Addr) (ac : Nat) (l : List Int) (D : Option Addr) (dc : Nat) (dl : List Resr),
      v = .agg #[.int .i64 t, .slice A l.length ac, .slice D dl.length dc] ∧ In64 t ∧ l.length ≤ 1048576 ∧ (∀ x ∈ l, In64 x) ∧ Rd w A (ints l) ∧ dl.length ≤ 1048576 ∧ (∀ x ∈ dl, In64 x.seq ∧ In64 x.value ∧ In64 x.case_) ∧ Rd w D (rows dl) := by
  obtain ⟨cs, rfl, _⟩ := okWide_struct Tryz.underlying55 hv
  obtain ⟨n, hn⟩ := h
  obtain ⟨cs⟩ := cs
  have hn : DataW.trod enc Tryz.prog w 0 (fun _ => true) held n 55 cs = some (d, p) := hn
  have hl := fld_len Tryz.underlying55 hn
  rw [show Tryz.prog.cellsOf 55 = 3 by kernel_rfl] at hl
  have c1 : Tryz.prog.cellsOf 3 = 1 := by kernel_rfl
  have ca : Tryz.prog.cellsOf 53 = 1 := by kernel_rfl
  have cd : Tryz.prog.cellsOf 50 = 1 := by kernel_rfl
  obtain ⟨_, _, h0⟩ := fld Tryz.underlying55 hn 0 0 1 3 rfl c1
  obtain ⟨y1, _, h1, f1⟩ := fldB Tryz.underlying55 hn 1 1 1 53 rfl ca
  obtain ⟨y2, _, h3, f2⟩ := fldB Tryz.underlying55 hn 2 2 1 50 rfl cd
  obtain ⟨z0, e0, w0⟩ := leaf_int Tryz.underlying3 h0
  obtain ⟨x1, e1, k1⟩ := leaf_sliceW Tryz.underlying53 h1
  obtain ⟨x3, e3, k3⟩ := leaf_sliceW Tryz.underlying50 h3
  have g1 : Rows.uptoBulk y1.1 + 3 ≤ Rows.uptoBulk d := f1
  have g3 : Rows.uptoBulk y2.1 + 3 ≤ Rows.uptoBulk d := f2
  have k5 := k1
  obtain ⟨A, l, ac, rfl, r1, _, _, hwf⟩ := rd_ints Tryz.underlying53 Tryz.underlying3 c1 k1
  have s1 := slice_len Tryz.underlying53 k5
  obtain ⟨D, dl, dc, rfl, r3, o3, _, s3⟩ := rd_recsN (α := Resr) (fun a => In64 a.seq ∧ In64 a.value ∧ In64 a.case_) Tryz.underlying50 (by kernel_rfl) (by decide) (fun n cs y h => open_result h) k3
  match cs, hl with
  | [a0, a1, a2], _ =>
    simp at e0 e1 e3
    subst e0 e1 e3
    exact ⟨z0, A, ac, l, D, dc, dl, rfl, in64_of w0, by omega, fun x hx => in64_of (hwf x hx), r1, by omega, o3, r3⟩
end

end Go.Proofs.YtalkllfgedacoaaGreatDoor

/- The example that each law of aspects ends with. -/
import Derived.Test.YtmllbailfbjoeaaAsp10
import Derived.Test.YtmllbailfbjoeaaAsp5
import Derived.Test.YtmllbailfbjoeaaEq
namespace Go.Proofs.Ytmllbailfbjoeaa
open Go.RowKit Go.Sort

abbrev zN : Value := .agg #[.int .i64 0, .int .i64 0, .int .i64 0, .int .i64 0, .int .i64 0, .int .i64 0, .int .i64 0, .bool false, .slice none 0 0, .int .i64 0, .int .i64 0, .int .i64 0, .int .i64 0]
theorem Nte_info : (Try.prog.info? 119).map (fun i => (i.zero, i.size, i.bytes)) = some (some zN, 13, 120) := by kernel_rfl

theorem own_blk {w : World} {g base : Nat} {e : TypeId} {s n : Nat} {cs : List Value} (h : Blk w g e cs) (hb : base ≤ g) (hl : cs.length = n * s) (hn : n ≤ maxLen) : w.ownsRow base e s (.slice (some ⟨g, 0, none⟩) n n) n cs :=
  ⟨hl, .inr ⟨g, n, _, rfl, hb, h, Nat.le_refl _, hn, by simpa using hl, by rw [← hl]; simp⟩⟩

/-- A call's note, and its return's. -/
def noteC (th seq kind val : Int) : Nte := ⟨1, th, seq, 0, kind, 0, val, false, .none, 0, 0, 0, 0, 0, 0⟩
def noteR (th seq kind val value : Int) : Nte := ⟨3, th, seq, 0, kind, 0, val, false, .none, 0, 0, seq, 0, 0, value⟩

def RetNotes (l : List Nte) (w : World) (e : Ending) (w' : World) : Prop :=
  ∃ A c, e = .returned (.slice A l.length c) ∧ w'.ownsRow w.heap.size 119 13 (.slice A l.length c) l.length (rows l) ∧ Below w.heap.size w w'

set_option maxHeartbeats 400000 in
set_option maxRecDepth 100000 in
theorem call43_any (th seq kind val value : Int) (w : World) :
    Calls Try.prog 68 #[.int .i64 th, .int .i64 seq, .agg #[.int .i64 kind, .int .i64 0, .int .i64 val, .bool false, .slice none 0 0], .int .i64 value] w (RetNotes [noteC th seq kind val, noteR th seq kind val value] w) := by
  go_enter Try.func68, Try.ntmps68
  go_wp2
  go_ret
  refine ⟨some ⟨w.heap.size + 1, 0, none⟩, 2, rfl, ?_, ((Below.refl _ _).alloc (Nat.le_refl _) _).alloc (by simp) _⟩
  exact own_blk (cs := rows [noteC th seq kind val, noteR th seq kind val value]) (blk_new (by simp)) (by omega) rfl (by simp [maxLen])

def exN : List Nte := [noteC 0 1 8 1, noteR 0 1 8 1 0, noteC 0 2 8 2, noteR 0 2 8 2 0, noteC 1 1 9 0, noteR 1 1 9 0 2]
theorem exN_passed : passedS (callsS exN) = [⟨1, 2⟩] := by decide +kernel
theorem exN_wrong : wrongS (callsS exN) = true := by decide +kernel
theorem exN_wrong4 : wrongS (callsS (exN.take 4)) = false := by decide +kernel
theorem exN_under : underS (callsS exN) = [1] := by decide +kernel
theorem exN_values : valuesS (callsS exN) = [1, 2] := by decide +kernel
theorem exN_settled : (!(callsS exN).any (fun x => x.opn)) = true := by decide +kernel
theorem exN_settled5 : (!(callsS (exN.take 5)).any (fun x => x.opn)) = false := by decide +kernel
theorem exN_ok : ThreadsOk exN := by unfold ThreadsOk; decide +kernel
theorem exN_ok4 : ThreadsOk (exN.take 4) := by unfold ThreadsOk; decide +kernel
theorem exN_ok5 : ThreadsOk (exN.take 5) := by unfold ThreadsOk; decide +kernel

set_option maxHeartbeats 4000000 in
set_option maxRecDepth 100000 in
theorem awake43_any (w : World) : Calls Try.prog 25 #[] w fun e w' => e = .returned (.bool true) ∧ Below w.heap.size w w' := by
  go_enter Try.func25, Try.ntmps25
  go_wp2_with fail
  refine (call43_any 0 1 8 1 0 w).mono ?_
  rintro e w1 ⟨A1, d1, rfl, ho1, hb1⟩
  have HO1 := Lib.hid ho1
  have HB1 := Lib.hid hb1
  clear ho1 hb1
  simp only [List.length_cons, List.length_nil] at HO1 ⊢
  go_wp2_with fail
  refine (call43_any 0 2 8 2 0 w1).mono ?_
  rintro e w2 ⟨A2, d2, rfl, ho2, hb2⟩
  have HO1' := Lib.hid (own_below HO1.out hb2)
  have HR2 := Lib.hid (own_rd ho2)
  have HN2 := Lib.hid (own_none ho2)
  have HB2 := Lib.hid (HB1.out.trans (hb2.mono HB1.out.size))
  clear ho2 hb2
  simp only [List.length_cons, List.length_nil] at HR2 HN2 ⊢
  go_wp2_with (at_builtin; refine wpList_app rfl (.tmp 4) (.tmp 6) 29 119 rfl w.heap.size zN 13 120 Try.underlying29 Nte_info rfl (by decide) A1 2 d1 _ rfl HO1'.out A2 2 d2 _ rfl (fun h => absurd (HN2.out h).1 (by decide)) rfl HR2.out (rows_one _) 4 rfl (rows (exN.take 4)) rfl (by simp [maxLen]) (by omega) HB2.out.size ?_; intro A3 d3 w3 ho3 hg3 hb3)
  have HO3 := Lib.hid ho3
  have HB3 := Lib.hid (HB2.out.trans hb3)
  clear ho3 hb3 hg3 HO1' HR2 HN2 HB2 HO1 HB1
  go_wp2_with fail
  refine (call43_any 1 1 9 0 2 w3).mono ?_
  rintro e w4 ⟨A4, d4, rfl, ho4, hb4⟩
  have HO3' := Lib.hid (own_below HO3.out hb4)
  have HR4 := Lib.hid (own_rd ho4)
  have HN4 := Lib.hid (own_none ho4)
  have HB4 := Lib.hid (HB3.out.trans (hb4.mono HB3.out.size))
  clear ho4 hb4
  simp only [List.length_cons, List.length_nil] at HR4 HN4 ⊢
  go_wp2_with (at_builtin; refine wpList_app rfl (.tmp 8) (.tmp 10) 29 119 rfl w.heap.size zN 13 120 Try.underlying29 Nte_info rfl (by decide) A3 4 d3 _ rfl HO3'.out A4 2 d4 _ rfl (fun h => absurd (HN4.out h).1 (by decide)) rfl HR4.out (rows_one _) 6 rfl (rows exN) rfl (by simp [maxLen]) (by omega) HB4.out.size ?_; intro A5 d5 w5 ho5 hg5 hb5)
  have HB5 := Lib.hid (HB4.out.trans hb5)
  have HR5 := Lib.hid (own_rd ho5)
  have hle := own_le ho5
  obtain ⟨g5, rfl, _, _⟩ := own_some ho5 (by decide)
  clear ho5 hb5 hg5 HO3' HR4 HN4 HB4 HO3 HB3
  go_wp2_with fail
  refine (Passed_any _ d5 exN w5 (by decide) exN_ok HR5.out).mono ?_
  rw [exN_passed]
  rintro e w6 ⟨P6, d6, rfl, hr6, _, _, hb6⟩
  replace HB5 := Lib.hid (HB5.out.trans (hb6.mono HB5.out.size))
  replace HR5 := Lib.hid (HR5.out.below hb6)
  obtain ⟨bp, op, rfl, hbp, hcp⟩ := hr6.at_ (by decide)
  have p0 := hcp 0 _ rfl
  have p1 := hcp 1 _ rfl
  simp only [Nat.add_zero] at p0
  clear hb6 hr6 hcp
  go_wp2_with fail
  refine (Wrong_any _ d5 exN w6 (by decide) exN_ok HR5.out).mono ?_
  rw [exN_wrong]
  rintro e w7 ⟨rfl, hb7⟩
  replace HB5 := Lib.hid (HB5.out.trans (hb7.mono HB5.out.size))
  replace HR5 := Lib.hid (HR5.out.below hb7)
  clear hb7 p0 p1
  have q1 : (4 : Int) ≤ (d5 : Int) := by omega
  have q2 : (5 : Int) ≤ (d5 : Int) := by omega
  have q3 : 4 ≤ d5 := by omega
  have q4 : 5 ≤ d5 := by omega
  have HR4 := Lib.hid (rows_take exN 4 ▸ rd_take HR5.out (4 * 13))
  go_wp2_with fail
  refine (Wrong_any _ d5 (exN.take 4) w7 (by decide) exN_ok4 HR4.out).mono ?_
  rw [exN_wrong4]
  rintro e w8 ⟨rfl, hb8⟩
  replace HB5 := Lib.hid (HB5.out.trans (hb8.mono HB5.out.size))
  replace HR5 := Lib.hid (HR5.out.below hb8)
  clear hb8 HR4
  go_wp2_with fail
  refine (Under_any _ d5 exN w8 (by decide) exN_ok HR5.out).mono ?_
  rw [exN_under]
  rintro e w9 ⟨U9, d9, rfl, ho9, hb9⟩
  replace HB5 := Lib.hid (HB5.out.trans (hb9.mono HB5.out.size))
  replace HR5 := Lib.hid (HR5.out.below hb9)
  have HR9 := Lib.hid (own_rd ho9)
  clear hb9 ho9
  simp only [List.length_cons, List.length_nil] at HR9 ⊢
  go_wp2_with fail
  refine (Ints_any U9 (some ⟨w9.heap.size, 0, none⟩) d9 1 [1] [1] _ (by decide) (by decide) (HR9.out.alloc _) (blk_new rfl).rd).mono ?_
  rintro e w10 ⟨rfl, hb10⟩
  replace HB5 := Lib.hid ((HB5.out.alloc HB5.out.size _).trans (hb10.mono (Nat.le_trans HB5.out.size (by simp))))
  replace HR5 := Lib.hid ((HR5.out.alloc _).below hb10)
  clear hb10 HR9
  go_wp2_with fail
  refine (Values_any _ d5 exN w10 (by decide) exN_ok HR5.out).mono ?_
  rw [exN_values]
  rintro e w11 ⟨U11, d11, rfl, ho11, hb11⟩
  replace HB5 := Lib.hid (HB5.out.trans (hb11.mono HB5.out.size))
  replace HR5 := Lib.hid (HR5.out.below hb11)
  have HR11 := Lib.hid (own_rd ho11)
  clear hb11 ho11
  simp only [List.length_cons, List.length_nil] at HR11 ⊢
  go_wp2_with fail
  refine (Ints_any U11 (some ⟨w11.heap.size, 0, none⟩) d11 2 [1, 2] [1, 2] _ (by decide) (by decide) (HR11.out.alloc _) (blk_new rfl).rd).mono ?_
  rintro e w12 ⟨rfl, hb12⟩
  replace HB5 := Lib.hid ((HB5.out.alloc HB5.out.size _).trans (hb12.mono (Nat.le_trans HB5.out.size (by simp))))
  replace HR5 := Lib.hid ((HR5.out.alloc _).below hb12)
  clear hb12 HR11
  go_wp2_with fail
  refine (Settled_any _ d5 exN w12 (by decide) exN_ok HR5.out).mono ?_
  rw [exN_settled]
  rintro e w13 ⟨rfl, hb13⟩
  replace HB5 := Lib.hid (HB5.out.trans (hb13.mono HB5.out.size))
  replace HR5 := Lib.hid (HR5.out.below hb13)
  clear hb13
  have HR6 := Lib.hid (rows_take exN 5 ▸ rd_take HR5.out (5 * 13))
  go_wp2_with fail
  refine (Settled_any _ d5 (exN.take 5) w13 (by decide) exN_ok5 HR6.out).mono ?_
  rw [exN_settled5]
  rintro e w14 ⟨rfl, hb14⟩
  replace HB5 := Lib.hid (HB5.out.trans (hb14.mono HB5.out.size))
  clear hb14
  go_wp2
  go_ret
  exact ⟨rfl, HB5.out⟩

end Go.Proofs.Ytmllbailfbjoeaa

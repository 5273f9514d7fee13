/- A text's words, as both ways of parting return them. -/
import Derived.Test.YtalkllfgedacoaaGreatDoorD12
import Derived.Test.YtalkllfgedacoaaGreatDoorD6
import Derived.Test.YtalkllfgedacoaaGreatDoorD7
import Derived.Test.YtalkllfgedacoaaGreatDoorD10
import Derived.Test.YtalkllfgedacoaaGreatDoorD11
import Derived.Test.YtalkllfgedacoaaGreatDoorD3
import Derived.Test.YtalkllfgedacoaaGreatDoorShelf
namespace Go.Proofs.YtalkllfgedacoaaGreatDoor
open Go.RowKit Go.Sort Go.Shelf

theorem WriteString_any (B b : Nat) (bs : List Value) (s : ByteArray) (w : World) (h : Lib.IsBuilder 116 5 B b bs w) (hlen : bs.length + s.size ≤ 140737488355328) (hBw : B ≤ w.heap.size) :
    Calls Tryz.prog 57 #[.pointer (some ⟨b, 0, none⟩), .string s] w fun e w' => e = .returned (.tuple #[.int .i64 s.size, .nilIface]) ∧ (Lib.BuilderAt 116 5 B b (.pointer (some ⟨b, 0, none⟩)) (bs ++ Lib.strCells s) w' ∧ Below B w w') :=
  Any.Builder_WriteString { Tryz.lays156 with } Tryz.Builder_Extra_156 B b bs s w h hlen hBw

theorem bldAt_below {T e : TypeId} {B b : Nat} {p : Value} {bs : List Value} {w w' : World} (h : Lib.BuilderAt T e B b p bs w) (hb : Below w.heap.size w w') : Lib.BuilderAt T e B b p bs w' := by
  obtain ⟨hB, v, hbk, hown, hne⟩ := h
  exact ⟨hB, v, (hb.block b (Array.getElem?_eq_some_iff.1 hbk).1).trans hbk, own_below hown hb, hne⟩
theorem bld_below {T e : TypeId} {B b : Nat} {bs : List Value} {w w' : World} (h : Lib.IsBuilder T e B b bs w) (hb : Below w.heap.size w w') : Lib.IsBuilder T e B b bs w' :=
  h.elim (fun x => .inl (bldAt_below x hb)) (fun x => .inr (bldAt_below x hb))
theorem bld_new (w : World) : Lib.IsBuilder 116 5 w.heap.size w.heap.size [] (w.alloc (.cells #[.pointer none, .slice none 0 0] 116)) :=
  .inl ⟨Nat.le_refl _, _, heap_alloc_new w _, own_nil _ _ _ _, by simp [Value.ownBlock]⟩

theorem write_one (B : Nat) (S z : ByteArray) (W : World) (h1 : Lib.IsBuilder 116 5 B B (Lib.byteCells S.data.toList) W) (h2 : B ≤ W.heap.size) (hS : S.size ≤ 30000000) (hz : z.size ≤ 21) :
    Calls Tryz.prog 57 #[.pointer (some ⟨B, 0, none⟩), .string (⟨#[32]⟩ ++ z)] W fun e w' => (∃ N : Int, e = .returned (.tuple #[.int .i64 N, .nilIface])) ∧ Lib.IsBuilder 116 5 B B (Lib.byteCells (S ++ (⟨#[32]⟩ ++ z)).data.toList) w' ∧ Below B W w' := by
  have hl : (Lib.byteCells S.data.toList).length + (⟨#[32]⟩ ++ z : ByteArray).size ≤ 140737488355328 := by
    rw [Lib.byteCells_length, ByteArray.size_append]
    have e1 : (⟨#[32]⟩ : ByteArray).size = 1 := rfl
    have e2 : S.data.toList.length = S.size := rfl
    omega
  have hc : Lib.byteCells (S ++ (⟨#[32]⟩ ++ z)).data.toList = Lib.byteCells S.data.toList ++ Lib.strCells (⟨#[32]⟩ ++ z) := by
    rw [bytes_app, Lib.byteCells_append]
    rfl
  have h := WriteString_any B B (Lib.byteCells S.data.toList) (⟨#[32]⟩ ++ z) W h1 hl h2
  rw [hc]
  generalize (⟨#[32]⟩ ++ z : ByteArray) = s at *
  generalize Lib.byteCells S.data.toList = bs at *
  refine h.mono ?_
  rintro e w' ⟨he, hb1, hb2⟩
  exact ⟨⟨_, he⟩, Or.inr hb1, hb2⟩

set_option maxHeartbeats 8000000 in
set_option maxRecDepth 100000 in
theorem vlist_any (A : Option Addr) (n c : Nat) (l : List Int) (w : World) (hl : l.length = n) (hn : n ≤ 1048576) (hi : ∀ x ∈ l, In64 x) (hA : Rd w A (ints l)) (ht : TabT w) :
    Calls Tryz.prog 45 #[.slice A n c] w fun e w' => e = .returned (.string (lsS ⟨#[]⟩ l)) ∧ Below w.heap.size w w' := by
  have HA := Lib.hid hA
  have HL := Lib.hid hl
  have HI := Lib.hid hi
  have HT := Lib.hid ht
  have HSZ : RowKit.Hid (∀ k, k ≤ n → (lsS ⟨#[]⟩ (l.take k)).size ≤ 30000000) := Lib.hid (fun k hk => by
    have h := lsS_size (l.take k) ⟨#[]⟩ (fun o ho' => hi o (List.mem_of_mem_take ho'))
    have e1 : (⟨#[]⟩ : ByteArray).size = 0 := rfl
    rw [e1, List.length_take] at h
    omega)
  clear hA hl hi ht
  go_enter Tryz.func45, Tryz.ntmps45
  go_upto_region 2 with (fail)
  have HBN := Lib.hid (bld_new w)
  have HB0 := Lib.hid ((Below.refl w.heap.size w).alloc (Nat.le_refl _) (.cells #[.pointer none, .slice none 0 0] 116))
  generalize w.alloc (.cells #[.pointer none, .slice none 0 0] 116) = W0 at *
  go_wp2_with fail
  go_loopg [8] n (fun gg i wr => ∃ k : Nat, k ≤ n ∧ gg = n - k ∧ i = .int .i64 k ∧ Lib.IsBuilder 116 5 w.heap.size w.heap.size (Lib.byteCells (lsS ⟨#[]⟩ (l.take k)).data.toList) wr ∧ Below w.heap.size w wr)
  case atStart => exact ⟨0, Nat.zero_le _, rfl, rfl, HBN.out, HB0.out⟩
  case round =>
    obtain ⟨k, hk, hg, rfl, hbl, hb⟩ := hrel
    have HG := Lib.hid hg
    have HB := Lib.hid hb
    have HBL := Lib.hid hbl
    clear hg hb hbl
    by_cases hlt : k < n
    · have q1 : (k : Int) < (n : Int) := by omega
      have hkl : k < l.length := by rw [HL.out]; exact hlt
      obtain ⟨b2, o2, rfl, hbl, hcl⟩ := (HA.out.below HB.out).at_ (by rw [ints_length]; omega)
      have x1 : wr.cell? ⟨b2, o2 + k, none⟩ = some (.int .i64 (l.getD k 0)) := hcl k _ (ints_at hkl)
      have HIN := Lib.hid (HI.out (l.getD k 0) (by rw [List.getD, List.getElem?_eq_getElem hkl]; exact List.getElem_mem hkl))
      have hS0 := HSZ.out k hk
      have HTK : RowKit.Hid (lsS ⟨#[]⟩ (l.take (k + 1)) = lsS ⟨#[]⟩ (l.take k) ++ (⟨#[32]⟩ ++ itoaS (l.getD k 0))) := Lib.hid (by
        rw [List.take_succ_eq_append_getElem hkl, lsS_snoc]
        congr 3
        rw [List.getD, List.getElem?_eq_getElem hkl]
        rfl)
      clear hcl hkl
      generalize l.getD k 0 = x at *
      generalize lsS ⟨#[]⟩ (l.take k) = S at *
      have HTW := Lib.hid (HT.out.below HB.out)
      have HD := Lib.hid (fun W h => dec_any x W HIN.out h)
      have hz := itoaS_size HIN.out
      generalize itoaS x = z at *
      have d0 : ¬ 9223372036854775807 < 1 + z.size := by omega
      have HWS := Lib.hid (fun W h1 h2 => write_one w.heap.size S z W h1 h2 hS0 hz)
      clear hS0 hz
      go_wp2_with (first
        | (go_at_call 35; refine (HD.out _ HTW.out).mono ?_; rintro er w2 ⟨rfl, hb2⟩; have HB2 := Lib.hid (HB.out.trans (hb2.mono HB.out.size)); have HBL2 := Lib.hid (bld_below HBL.out hb2); clear hb2)
        | (go_at_call 57; refine (HWS.out w2 HBL2.out HB2.out.size).mono ?_; rintro er w3 ⟨⟨N, rfl⟩, hbl3, hb3⟩; have HB3 := Lib.hid (HB2.out.trans hb3); have HBL3 := Lib.hid hbl3; clear hb3 hbl3))
      go_roundg (n - (k + 1))
      case measure => rw [HG.out]; omega
      case rel => exact ⟨k + 1, by omega, rfl, by go_num, by rw [HTK.out]; exact HBL3.out, HB3.out⟩
    · obtain rfl : k = n := by omega
      have q1 : ¬ (k : Int) < (k : Int) := by omega
      have HF : RowKit.Hid (l.take k = l) := Lib.hid (List.take_of_length_le (by rw [HL.out]; exact Nat.le_refl _))
      have HST := Lib.hid (Tryz.Builder_String_any w.heap.size w.heap.size _ wr HBL.out HB.out.size)
      go_wp2_with (go_at_call 59; refine HST.out.mono ?_; rintro er w4 ⟨rfl, hb4⟩)
      go_ret
      exact ⟨by rw [HF.out]; exact congrArg (fun z => Ending.returned (Value.string z)) (by simp), HB.out.trans hb4⟩

set_option maxHeartbeats 8000000 in
set_option maxRecDepth 100000 in
theorem channel_0 (i gen cap : Int) (cl : Bool) (BA : Option Addr) (bc : Nat) (bl : List Int) (w : World) (h0 : In64 i) (h1 : In64 gen) (h2 : In64 cap) (hn : bl.length ≤ 1048576) (hi : ∀ x ∈ bl, In64 x) (hr : Rd w BA (ints bl)) (ht : TabT w) :
    Calls Tryz.prog 41 #[.int .i64 i, .agg #[.int .i64 gen, .int .i64 cap, .bool false, .bool cl, .slice BA bl.length bc]] w fun e w' => e = .returned (.string (chanS i ⟨gen, cap, false, cl, BA, bc, bl⟩)) ∧ Below w.heap.size w w' := by
  have HVAL : RowKit.Hid (chanS i ⟨gen, cap, false, cl, BA, bc, bl⟩ = ⟨#[115, 108, 111, 116, 32]⟩ ++ itoaS i ++ ⟨#[32, 102, 114, 101, 101, 32]⟩ ++ itoaS gen) := Lib.hid rfl
  have HLS := Lib.hid (fun W (h : Rd W BA (ints bl) ∧ TabT W) => vlist_any BA bl.length bc bl W rfl hn hi h.1 h.2)
  have HD0 := Lib.hid (fun W (h : Rd W BA (ints bl) ∧ TabT W) => dec_any i W h0 h.2)
  have HD1 := Lib.hid (fun W (h : Rd W BA (ints bl) ∧ TabT W) => dec_any gen W h1 h.2)
  have HD2 := Lib.hid (fun W (h : Rd W BA (ints bl) ∧ TabT W) => dec_any cap W h2 h.2)
  have HDH := Lib.hid (fun W (h : Rd W BA (ints bl) ∧ TabT W) => dec_any (handS i gen) W (handS_in i gen) h.2)
  have HH := Lib.hid (fun W (_ : Rd W BA (ints bl) ∧ TabT W) => Handle_any i gen W)
  have HZ : RowKit.Hid (Rd w BA (ints bl) ∧ TabT w) := Lib.hid ⟨hr, ht⟩
  have k0 := itoaS_size h0
  have k1 := itoaS_size h1
  have k2 := itoaS_size h2
  have k3 := itoaS_size (handS_in i gen)
  have k4 := lsS_size bl ⟨#[]⟩ hi
  have k5 : (⟨#[]⟩ : ByteArray).size = 0 := rfl
  rw [k5] at k4
  generalize hP : (fun W : World => Rd W BA (ints bl) ∧ TabT W) = P at *
  have hP' : ∀ W : World, (Rd W BA (ints bl) ∧ TabT W) = P W := fun W => by rw [← hP]
  simp only [hP'] at HLS HD0 HD1 HD2 HDH HH HZ
  have HBL : RowKit.Hid (∀ (w w' : World), P w → Below w.heap.size w w' → P w') := Lib.hid (by rw [← hP]; exact fun w w' h hb => ⟨h.1.below hb, h.2.below hb⟩)
  have HX : RowKit.Hid (Blk (w.alloc (.cells #[.int .i64 gen, .int .i64 cap, .bool false, .bool cl, .slice BA bl.length bc] 91)) w.heap.size 91 [.int .i64 gen, .int .i64 cap, .bool false, .bool cl, .slice BA bl.length bc]) := Lib.hid (Blk.new w _ _)
  have HB0 := Lib.hid ((Below.refl w.heap.size w).alloc (Nat.le_refl _) (.cells #[.int .i64 gen, .int .i64 cap, .bool false, .bool cl, .slice BA bl.length bc] 91))
  have HPW := Lib.hid (HBL.out _ _ HZ.out HB0.out)
  generalize chanS i ⟨gen, cap, false, cl, BA, bc, bl⟩ = T at *
  generalize lsS ⟨#[]⟩ bl = ls at *
  generalize handS i gen = hh at *
  generalize itoaS i = z0 at *
  generalize itoaS gen = z1 at *
  generalize itoaS cap = z2 at *
  generalize itoaS hh = zh at *
  generalize bl.length = bn at *
  have d0 : ¬ 9223372036854775807 < 5 + z0.size := by omega
  have d1 : ¬ 9223372036854775807 < 5 + z0.size + 6 := by omega
  have d2 : ¬ 9223372036854775807 < 5 + z0.size + 6 + z1.size := by omega
  clear hP hP' h0 h1 h2 hn hi hr ht k0 k1 k2 k3 k4 k5 HZ
  go_enter Tryz.func41, Tryz.ntmps41
  go_upto_region 1 with (fail)
  generalize w.alloc (.cells #[.int .i64 gen, .int .i64 cap, .bool false, .bool cl, .slice BA bn bc] 91) = W0 at *
  have hwl := HX.out.lt
  have x0 := HX.out.cell (i := 0) rfl
  have x1 := HX.out.cell (i := 1) rfl
  have x2 := HX.out.cell (i := 2) rfl
  have x3 := HX.out.cell (i := 3) rfl
  have x4 := HX.out.cell (i := 4) rfl
  have HP0 : RowKit.Hid (P W0.drew) := Lib.hid (HBL.out _ _ HPW.out (Below.drewN' (Below.refl _ _) 1))
  go_upto_region 2 with (fail)
  go_region_held3 (fun w' => w'.cell? ⟨w.heap.size, 0, none⟩ = some (.int .i64 gen)) (first | go_keep | (simp only [hk0]; go_keep)) (first
    | (go_at_call 35; (with_reducible refine (HD0.out W0.drew HP0.out).mono ?_); rintro er v1 ⟨rfl, hb1⟩; have hB1 : Below W0.heap.size W0 v1 := ⟨hb1.os, hb1.tape, hb1.output, hb1.size, hb1.block⟩; have hk0 := fun o => hB1.cell (p := ⟨w.heap.size, o, none⟩) hwl; have HP1 := Lib.hid (HBL.out _ _ HPW.out hB1))
    | (go_at_call 35; (with_reducible refine (HD1.out v1 HP1.out).mono ?_); rintro er v2 ⟨rfl, hb2⟩; have hB2 : Below W0.heap.size W0 v2 := hB1.trans (hb2.mono hB1.size); have hk0 := fun o => hB2.cell (p := ⟨w.heap.size, o, none⟩) hwl; have HP2 := Lib.hid (HBL.out _ _ HPW.out hB2)))
  have HB2 := Lib.hid (HB0.out.trans (hB2.mono HB0.out.size))
  go_wp2_with fail
  go_ret
  exact ⟨by rw [HVAL.out]; rfl, HB2.out⟩

set_option maxHeartbeats 8000000 in
set_option maxRecDepth 100000 in
theorem channel_t (i gen cap : Int) (BA : Option Addr) (bc : Nat) (bl : List Int) (w : World) (h0 : In64 i) (h1 : In64 gen) (h2 : In64 cap) (hn : bl.length ≤ 1048576) (hi : ∀ x ∈ bl, In64 x) (hr : Rd w BA (ints bl)) (ht : TabT w) :
    Calls Tryz.prog 41 #[.int .i64 i, .agg #[.int .i64 gen, .int .i64 cap, .bool true, .bool true, .slice BA bl.length bc]] w fun e w' => e = .returned (.string (chanS i ⟨gen, cap, true, true, BA, bc, bl⟩)) ∧ Below w.heap.size w w' := by
  have HVAL : RowKit.Hid (chanS i ⟨gen, cap, true, true, BA, bc, bl⟩ = ⟨#[115, 108, 111, 116, 32]⟩ ++ itoaS i ++ ⟨#[32, 99, 104, 97, 110, 32]⟩ ++ itoaS (handS i gen) ++ ⟨#[32, 99, 97, 112, 32]⟩ ++ itoaS cap ++ ⟨#[32, 99, 108, 111, 115, 101, 100]⟩ ++ ⟨#[32, 104, 97, 115]⟩ ++ lsS ⟨#[]⟩ bl) := Lib.hid rfl
  have HLS := Lib.hid (fun W (h : Rd W BA (ints bl) ∧ TabT W) => vlist_any BA bl.length bc bl W rfl hn hi h.1 h.2)
  have HD0 := Lib.hid (fun W (h : Rd W BA (ints bl) ∧ TabT W) => dec_any i W h0 h.2)
  have HD1 := Lib.hid (fun W (h : Rd W BA (ints bl) ∧ TabT W) => dec_any gen W h1 h.2)
  have HD2 := Lib.hid (fun W (h : Rd W BA (ints bl) ∧ TabT W) => dec_any cap W h2 h.2)
  have HDH := Lib.hid (fun W (h : Rd W BA (ints bl) ∧ TabT W) => dec_any (handS i gen) W (handS_in i gen) h.2)
  have HH := Lib.hid (fun W (_ : Rd W BA (ints bl) ∧ TabT W) => Handle_any i gen W)
  have HZ : RowKit.Hid (Rd w BA (ints bl) ∧ TabT w) := Lib.hid ⟨hr, ht⟩
  have k0 := itoaS_size h0
  have k1 := itoaS_size h1
  have k2 := itoaS_size h2
  have k3 := itoaS_size (handS_in i gen)
  have k4 := lsS_size bl ⟨#[]⟩ hi
  have k5 : (⟨#[]⟩ : ByteArray).size = 0 := rfl
  rw [k5] at k4
  generalize hP : (fun W : World => Rd W BA (ints bl) ∧ TabT W) = P at *
  have hP' : ∀ W : World, (Rd W BA (ints bl) ∧ TabT W) = P W := fun W => by rw [← hP]
  simp only [hP'] at HLS HD0 HD1 HD2 HDH HH HZ
  have HBL : RowKit.Hid (∀ (w w' : World), P w → Below w.heap.size w w' → P w') := Lib.hid (by rw [← hP]; exact fun w w' h hb => ⟨h.1.below hb, h.2.below hb⟩)
  have HX : RowKit.Hid (Blk (w.alloc (.cells #[.int .i64 gen, .int .i64 cap, .bool true, .bool true, .slice BA bl.length bc] 91)) w.heap.size 91 [.int .i64 gen, .int .i64 cap, .bool true, .bool true, .slice BA bl.length bc]) := Lib.hid (Blk.new w _ _)
  have HB0 := Lib.hid ((Below.refl w.heap.size w).alloc (Nat.le_refl _) (.cells #[.int .i64 gen, .int .i64 cap, .bool true, .bool true, .slice BA bl.length bc] 91))
  have HPW := Lib.hid (HBL.out _ _ HZ.out HB0.out)
  generalize chanS i ⟨gen, cap, true, true, BA, bc, bl⟩ = T at *
  generalize lsS ⟨#[]⟩ bl = ls at *
  generalize handS i gen = hh at *
  generalize itoaS i = z0 at *
  generalize itoaS gen = z1 at *
  generalize itoaS cap = z2 at *
  generalize itoaS hh = zh at *
  generalize bl.length = bn at *
  have d0 : ¬ 9223372036854775807 < 5 + z0.size := by omega
  have d1 : ¬ 9223372036854775807 < 5 + z0.size + 6 := by omega
  have d2 : ¬ 9223372036854775807 < 5 + z0.size + 6 + zh.size := by omega
  have d3 : ¬ 9223372036854775807 < 5 + z0.size + 6 + zh.size + 5 := by omega
  have d4 : ¬ 9223372036854775807 < 5 + z0.size + 6 + zh.size + 5 + z2.size := by omega
  have d5 : ¬ 9223372036854775807 < 5 + z0.size + 6 + zh.size + 5 + z2.size + 7 := by omega
  have d6 : ¬ 9223372036854775807 < 5 + z0.size + 6 + zh.size + 5 + z2.size + 7 + 4 := by omega
  have d7 : ¬ 9223372036854775807 < 5 + z0.size + 6 + zh.size + 5 + z2.size + 7 + 4 + ls.size := by omega
  clear hP hP' h0 h1 h2 hn hi hr ht k0 k1 k2 k3 k4 k5 HZ
  go_enter Tryz.func41, Tryz.ntmps41
  go_upto_region 1 with (fail)
  generalize w.alloc (.cells #[.int .i64 gen, .int .i64 cap, .bool true, .bool true, .slice BA bn bc] 91) = W0 at *
  have hwl := HX.out.lt
  have x0 := HX.out.cell (i := 0) rfl
  have x1 := HX.out.cell (i := 1) rfl
  have x2 := HX.out.cell (i := 2) rfl
  have x3 := HX.out.cell (i := 3) rfl
  have x4 := HX.out.cell (i := 4) rfl
  have HP0 : RowKit.Hid (P W0.drew) := Lib.hid (HBL.out _ _ HPW.out (Below.drewN' (Below.refl _ _) 1))
  go_upto_region 3 with (fail)
  go_region_held3 (fun w' => w'.cell? ⟨w.heap.size, 0, none⟩ = some (.int .i64 gen) ∧ w'.cell? ⟨w.heap.size, 1, none⟩ = some (.int .i64 cap)) (first | go_keep | (simp only [hk0]; go_keep)) (first
    | (go_at_call 35; (with_reducible refine (HD0.out W0.drew HP0.out).mono ?_); rintro er v1 ⟨rfl, hb1⟩; have hB1 : Below W0.heap.size W0 v1 := ⟨hb1.os, hb1.tape, hb1.output, hb1.size, hb1.block⟩; have hk0 := fun o => hB1.cell (p := ⟨w.heap.size, o, none⟩) hwl; have HP1 := Lib.hid (HBL.out _ _ HPW.out hB1))
    | (go_at_call 80; (with_reducible refine (HH.out v1 HP1.out).mono ?_); rintro er v2 ⟨rfl, hb2⟩; have hB2 : Below W0.heap.size W0 v2 := hB1.trans (hb2.mono hB1.size); have hk0 := fun o => hB2.cell (p := ⟨w.heap.size, o, none⟩) hwl; have HP2 := Lib.hid (HBL.out _ _ HPW.out hB2))
    | (go_at_call 35; (with_reducible refine (HDH.out v2 HP2.out).mono ?_); rintro er v3 ⟨rfl, hb3⟩; have hB3 : Below W0.heap.size W0 v3 := hB2.trans (hb3.mono hB2.size); have hk0 := fun o => hB3.cell (p := ⟨w.heap.size, o, none⟩) hwl; have HP3 := Lib.hid (HBL.out _ _ HPW.out hB3))
    | (go_at_call 35; (with_reducible refine (HD2.out v3 HP3.out).mono ?_); rintro er v4 ⟨rfl, hb4⟩; have hB4 : Below W0.heap.size W0 v4 := hB3.trans (hb4.mono hB3.size); have hk0 := fun o => hB4.cell (p := ⟨w.heap.size, o, none⟩) hwl; have HP4 := Lib.hid (HBL.out _ _ HPW.out hB4)))
  have HB4 := Lib.hid (HB0.out.trans (hB4.mono HB0.out.size))
  have HX4 := Lib.hid (HX.out.below hB4 hwl)
  clear x0 x1 x2 x3 x4 hk0
  have x3 := HX4.out.cell (i := 3) rfl
  have x4 := HX4.out.cell (i := 4) rfl
  go_wp2_with (go_at_call 45; refine (HLS.out _ HP4.out).mono ?_; rintro er w5 ⟨rfl, hb5⟩)
  go_ret
  exact ⟨by rw [HVAL.out]; rfl, HB4.out.trans (hb5.mono HB4.out.size)⟩

set_option maxHeartbeats 8000000 in
set_option maxRecDepth 100000 in
theorem channel_f (i gen cap : Int) (BA : Option Addr) (bc : Nat) (bl : List Int) (w : World) (h0 : In64 i) (h1 : In64 gen) (h2 : In64 cap) (hn : bl.length ≤ 1048576) (hi : ∀ x ∈ bl, In64 x) (hr : Rd w BA (ints bl)) (ht : TabT w) :
    Calls Tryz.prog 41 #[.int .i64 i, .agg #[.int .i64 gen, .int .i64 cap, .bool true, .bool false, .slice BA bl.length bc]] w fun e w' => e = .returned (.string (chanS i ⟨gen, cap, true, false, BA, bc, bl⟩)) ∧ Below w.heap.size w w' := by
  have HVAL : RowKit.Hid (chanS i ⟨gen, cap, true, false, BA, bc, bl⟩ = ⟨#[115, 108, 111, 116, 32]⟩ ++ itoaS i ++ ⟨#[32, 99, 104, 97, 110, 32]⟩ ++ itoaS (handS i gen) ++ ⟨#[32, 99, 97, 112, 32]⟩ ++ itoaS cap ++ ⟨#[32, 104, 97, 115]⟩ ++ lsS ⟨#[]⟩ bl) := Lib.hid rfl
  have HLS := Lib.hid (fun W (h : Rd W BA (ints bl) ∧ TabT W) => vlist_any BA bl.length bc bl W rfl hn hi h.1 h.2)
  have HD0 := Lib.hid (fun W (h : Rd W BA (ints bl) ∧ TabT W) => dec_any i W h0 h.2)
  have HD1 := Lib.hid (fun W (h : Rd W BA (ints bl) ∧ TabT W) => dec_any gen W h1 h.2)
  have HD2 := Lib.hid (fun W (h : Rd W BA (ints bl) ∧ TabT W) => dec_any cap W h2 h.2)
  have HDH := Lib.hid (fun W (h : Rd W BA (ints bl) ∧ TabT W) => dec_any (handS i gen) W (handS_in i gen) h.2)
  have HH := Lib.hid (fun W (_ : Rd W BA (ints bl) ∧ TabT W) => Handle_any i gen W)
  have HZ : RowKit.Hid (Rd w BA (ints bl) ∧ TabT w) := Lib.hid ⟨hr, ht⟩
  have k0 := itoaS_size h0
  have k1 := itoaS_size h1
  have k2 := itoaS_size h2
  have k3 := itoaS_size (handS_in i gen)
  have k4 := lsS_size bl ⟨#[]⟩ hi
  have k5 : (⟨#[]⟩ : ByteArray).size = 0 := rfl
  rw [k5] at k4
  generalize hP : (fun W : World => Rd W BA (ints bl) ∧ TabT W) = P at *
  have hP' : ∀ W : World, (Rd W BA (ints bl) ∧ TabT W) = P W := fun W => by rw [← hP]
  simp only [hP'] at HLS HD0 HD1 HD2 HDH HH HZ
  have HBL : RowKit.Hid (∀ (w w' : World), P w → Below w.heap.size w w' → P w') := Lib.hid (by rw [← hP]; exact fun w w' h hb => ⟨h.1.below hb, h.2.below hb⟩)
  have HX : RowKit.Hid (Blk (w.alloc (.cells #[.int .i64 gen, .int .i64 cap, .bool true, .bool false, .slice BA bl.length bc] 91)) w.heap.size 91 [.int .i64 gen, .int .i64 cap, .bool true, .bool false, .slice BA bl.length bc]) := Lib.hid (Blk.new w _ _)
  have HB0 := Lib.hid ((Below.refl w.heap.size w).alloc (Nat.le_refl _) (.cells #[.int .i64 gen, .int .i64 cap, .bool true, .bool false, .slice BA bl.length bc] 91))
  have HPW := Lib.hid (HBL.out _ _ HZ.out HB0.out)
  generalize chanS i ⟨gen, cap, true, false, BA, bc, bl⟩ = T at *
  generalize lsS ⟨#[]⟩ bl = ls at *
  generalize handS i gen = hh at *
  generalize itoaS i = z0 at *
  generalize itoaS gen = z1 at *
  generalize itoaS cap = z2 at *
  generalize itoaS hh = zh at *
  generalize bl.length = bn at *
  have d0 : ¬ 9223372036854775807 < 5 + z0.size := by omega
  have d1 : ¬ 9223372036854775807 < 5 + z0.size + 6 := by omega
  have d2 : ¬ 9223372036854775807 < 5 + z0.size + 6 + zh.size := by omega
  have d3 : ¬ 9223372036854775807 < 5 + z0.size + 6 + zh.size + 5 := by omega
  have d4 : ¬ 9223372036854775807 < 5 + z0.size + 6 + zh.size + 5 + z2.size := by omega
  have d5 : ¬ 9223372036854775807 < 5 + z0.size + 6 + zh.size + 5 + z2.size + 4 := by omega
  have d6 : ¬ 9223372036854775807 < 5 + z0.size + 6 + zh.size + 5 + z2.size + 4 + ls.size := by omega
  clear hP hP' h0 h1 h2 hn hi hr ht k0 k1 k2 k3 k4 k5 HZ
  go_enter Tryz.func41, Tryz.ntmps41
  go_upto_region 1 with (fail)
  generalize w.alloc (.cells #[.int .i64 gen, .int .i64 cap, .bool true, .bool false, .slice BA bn bc] 91) = W0 at *
  have hwl := HX.out.lt
  have x0 := HX.out.cell (i := 0) rfl
  have x1 := HX.out.cell (i := 1) rfl
  have x2 := HX.out.cell (i := 2) rfl
  have x3 := HX.out.cell (i := 3) rfl
  have x4 := HX.out.cell (i := 4) rfl
  have HP0 : RowKit.Hid (P W0.drew) := Lib.hid (HBL.out _ _ HPW.out (Below.drewN' (Below.refl _ _) 1))
  go_upto_region 3 with (fail)
  go_region_held3 (fun w' => w'.cell? ⟨w.heap.size, 0, none⟩ = some (.int .i64 gen) ∧ w'.cell? ⟨w.heap.size, 1, none⟩ = some (.int .i64 cap)) (first | go_keep | (simp only [hk0]; go_keep)) (first
    | (go_at_call 35; (with_reducible refine (HD0.out W0.drew HP0.out).mono ?_); rintro er v1 ⟨rfl, hb1⟩; have hB1 : Below W0.heap.size W0 v1 := ⟨hb1.os, hb1.tape, hb1.output, hb1.size, hb1.block⟩; have hk0 := fun o => hB1.cell (p := ⟨w.heap.size, o, none⟩) hwl; have HP1 := Lib.hid (HBL.out _ _ HPW.out hB1))
    | (go_at_call 80; (with_reducible refine (HH.out v1 HP1.out).mono ?_); rintro er v2 ⟨rfl, hb2⟩; have hB2 : Below W0.heap.size W0 v2 := hB1.trans (hb2.mono hB1.size); have hk0 := fun o => hB2.cell (p := ⟨w.heap.size, o, none⟩) hwl; have HP2 := Lib.hid (HBL.out _ _ HPW.out hB2))
    | (go_at_call 35; (with_reducible refine (HDH.out v2 HP2.out).mono ?_); rintro er v3 ⟨rfl, hb3⟩; have hB3 : Below W0.heap.size W0 v3 := hB2.trans (hb3.mono hB2.size); have hk0 := fun o => hB3.cell (p := ⟨w.heap.size, o, none⟩) hwl; have HP3 := Lib.hid (HBL.out _ _ HPW.out hB3))
    | (go_at_call 35; (with_reducible refine (HD2.out v3 HP3.out).mono ?_); rintro er v4 ⟨rfl, hb4⟩; have hB4 : Below W0.heap.size W0 v4 := hB3.trans (hb4.mono hB3.size); have hk0 := fun o => hB4.cell (p := ⟨w.heap.size, o, none⟩) hwl; have HP4 := Lib.hid (HBL.out _ _ HPW.out hB4)))
  have HB4 := Lib.hid (HB0.out.trans (hB4.mono HB0.out.size))
  have HX4 := Lib.hid (HX.out.below hB4 hwl)
  clear x0 x1 x2 x3 x4 hk0
  have x3 := HX4.out.cell (i := 3) rfl
  have x4 := HX4.out.cell (i := 4) rfl
  go_wp2_with (go_at_call 45; refine (HLS.out _ HP4.out).mono ?_; rintro er w5 ⟨rfl, hb5⟩)
  go_ret
  exact ⟨by rw [HVAL.out]; rfl, HB4.out.trans (hb5.mono HB4.out.size)⟩

theorem channel_any (i : Int) (x : Chn) (w : World) (h0 : In64 i) (h1 : In64 x.gen) (h2 : In64 x.cap) (hn : x.buf.length ≤ 1048576) (hi : ∀ y ∈ x.buf, In64 y) (hr : Rd w x.A (ints x.buf)) (ht : TabT w) :
    Calls Tryz.prog 41 #[.int .i64 i, chnV x] w fun e w' => e = .returned (.string (chanS i x)) ∧ Below w.heap.size w w' := by
  obtain ⟨gen, cap, us, cl, BA, bc, bl⟩ := x
  cases us with
  | false => exact channel_0 i gen cap cl BA bc bl w h0 h1 h2 hn hi hr ht
  | true =>
    cases cl with
    | true => exact channel_t i gen cap BA bc bl w h0 h1 h2 hn hi hr ht
    | false => exact channel_f i gen cap BA bc bl w h0 h1 h2 hn hi hr ht

end Go.Proofs.YtalkllfgedacoaaGreatDoor

namespace Go.Proofs.YtalkllfgedacoaaGreatDoor
open Go.RowKit Go.Sort Go.Shelf

theorem okE_small {e : Ev} (h : okE e = true) : EvSm e := by
  unfold okE at h
  rw [Bool.and_eq_true] at h
  have h2 := h.2
  by_cases k1 : e.kind = 1
  · rw [if_pos k1, decide_eq_true_eq] at h2
    rw [h2]
    exact ⟨Nat.zero_le _, Nat.zero_le _⟩
  · rw [if_neg k1] at h2
    by_cases k2 : e.kind = 2
    · rw [if_pos k2, decide_eq_true_eq] at h2
      have hc := (sayR_back h2.1).1
      have hl := callQ_len hc
      rw [h2.2]
      exact ⟨by show e.rq.cs.length ≤ _; omega, Nat.zero_le _⟩
    · rw [if_neg k2] at h2
      by_cases k3 : e.kind = 3
      · rw [if_pos k3, Bool.and_eq_true, decide_eq_true_eq] at h2
        have hs := h2.1
        unfold startQ at hs
        rw [Bool.and_eq_true, Bool.and_eq_true, Bool.and_eq_true, decide_eq_true_eq] at hs
        rw [h2.2]
        exact ⟨Nat.zero_le _, by show e.outs.length ≤ _; have := hs.1.1.2; omega⟩
      · rw [if_neg k3] at h2
        cases h2
theorem readQ_small {s : ByteArray} {l : List Ev} (h : readQ s = .right l) : ∀ e ∈ l, EvSm e := by
  unfold readQ at h
  split at h
  · cases h
  · have h1 := (read_cost _ 0 [] l (by rw [List.nil_append]; exact h)).2
    exact fun e he => okE_small (h1 e he).1
theorem evS_size {e : Ev} {n : Nat} (h : EvIn e) (hn : n ≤ 1000) : (evS e n).size ≤ 100000000 := by
  have a := itoaS_size h.thread
  have s1 : (⟨#[32]⟩ : ByteArray).size = 1 := rfl
  by_cases k1 : e.kind = 1
  · have b := itoaS_size (show In64 (n : Int) from ⟨by omega, by omega⟩)
    have e1 : w_pickS.size = 4 := rfl
    by_cases h1 : 1 < n
    · rw [evS_pickN k1 h1]
      simp only [ByteArray.size_append, s1, e1]
      omega
    · rw [evS_pick1 k1 h1]
      simp only [ByteArray.size_append, s1, e1]
      omega
  · by_cases k2 : e.kind = 2
    · have e1 : w_callS.size = 4 := rfl
      have c := callS_size (q := e.rq.req) (cs := e.rq.cs) ⟨h.arg, h.value, h.cs⟩
      have h2 := h.ncs
      have e2 : (sayR e.rq).size = (callS e.rq.req e.rq.cs).size := rfl
      rw [evS_callE k2]
      simp only [ByteArray.size_append, s1, e1]
      omega
    · rw [pumpS_all k1 k2]
      have c := pumpS_size h.thread h.inn h.outs e.outs.length (Nat.le_refl _)
      have h2 := h.nouts
      omega

/-! The program's text. -/
theorem textP_big {l : List Ev} (h : 65536 < (textG l).size) : textP l = none := by unfold textP; rw [if_neg (fun e => by omega)]
theorem textP_wrong {l : List Ev} {a b : Nat} (h : readQ (textG l) = .wrong a b) : textP l = none := by unfold textP; rw [if_neg (fun e => by rw [h] at e; cases e.2)]
theorem textP_other {l y : List Ev} (h : readQ (textG l) = .right y) (hy : ¬ y = l) : textP l = none := by unfold textP; rw [if_neg (fun e => by rw [h] at e; injection e.2 with e2; exact hy e2)]
theorem textP_right {l : List Ev} (h : readQ (textG l) = .right l) (hs : (textG l).size ≤ 65536) : textP l = some (textG l) := by unfold textP; rw [if_pos ⟨hs, h⟩]
theorem text_first {e : Ev} {r l : List Ev} {T : ByteArray} (h : T ++ textG (e :: r) = textG l) : T ++ (evS e (grpQ (e :: r)) ++ ⟨#[10]⟩) ++ textG ((e :: r).drop (grpQ (e :: r))) = textG l := by
  rw [← h, textG_cons, ByteArray.append_assoc]
theorem text_big {l r : List Ev} {T : ByteArray} (h : T ++ textG r = textG l) (hT : 65536 < T.size) : 65536 < (textG l).size := by
  rw [← h, ByteArray.size_append]
  omega

/-! A builder. -/
theorem bldF_below {T e : TypeId} {B b : Nat} {bs : List Value} {w w' : World} (h : Lib.IsBuilderF T e B b bs w) (hb : Below w.heap.size w w') : Lib.IsBuilderF T e B b bs w' := by
  have hat : ∀ {p : Value}, Lib.BuilderAtF T e B b p bs w → Lib.BuilderAtF T e B b p bs w' := by
    rintro p ⟨hB, v, hbk, hown, hne⟩
    refine ⟨hB, v, (hb.block b (Array.getElem?_eq_some_iff.1 hbk).1).trans hbk, ?_, hne⟩
    refine ⟨hown.1, ?_⟩
    rcases hown.2 with h2 | ⟨g, cap, cur, fr, hv, hg, hk, r⟩
    · exact .inl h2
    · exact .inr ⟨g, cap, cur, fr, hv, hg, (hb.block g (Array.getElem?_eq_some_iff.1 hk).1).trans hk, r⟩
  exact h.elim (fun x => .inl (hat x)) (fun x => .inr (hat x))
theorem write_any (B : Nat) (S z : ByteArray) (W : World) (h1 : Lib.IsBuilder 116 5 B B (Lib.byteCells S.data.toList) W) (h2 : B ≤ W.heap.size) (hS : S.size ≤ 30000000) (hz : z.size ≤ 200000000) :
    Calls Tryz.prog 57 #[.pointer (some ⟨B, 0, none⟩), .string z] W fun e w' => (∃ N : Int, e = .returned (.tuple #[.int .i64 N, .nilIface])) ∧ Lib.IsBuilder 116 5 B B (Lib.byteCells (S ++ z).data.toList) w' ∧ Below B W w' := by
  have hl : (Lib.byteCells S.data.toList).length + z.size ≤ 140737488355328 := by
    rw [Lib.byteCells_length]
    have e2 : S.data.toList.length = S.size := rfl
    omega
  have hc : Lib.byteCells (S ++ z).data.toList = Lib.byteCells S.data.toList ++ Lib.strCells z := by
    rw [bytes_app, Lib.byteCells_append]
    rfl
  have h := WriteString_any B B (Lib.byteCells S.data.toList) z W h1 hl h2
  rw [hc]
  generalize Lib.byteCells S.data.toList = bs at *
  refine h.mono ?_
  rintro e w' ⟨he, hb1, hb2⟩
  exact ⟨⟨_, he⟩, Or.inr hb1, hb2⟩
theorem bld_len (B : Nat) (S : ByteArray) (W : World) (h1 : Lib.IsBuilder 116 5 B B (Lib.byteCells S.data.toList) W) :
    Calls Tryz.prog 58 #[.pointer (some ⟨B, 0, none⟩)] W fun e w' => e = .returned (.int .i64 S.size) ∧ w' = W := by
  have h := Tryz.Builder_Len B B _ W h1
  rw [Lib.byteCells_length] at h
  exact h
theorem bld_str (B : Nat) (S : ByteArray) (W : World) (h1 : Lib.IsBuilderF 116 5 B B (Lib.byteCells S.data.toList) W) (h2 : B ≤ W.heap.size) :
    Calls Tryz.prog 59 #[.pointer (some ⟨B, 0, none⟩)] W fun e w' => e = .returned (.string S) ∧ Lib.IsBuilderF 116 5 B B (Lib.byteCells S.data.toList) w' ∧ Below B W w' := by
  have h := Tryz.Builder_String_any_f B B S.data.toList W h1 h2
  have e : (⟨S.data.toList.toArray⟩ : ByteArray) = S := by simp
  rw [e] at h
  exact h

/-- Events behind the first ones. -/
theorem EvsIn.cut {w : World} {b o n k c : Nat} {x : List Ev} (h : EvsIn w (some ⟨b, o, none⟩) n x) (hk : k ≤ n) (hn : n ≤ c) : EvsIn w (if c = k then some ⟨b, o, none⟩ else some ⟨b, o + k * 9, none⟩) (n - k) (x.drop k) := by
  obtain ⟨l, h1, h2, h3⟩ := h.ex
  refine ⟨l.drop k, by rw [List.length_drop, h1], ?_, h3.drop k⟩
  have hr := rd_cut (s := 9) (n := n) (k := k) (cap := c) h2 (by rw [rows_length, h1]; rfl) hk hn
  have e1 : (rows l).drop (k * 9) = rows (l.drop k) := by
    have := rows_drop (α := EvR) l k
    exact this.symm ▸ rfl
  rw [← e1]
  by_cases hc : c = k
  · rw [if_pos hc] at hr ⊢
    exact hr
  · rw [if_neg hc] at hr ⊢
    have ha : (some (⟨b, o, none⟩ : Addr)).map (·.add (k * 9)) = some ⟨b, o + k * 9, none⟩ := by
      show some ((⟨b, o, none⟩ : Addr).add (k * 9)) = _
      unfold Addr.add
      split <;> simp_all
    rw [ha] at hr
    exact hr

end Go.Proofs.YtalkllfgedacoaaGreatDoor

namespace Go.Proofs.YtalkllfgedacoaaGreatDoor
open Go.RowKit Go.Sort

def SplitPost (c : UInt8) (s : ByteArray) (w : World) (e : Ending) (w' : World) : Prop :=
  ∃ L cp, e = .returned (.slice (some ⟨L, 0, none⟩) (wordsC c s).length cp) ∧ (wordsC c s).length ≤ cp ∧ w.heap.size ≤ L ∧ Rd w' (some ⟨L, 0, none⟩) (rows (wordsC c s)) ∧ Below w.heap.size w w'

theorem strs_rows (l : List ByteArray) : rows l = l.map Value.string := by
  induction l with
  | nil => rfl
  | cons x r ih => rw [rows_cons, ih]; rfl

theorem SplitC_any (c : UInt8) (s : ByteArray) (w : World) (hs : s.size < 4294967281) (hm : MLT w) :
    Calls Tryz.prog 47 #[.string s, .string ⟨#[c]⟩] w (SplitPost c s w) := by
  obtain ⟨_, m, hm⟩ := hm
  refine (Tryz.strings_Split s ⟨#[c]⟩ m w hs hm (Nat.le_refl 1)).mono ?_
  rintro e w' ⟨rfl, rfl⟩
  have hb : Blk (w.alloc (.cells ((Lib.splitB ⟨#[c]⟩ 0 (Lib.countB s ⟨#[c]⟩) s).map Value.string).toArray 9)) w.heap.size 9 (rows (wordsC c s)) := by
    rw [strs_rows]; exact Blk.new w _ _
  refine ⟨w.heap.size, (wordsC c s).length, ?_, Nat.le_refl _, Nat.le_refl _, hb.rd, (Below.refl _ _).alloc (Nat.le_refl _) _⟩
  rw [wordsC_len]

theorem rSplitC_any (c : UInt8) (s : ByteArray) (w : World) (hs : s.size ≤ 1099511627776) :
    Calls Tryz.prog 49 #[.string s, .int .u8 (c.toNat : Int)] w (SplitPost c s w) := by
  refine (Split_any s c w hs).mono ?_
  rintro e w' ⟨A, cp, rfl, hown, hb⟩
  rw [splitB_eq] at hown
  have hpos : 0 < (wordsC c s).length := by rw [wordsC_len]; omega
  obtain ⟨g, rfl, hg, _⟩ := own_some hown hpos
  refine ⟨g, cp, by rw [splitB_eq], own_le hown, hg, own_rd hown, hb⟩

theorem rd_tail {w : World} {L : Nat} {l : List ByteArray} (h : Rd w (some ⟨L, 0, none⟩) (rows l)) (hne : l ≠ []) : Rd w (some ⟨L, 1, none⟩) (rows l.tail) := by
  obtain ⟨b, o, e, hb, hc⟩ := strs_cell h hne
  injection e with e
  injection e with e1 e2
  subst e1 e2
  refine .inr ⟨L, 1, rfl, hb, fun k v hk => ?_⟩
  rw [strs_rows, List.getElem?_map, List.getElem?_tail] at hk
  cases hx : l[k + 1]? with
  | none => rw [hx] at hk; cases hk
  | some x =>
    rw [hx] at hk
    injection hk with hk
    rw [← hk, Nat.add_comm 1 k]
    have := hc (k + 1) x hx
    rwa [Nat.zero_add] at this
theorem rd_head {w : World} {L : Nat} {l : List ByteArray} (h : Rd w (some ⟨L, 0, none⟩) (rows l)) (hne : 0 < l.length) : L < w.heap.size ∧ w.cell? ⟨L, 0, none⟩ = some (.string (l.getD 0 ⟨#[]⟩)) := by
  obtain ⟨b, o, e, hb, hc⟩ := strs_cell h (fun e => by rw [e] at hne; exact Nat.lt_irrefl _ hne)
  injection e with e
  injection e with e1 e2
  subst e1 e2
  refine ⟨hb, ?_⟩
  have := hc 0 (l.getD 0 ⟨#[]⟩) (by rw [List.getD, List.getElem?_eq_getElem hne]; rfl)
  rwa [Nat.zero_add] at this
theorem rd_nil {w : World} {L o : Nat} (h : L < w.heap.size) : Rd w (some ⟨L, o, none⟩) (rows ([] : List ByteArray)) := .inr ⟨L, o, rfl, h, fun k v hk => by cases hk⟩

theorem nums_cell {w : World} {base m c : Nat} {A : Option Addr} {x : List Nat} (h : w.ownsRow base 3 1 (.slice A m c) m (ints (x.map Int.ofNat))) (hm : 0 < m) :
    ∃ g, A = some ⟨g, 0, none⟩ ∧ base ≤ g ∧ g < w.heap.size ∧ ∀ k, k < x.length → w.cell? ⟨g, k, none⟩ = some (.int .i64 (x.getD k 0 : Nat)) := by
  obtain ⟨g, rfl, hg, hl⟩ := own_some h hm
  refine ⟨g, rfl, hg, hl, fun k hk => ?_⟩
  rcases own_rd h with h' | ⟨b, o, e, hb, hc⟩
  · rw [ints] at h'
    have : x = [] := by simpa using h'
    rw [this] at hk
    exact absurd hk (Nat.not_lt_zero _)
  · injection e with e
    injection e with e1 e2
    subst e1 e2
    have := hc k (.int .i64 (x.getD k 0 : Nat)) (by simp [ints, hk])
    rwa [Nat.zero_add] at this
theorem eqL {x y : ByteArray} {l : List UInt8} (h : ¬ x = y) (e : y.toList = l) : (x.toList == l) = false := by
  rw [← e, beq_eq_false_iff_ne]; intro h'; exact h (ByteArray.ext (Array.toList_inj.1 (by rw [← ByteArray.toList_eq, ← ByteArray.toList_eq]; exact h')))
theorem eqT {x y : ByteArray} (h : x = y) : (x.toList == y.toList) = true := by rw [h]; exact beq_self_eq_true _
theorem eqF {x y : ByteArray} (h : ¬ x = y) : (x.toList == y.toList) = false := by
  rw [beq_eq_false_iff_ne]; intro h'; exact h (ByteArray.ext (Array.toList_inj.1 (by rw [← ByteArray.toList_eq, ← ByteArray.toList_eq]; exact h')))

end Go.Proofs.YtalkllfgedacoaaGreatDoor

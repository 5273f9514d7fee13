/- strconv.FormatUint at base 16, walked: a word's hexadecimal digits. -/
import Derived.Test.YtknlhkkpheahlaaDoorFmtU
import Derived.Laws.Bits64b
namespace Go.Proofs.YtknlhkkpheahlaaDoor
open Go.RowKit Go.Sort Go.Lib

/-- The one cell of the library's table that is read for base 16. -/
def Tz16 (w : World) : Prop := 4 < w.heap.size ∧ w.cell? ⟨4, 15, none⟩ = some (.int .u8 4)
theorem Tz16.below {w w' : World} (h : Tz16 w) (hb : Below w.heap.size w w') : Tz16 w' := ⟨Nat.lt_of_lt_of_le h.1 hb.size, by rw [hb.cell (p := ⟨4, 15, none⟩) h.1]; exact h.2⟩

def hexd (d : Nat) : UInt8 := if d < 10 then UInt8.ofNat (48 + d) else UInt8.ofNat (87 + d)
def hexDigits (u : Nat) : List UInt8 := if _h : u < 16 then [hexd u] else hexDigits (u / 16) ++ [hexd (u % 16)]
  termination_by u
  decreasing_by omega
def hexS (u : Nat) : ByteArray := ⟨(hexDigits u).toArray⟩

set_option maxHeartbeats 1000000 in
theorem isPow16 (w : World) : Calls Tryd.prog 125 #[.int .i64 16] w fun e w' => e = .returned (.bool true) ∧ w = w' := by
  go_enter Tryd.func125, Tryd.ntmps125
  go_wp2
  go_ret
  exact ⟨rfl, rfl⟩

set_option maxHeartbeats 1000000 in
theorem tz16_64 (w : World) (h : Tz16 w) : Calls Tryd.prog 137 #[.int .u64 16] w fun e w' => e = .returned (.int .i64 4) ∧ w = w' := by
  have hc := h.2
  have b1 : bits BinOp.and IntKind.u64 16 (IntKind.u64.wrap (-16)) = 16 := by decide +kernel
  have w1 : IntKind.u64.wrap (16 * 285870213051353865) = 4573923408821661840 := by decide +kernel
  go_enter Tryd.func137, Tryd.ntmps137
  go_wp2
  go_ret
  exact ⟨rfl, rfl⟩

set_option maxHeartbeats 1000000 in
theorem tz16 (w : World) (h : Tz16 w) : Calls Tryd.prog 126 #[.int .u64 16] w fun e w' => e = .returned (.int .i64 4) ∧ w = w' := by
  go_enter Tryd.func126, Tryd.ntmps126
  go_wp2_with (first | (go_at_call 137; refine (tz16_64 _ h).mono ?_; rintro e w' ⟨rfl, rfl⟩))
  go_ret
  exact ⟨rfl, rfl⟩

theorem hexd_at (d : Nat) (h : d < 16) : (⟨#[48, 49, 50, 51, 52, 53, 54, 55, 56, 57, 97, 98, 99, 100, 101, 102, 103, 104, 105, 106, 107, 108, 109, 110, 111, 112, 113, 114, 115, 116, 117, 118, 119, 120, 121, 122]⟩ : ByteArray).data[d]? = some (hexd d) := by
  have : ∀ d : Fin 16, (⟨#[48, 49, 50, 51, 52, 53, 54, 55, 56, 57, 97, 98, 99, 100, 101, 102, 103, 104, 105, 106, 107, 108, 109, 110, 111, 112, 113, 114, 115, 116, 117, 118, 119, 120, 121, 122]⟩ : ByteArray).data[(d : Nat)]? = some (hexd d) := by decide +kernel
  exact this ⟨d, h⟩

theorem hexd_get (d : Nat) (h : d < 16) (h' : d < (⟨#[48, 49, 50, 51, 52, 53, 54, 55, 56, 57, 97, 98, 99, 100, 101, 102, 103, 104, 105, 106, 107, 108, 109, 110, 111, 112, 113, 114, 115, 116, 117, 118, 119, 120, 121, 122]⟩ : ByteArray).size) : (⟨#[48, 49, 50, 51, 52, 53, 54, 55, 56, 57, 97, 98, 99, 100, 101, 102, 103, 104, 105, 106, 107, 108, 109, 110, 111, 112, 113, 114, 115, 116, 117, 118, 119, 120, 121, 122]⟩ : ByteArray)[d] = hexd d := by
  have h1 := hexd_at d h
  obtain ⟨h2, h3⟩ := Array.getElem?_eq_some_iff.1 h1
  exact h3

theorem and15 (u : Nat) (h : u < 18446744073709551616) : bits BinOp.and IntKind.u64 (u : Int) 15 = ((u % 16 : Nat) : Int) := by
  have h1 := bits_and_u64_nat u 15 h (by decide)
  have h2 : u &&& 15 = u % 16 := by
    have := Nat.and_two_pow_sub_one_eq_mod u 4
    simpa using this
  rw [h2] at h1
  exact h1

/-- The digits of u, ahead of those that are there. -/
theorem hex_step {u : Nat} (h : 16 ≤ u) : hexDigits u = hexDigits (u / 16) ++ [hexd (u % 16)] := by
  rw [hexDigits, dif_neg (by omega)]
theorem hex_last {u : Nat} (h : u < 16) : hexDigits u = [hexd u] := by
  rw [hexDigits, dif_pos h]
theorem hex_length : ∀ (n u : Nat), u < 16 ^ (n + 1) → (hexDigits u).length ≤ n + 1
  | 0, u, h => by rw [hex_last (by simpa using h)]; simp
  | n + 1, u, h => by
    by_cases h16 : u < 16
    · rw [hex_last h16]; simp
    · rw [hex_step (by omega)]
      have := hex_length n (u / 16) (by rw [Nat.div_lt_iff_lt_mul (by decide)]; rw [Nat.pow_succ] at h; exact h)
      simp; omega

def u8s (l : List UInt8) : List Value := l.map fun b => Value.int .u8 (b.toNat : Int)

theorem drop_set_one {l : List Value} {i : Nat} (h : i < l.length) (v : Value) : (l.set i v).drop i = v :: l.drop (i + 1) := by
  rw [List.drop_eq_getElem_cons (by simpa using h)]
  simp [List.drop_set_of_lt]

theorem zero65 : Tryd.zeroCells179 = (List.replicate 65 (Value.int .u8 0)).toArray := by kernel_rfl

set_option maxHeartbeats 8000000 in
set_option maxRecDepth 100000 in
theorem fmtBits16 (u : Nat) (hu : u < 18446744073709551616) (w : World) (ht : Tz16 w) :
    Calls Tryd.prog 107 #[.slice none 0 0, .int .u64 u, .int .i64 16, .bool false, .bool false] w fun e w' => e = .returned (.tuple #[.slice none 0 0, .string (hexS u)]) ∧ Below w.heap.size w w' := by
  have hlen := hex_length 15 u (by simpa using hu)
  have HT := Lib.hid ht
  have HU : RowKit.Hid (hexS u = ⟨(hexDigits u).toArray⟩) := Lib.hid rfl
  generalize hd : hexDigits u = D at *
  have HD := Lib.hid hd
  have HLN := Lib.hid hlen
  clear hd hlen
  have HB0 := Lib.hid (show Blk (w.alloc (.cells Tryd.zeroCells179 179)) w.heap.size 179 (List.replicate 65 (Value.int .u8 0)) from by rw [zero65]; exact Blk.new w _ _)
  have HW0 := Lib.hid ((Below.refl w.heap.size w).alloc (Nat.le_refl _) (.cells Tryd.zeroCells179 179))
  go_enter Tryd.func107, Tryd.ntmps107
  go_wp2_with (first | (go_at_call 125; refine (isPow16 _).mono ?_; rintro e w2 ⟨rfl, rfl⟩) | (go_at_call 126; refine (tz16 _ (HT.out.below ((Below.refl _ _).alloc (Nat.le_refl _) _))).mono ?_; rintro e w3 ⟨rfl, rfl⟩))
  generalize hg : w.heap.size = gb at *
  have HGB := Lib.hid hg
  generalize w.alloc (.cells Tryd.zeroCells179 179) = w1 at *
  clear hg
  go_loopg [1, 13] u (fun g uv i wr => ∃ (v k : Nat) (ds : List UInt8) (cs : List Value), g = v ∧ v < 18446744073709551616 ∧ uv = .int .u64 v ∧ i = .int .i64 k ∧ D = hexDigits v ++ ds ∧ k + ds.length = 65 ∧ cs.length = 65 ∧ cs.drop k = u8s ds ∧ Blk wr gb 179 cs ∧ Below gb w wr)
  case atStart => exact ⟨u, 65, [], _, rfl, hu, rfl, rfl, by rw [HD.out]; simp, rfl, by simp, by simp [u8s], HB0.out, HW0.out⟩
  case round =>
    obtain ⟨v, k, ds, cs, hgv, hv, rfl, rfl, hD, hkd, hcl, hcd, hblk, hb⟩ := hrel
    have HG := Lib.hid hgv
    have HDD := Lib.hid hD
    have HCL := Lib.hid hcl
    have HCD := Lib.hid hcd
    have HKD := Lib.hid hkd
    have HBK := Lib.hid hblk
    have HB := Lib.hid hb
    have hk1 : 49 ≤ k := by
      have h1 := HLN.out; rw [hD, List.length_append] at h1; omega
    have hk2 : k ≤ 65 := by omega
    clear hgv hD hcl hcd hblk hb hkd
    have h65 : k - 1 < cs.length := by rw [HCL.out]; omega
    have hcell := HBK.out.cell (i := k - 1) (v := cs[k - 1]) (List.getElem?_eq_getElem h65)
    have hfz := HBK.out.frozen (k - 1)
    have w1' : IntKind.i64.wrap ((k : Int) - 1) = ((k - 1 : Nat) : Int) := by rw [show (k : Int) - 1 = ((k - 1 : Nat) : Int) by omega]; exact IntWalk.i64_in _ (by omega)
    have q1 : (0 : Int) ≤ ((k - 1 : Nat) : Int) := by omega
    have q2 : ((k - 1 : Nat) : Int) < 65 := by omega
    by_cases h16 : 16 ≤ v
    · have t0 : ((16 : Int) ≤ (v : Int)) := by omega
      have a1 := and15 v hv
      have hx := hexd_at (v % 16) (by omega)
      have q3 : (0 : Int) ≤ ((v % 16 : Nat) : Int) := by omega
      have q4 : ((v % 16 : Nat) : Int) < 36 := by omega
      clear hx
      have HX := Lib.hid (hexd_get (v % 16) (by omega))
      go_wp2
      go_roundg (v / 16)
      case measure => rw [HG.out]; omega
      case rel =>
        refine ⟨v / 16, k - 1, hexd (v % 16) :: ds, cs.set (k - 1) _, rfl, by omega, by simp, rfl, by rw [HDD.out, hex_step h16]; simp, by have := HKD.out; simp; omega, by rw [List.length_set]; exact HCL.out, ?_, HBK.out.set_ _ _, HB.out.setCell (p := ⟨gb, k - 1, none⟩) (Nat.le_refl _) _⟩
        rw [drop_set_one h65, show k - 1 + 1 = k by omega, HCD.out, HX.out (Nat.lt_of_lt_of_le (Nat.mod_lt v (by decide : 0 < 16)) (by decide))]
        rfl
    · have t0 : ¬ ((16 : Int) ≤ (v : Int)) := by omega
      have HX := Lib.hid (hexd_get v (by omega))
      have q3 : (0 : Int) ≤ (v : Int) := by omega
      have q4 : (v : Int) < 36 := by omega
      have hal : Tryd.prog.arrayLen 179 = 65 := by kernel_rfl
      have hsl : ∀ W, (Instr.sliceAt 179 (.pointer (some ⟨gb, 0, none⟩)) (some (.int .i64 ((k - 1 : Nat) : Int))) none none).run Tryd.prog W = .ok (.slice (some ⟨gb, k - 1, none⟩) (65 - (k - 1)) (65 - (k - 1))) W := fun W => by
        rw [run_sliceAt_array_l W 179 ⟨gb, 0, none⟩ (by simp [Program.arrayLen, Program.elem, Tryd.underlying179]) .i64 ((k - 1 : Nat) : Int) (by omega) (by rw [hal]; omega)]
        rw [hal]
        go_simp
        omega
      clear hal
      have hfin := HBK.out.set_ (k - 1) (.int .u8 ((hexd v).toNat : Int))
      have hrest := drop_set_one h65 (.int .u8 ((hexd v).toNat : Int))
      rw [show k - 1 + 1 = k by omega, HCD.out] at hrest
      have hDl : D.length = 65 - (k - 1) := by have := HKD.out; rw [HDD.out, hex_last (by omega)]; simp; omega
      have hcv : (convert 106 9 (.slice (some ⟨gb, k - 1, none⟩) (65 - (k - 1)) (65 - (k - 1)))).run Tryd.prog (wr.setCell ⟨gb, k - 1, none⟩ (.int .u8 ((hexd v).toNat : Int))) = .ok (.string ⟨D.toArray⟩) (wr.setCell ⟨gb, k - 1, none⟩ (.int .u8 ((hexd v).toNat : Int))) := by
        have h := run_convert_bytes_back (P := Tryd.prog) (wr.setCell ⟨gb, k - 1, none⟩ (.int .u8 ((hexd v).toNat : Int))) 106 9 5 ⟨gb, k - 1, none⟩ (65 - (k - 1)) D Tryd.underlying106 Tryd.underlying5 Tryd.underlying9 (fun j hj => by
          have e1 : (Addr.add ⟨gb, k - 1, none⟩ j) = ⟨gb, k - 1 + j, none⟩ := Lib.add_plain _ _ _
          rw [e1]
          refine hfin.cell ?_
          have e2 : ((cs.set (k - 1) (.int .u8 ((hexd v).toNat : Int))).drop (k - 1))[j]? = (u8s D)[j]? := by
            rw [hrest, HDD.out, hex_last (by omega)]; rfl
          rw [List.getElem?_drop] at e2
          rw [e2]
          simp [u8s, hj])
        rw [hDl] at h
        exact h
      have HF := Lib.hid (HB.out.setCell (p := ⟨gb, k - 1, none⟩) (Nat.le_refl _) (.int .u8 ((hexd v).toNat : Int)))
      have HCV := Lib.hid hcv
      clear hcv hfin hrest hDl
      go_wp2
      rw [HX.out _, HCV.out]
      go_wp2
      go_ret2
      exact ⟨by rw [HU.out]; rfl, HF.out.mono (Nat.le_of_eq HGB.out)⟩

theorem HexU16 (u : Nat) (hu : u < 18446744073709551616) (w : World) (ht : Tz16 w) :
    Calls Tryd.prog 81 #[.int .u64 u, .int .i64 16] w fun e w' => e = .returned (.string (hexS u)) ∧ Below w.heap.size w w' := by
  have HF := Lib.hid (fmtBits16 u hu w ht)
  clear ht
  go_enter Tryd.func81, Tryd.ntmps81
  go_wp2_with (go_at_call 107; refine HF.out.mono ?_; rintro e w' ⟨rfl, hb⟩)
  go_ret
  exact ⟨rfl, hb⟩

theorem FormatUint16 (u : Nat) (hu : u < 18446744073709551616) (w : World) (ht : Tz16 w) :
    Calls Tryd.prog 46 #[.int .u64 u, .int .i64 16] w fun e w' => e = .returned (.string (hexS u)) ∧ Below w.heap.size w w' := by
  have HF := Lib.hid (HexU16 u hu w ht)
  clear ht
  go_enter Tryd.func46, Tryd.ntmps46
  go_wp2_with (go_at_call 81; refine HF.out.mono ?_; rintro e w' ⟨rfl, hb⟩)
  go_ret
  exact ⟨rfl, hb⟩

end Go.Proofs.YtknlhkkpheahlaaDoor

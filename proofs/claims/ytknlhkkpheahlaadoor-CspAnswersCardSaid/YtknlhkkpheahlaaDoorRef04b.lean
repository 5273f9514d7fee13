/- The document's texts and paths of faults (stopgateref04: Text, Path), walked. -/
import Derived.Test.YtknlhkkpheahlaaDoorRef04
import Derived.Test.YtknlhkkpheahlaaDoorGen
namespace Go.Proofs.YtknlhkkpheahlaaDoor
open Go.RowKit Go.Sort
attribute [local go_sem ↓] Go.wp_at_zero Go.wp_at_succ

instance : Cellful (ByteArray × Int) where
  cells := fun a => [.string a.1, .int .i64 a.2]
  s := 2
  dflt := (⟨#[]⟩, 0)
  len := fun _ => rfl
  one := fun a u hu => by
    simp only [List.mem_cons, List.not_mem_nil, or_false] at hu
    rcases hu with rfl | rfl <;> rfl

theorem one_cells {w : World} {b o : Nat} {l : List (ByteArray × Int)} (hc : ∀ k v, (rows l)[k]? = some v → w.cell? ⟨b, o + k, none⟩ = some v) {k : Nat} (hk : k < l.length) {x : ByteArray × Int} (hx : l.getD k (⟨#[]⟩, 0) = x) :
    w.cell? ⟨b, o + k * 2, none⟩ = some (.string x.1) ∧ w.cell? ⟨b, o + k * 2 + 1, none⟩ = some (.int .i64 x.2) := by
  have h := rec_cell hc hk hx
  exact ⟨h 0 _ rfl, h 1 _ rfl⟩

/-- Faults' texts, what separates them between. -/
def sepS (sep : ByteArray) : List (ByteArray × Int) → ByteArray
  | [] => ⟨#[]⟩
  | [x] => faultS x.1 x.2
  | x :: y :: r => faultS x.1 x.2 ++ sep ++ sepS sep (y :: r)

theorem sepS_snoc (sep : ByteArray) : ∀ (l : List (ByteArray × Int)) (x : ByteArray × Int), sepS sep (l ++ [x]) = if l = [] then faultS x.1 x.2 else sepS sep l ++ sep ++ faultS x.1 x.2
  | [], x => by simp [sepS]
  | [a], x => by simp [sepS]
  | a :: b :: r, x => by
    have ih := sepS_snoc sep (b :: r) x
    rw [if_neg (by simp)] at ih
    rw [if_neg (by simp)]
    show faultS a.1 a.2 ++ sep ++ sepS sep (b :: (r ++ [x])) = _
    have e : sepS sep (b :: (r ++ [x])) = sepS sep (b :: r) ++ sep ++ faultS x.1 x.2 := ih
    rw [e, sepS]
    simp only [ByteArray.append_assoc]

/-- What the first k of them make. -/
def sepTo (sep : ByteArray) (l : List (ByteArray × Int)) : Nat → ByteArray
  | 0 => ⟨#[]⟩
  | k + 1 => (if 0 < k then sepTo sep l k ++ sep else sepTo sep l k) ++ (l.getD k (⟨#[]⟩, 0)).1 ++ ⟨#[32]⟩ ++ itoaS (l.getD k (⟨#[]⟩, 0)).2

theorem empty_append (b : ByteArray) : (⟨#[]⟩ : ByteArray) ++ b = b := by apply ByteArray.ext; simp

theorem sepTo_eq (sep : ByteArray) (l : List (ByteArray × Int)) : ∀ k, k ≤ l.length → sepTo sep l k = sepS sep (l.take k)
  | 0, _ => by simp [sepTo, sepS]
  | k + 1, hk => by
    have ih := sepTo_eq sep l k (by omega)
    rw [List.take_succ_eq_append_getElem (by omega), sepS_snoc, sepTo, ih]
    have hg : l.getD k (⟨#[]⟩, 0) = l[k] := by simp [List.getD, show k < l.length by omega]
    rw [hg]
    rcases Nat.eq_zero_or_pos k with rfl | h
    · rw [if_neg (by omega), if_pos (by simp), faultS, List.take_zero, sepS, empty_append]
    · rw [if_pos h, if_neg (fun h' => by have := congrArg List.length h'; simp only [List.length_take, List.length_nil] at this; omega), faultS]
      simp only [ByteArray.append_assoc]

theorem sepTo_mono (sep : ByteArray) (l : List (ByteArray × Int)) : ∀ k m, k ≤ m → (sepTo sep l k).size ≤ (sepTo sep l m).size
  | k, 0, h => by
    obtain rfl : k = 0 := by omega
    exact Nat.le_refl _
  | k, m + 1, h => by
    rcases Nat.lt_or_ge k (m + 1) with hl | hl
    · have ih := sepTo_mono sep l k m (by omega)
      rw [sepTo, ByteArray.size_append, ByteArray.size_append, ByteArray.size_append]
      split
      · rw [ByteArray.size_append]; omega
      · omega
    · obtain rfl : k = m + 1 := by omega
      exact Nat.le_refl _

theorem chain_sep : ∀ (l : List (ByteArray × Int)) (e : Int), l ≠ [] → chainS l e = sepS ⟨#[58, 32]⟩ l ++ ⟨#[58, 32]⟩ ++ errnoS e
  | [], _, h => absurd rfl h
  | [x], e, _ => rfl
  | x :: y :: r, e, _ => by
    have ih := chain_sep (y :: r) e (by simp)
    show faultS x.1 x.2 ++ ⟨#[58, 32]⟩ ++ chainS (y :: r) e = _
    rw [ih, sepS]
    simp only [ByteArray.append_assoc]

/-- WALKS -/
theorem chain_text (l : List (ByteArray × Int)) (e : Int) : chainS l e = if l = [] then errnoS e else sepS ⟨#[58, 32]⟩ l ++ ⟨#[58, 32]⟩ ++ errnoS e := by
  split
  · rename_i h; subst h; rfl
  · rename_i h; exact chain_sep l e h

set_option maxHeartbeats 8000000 in
set_option maxRecDepth 100000 in
theorem rTextB_any (A : Option Addr) (c : Nat) (l : List (ByteArray × Int)) (e : Int) (w : World) (hR : Rd w A (rows l)) (hP : ∀ a ∈ l, In64 a.2) (hsz : (sepS ⟨#[58, 32]⟩ l).size ≤ 4611686018427387904) (hlm : l.length ≤ maxLen) :
    Calls Tryd.prog 35 #[.slice A l.length c, .bool false, .int .i64 e] w fun er w' => er = .returned (.string (sepS ⟨#[58, 32]⟩ l)) ∧ Below w.heap.size w w' := by
  unfold maxLen at hlm
  have HR := Lib.hid hR
  have HP := Lib.hid hP
  have HSZ := Lib.hid hsz
  have HT := Lib.hid (sepTo_eq ⟨#[58, 32]⟩ l l.length (Nat.le_refl _))
  rw [List.take_length] at HT
  clear hR hP hsz
  generalize hn : l.length = n at *
  have HN := Lib.hid hn
  clear hn
  rw [← HT.out] at HSZ
  go_enter Tryd.func35, Tryd.ntmps35
  go_wp2
  go_loopg [7, 12] n (fun g s i wr => ∃ (k : Nat), k ≤ n ∧ g = n - k ∧ i = .int .i64 k ∧ s = .string (sepTo ⟨#[58, 32]⟩ l k) ∧ Below w.heap.size w wr)
  case atStart => exact ⟨0, Nat.zero_le _, rfl, rfl, rfl, Below.refl _ _⟩
  case round =>
    obtain ⟨k, hk, hg, rfl, rfl, hb⟩ := hrel
    have HG := Lib.hid hg
    have HB := Lib.hid hb
    clear hg hb
    by_cases hlt : k < n
    · have hkl : k < l.length := by rw [HN.out]; exact hlt
      obtain ⟨b, o, rfl, hbl, hc⟩ := HR.out.at_ (by rw [rows_length]; exact Nat.mul_pos (by omega) (by decide))
      have hcr : ∀ j v, (rows l)[j]? = some v → wr.cell? ⟨b, o + j, none⟩ = some v := fun j v hj => by
        rw [HB.out.cell (p := ⟨b, o + j, none⟩) hbl]; exact hc j v hj
      obtain ⟨c0, c1⟩ := one_cells hcr hkl rfl
      have hin : In64 (l.getD k (⟨#[]⟩, 0)).2 := HP.out _ (by simp [List.getD, hkl])
      have HSTEP : RowKit.Hid (sepTo ⟨#[58, 32]⟩ l (k + 1) = (if 0 < k then sepTo ⟨#[58, 32]⟩ l k ++ ⟨#[58, 32]⟩ else sepTo ⟨#[58, 32]⟩ l k) ++ (l.getD k (⟨#[]⟩, 0)).1 ++ ⟨#[32]⟩ ++ itoaS (l.getD k (⟨#[]⟩, 0)).2) := Lib.hid rfl
      have hsz := Nat.le_trans (sepTo_mono ⟨#[58, 32]⟩ l (k + 1) n (by omega)) HSZ.out
      rw [HSTEP.out, ByteArray.size_append, ByteArray.size_append, ByteArray.size_append] at hsz
      have h32 : (⟨#[32]⟩ : ByteArray).size = 1 := rfl
      have hsp : (⟨#[58, 32]⟩ : ByteArray).size = 2 := rfl
      rw [h32] at hsz
      have HI := Lib.hid (fun W => rItoa_any _ hin W)
      generalize hx : l.getD k (⟨#[]⟩, 0) = x at *
      obtain ⟨xs, xp⟩ := x
      generalize sepTo ⟨#[58, 32]⟩ l k = tk at *
      simp only at c0 c1 HSTEP HI hsz hin
      generalize itoaS xp = z at *
      clear hc hcr hkl hx h32 hin
      have q1 : (0 : Int) ≤ (k : Int) := by omega
      have q2 : (k : Int) < (n : Int) := by omega
      by_cases h0 : 0 < k
      case' pos =>
        have t0 : (0 : Int) < (k : Int) := by omega
        rw [if_pos h0, ByteArray.size_append, hsp] at hsz
        have HST := Lib.hid (show sepTo ⟨#[58, 32]⟩ l (k + 1) = tk ++ ⟨#[58, 32]⟩ ++ xs ++ ⟨#[32]⟩ ++ z by rw [HSTEP.out, if_pos h0])
        have d0 : ¬ 9223372036854775807 < tk.size + 2 := by omega
        have d1 : ¬ 9223372036854775807 < tk.size + 2 + xs.size := by omega
        have d2 : ¬ 9223372036854775807 < tk.size + 2 + xs.size + 1 := by omega
        have d3 : ¬ 9223372036854775807 < tk.size + 2 + xs.size + 1 + z.size := by omega
      case' neg =>
        have t0 : ¬ (0 : Int) < (k : Int) := by omega
        rw [if_neg h0] at hsz
        have HST := Lib.hid (show sepTo ⟨#[58, 32]⟩ l (k + 1) = tk ++ xs ++ ⟨#[32]⟩ ++ z by rw [HSTEP.out, if_neg h0])
        have d1 : ¬ 9223372036854775807 < tk.size + xs.size := by omega
        have d2 : ¬ 9223372036854775807 < tk.size + xs.size + 1 := by omega
        have d3 : ¬ 9223372036854775807 < tk.size + xs.size + 1 + z.size := by omega
      all_goals
        clear h0 hsz hsp HSTEP
        go_upto_region 7 with (fail)
        have HBX := Lib.hid (show Blk (wr.alloc (.cells #[.string xs, .int .i64 xp] 69)) wr.heap.size 69 [.string xs, .int .i64 xp] from Blk.new wr _ _)
        have HB1 := Lib.hid (HB.out.alloc HB.out.size (.cells #[.string xs, .int .i64 xp] 69))
        generalize hw1 : wr.alloc (.cells #[.string xs, .int .i64 xp] 69) = w1 at *
        generalize hgb : wr.heap.size = gb at *
        clear hw1 hgb
        have x0 : w1.cell? ⟨gb, 0, none⟩ = some (.string xs) := HBX.out.cell rfl
        have x1 : w1.cell? ⟨gb, 1, none⟩ = some (.int .i64 xp) := HBX.out.cell rfl
        have hgl := HBX.out.lt
        go_region_held3 (fun w' => w'.cell? ⟨gb, 0, none⟩ = some (.string xs) ∧ w'.cell? ⟨gb, 1, none⟩ = some (.int .i64 xp)) (first | go_keep | (simp only [hk1]; go_keep))
          (first | (go_at_call 34; refine (HI.out w1.drew).mono ?_; rintro er w2 ⟨rfl, hb2⟩; have hB2 : Below w1.heap.size w1 w2 := ⟨hb2.os, hb2.tape, hb2.output, hb2.size, hb2.block⟩; have hk1 := fun o => hB2.cell (p := ⟨gb, o, none⟩) hgl))
        have HB2 := Lib.hid (HB1.out.trans (hB2.mono HB1.out.size))
        clear hk1 hB2 hb2 x0 x1
        go_wp2
        go_roundg (n - (k + 1))
        case measure => rw [HG.out]; omega
        case rel => exact ⟨k + 1, by omega, rfl, by go_num, by rw [HST.out], HB2.out⟩
    · obtain rfl : k = n := by omega
      go_wp2
      go_ret
      exact ⟨by rw [← HT.out]; rfl, HB.out⟩

set_option maxHeartbeats 8000000 in
set_option maxRecDepth 100000 in
theorem rText_any (A : Option Addr) (c : Nat) (l : List (ByteArray × Int)) (e : Int) (w : World) (hR : Rd w A (rows l)) (hP : ∀ a ∈ l, In64 a.2) (he : In64 e) (hsz : (sepS ⟨#[58, 32]⟩ l).size ≤ 4611686018427387904) (hlm : l.length ≤ maxLen) :
    Calls Tryd.prog 35 #[.slice A l.length c, .bool true, .int .i64 e] w fun er w' => er = .returned (.string (chainS l e)) ∧ Below w.heap.size w w' := by
  unfold maxLen at hlm
  have HR := Lib.hid hR
  have HP := Lib.hid hP
  have HSZ := Lib.hid hsz
  have HT := Lib.hid (sepTo_eq ⟨#[58, 32]⟩ l l.length (Nat.le_refl _))
  rw [List.take_length] at HT
  clear hR hP hsz
  have HE := Lib.hid (fun W => rItoa_any e he W)
  have hez := itoaS_size he
  have HER : RowKit.Hid (errnoS e = ⟨#[101, 114, 114, 111, 114, 32]⟩ ++ itoaS e) := Lib.hid rfl
  generalize itoaS e = ez at *
  have HCH := Lib.hid (chain_text l e)
  clear he
  generalize hn : l.length = n at *
  have HN := Lib.hid hn
  clear hn
  rw [← HT.out] at HSZ
  go_enter Tryd.func35, Tryd.ntmps35
  go_wp2
  go_loopg [7, 12] n (fun g s i wr => ∃ (k : Nat), k ≤ n ∧ g = n - k ∧ i = .int .i64 k ∧ s = .string (sepTo ⟨#[58, 32]⟩ l k) ∧ Below w.heap.size w wr)
  case atStart => exact ⟨0, Nat.zero_le _, rfl, rfl, rfl, Below.refl _ _⟩
  case round =>
    obtain ⟨k, hk, hg, rfl, rfl, hb⟩ := hrel
    have HG := Lib.hid hg
    have HB := Lib.hid hb
    clear hg hb
    by_cases hlt : k < n
    · have hkl : k < l.length := by rw [HN.out]; exact hlt
      obtain ⟨b, o, rfl, hbl, hc⟩ := HR.out.at_ (by rw [rows_length]; exact Nat.mul_pos (by omega) (by decide))
      have hcr : ∀ j v, (rows l)[j]? = some v → wr.cell? ⟨b, o + j, none⟩ = some v := fun j v hj => by
        rw [HB.out.cell (p := ⟨b, o + j, none⟩) hbl]; exact hc j v hj
      obtain ⟨c0, c1⟩ := one_cells hcr hkl rfl
      have hin : In64 (l.getD k (⟨#[]⟩, 0)).2 := HP.out _ (by simp [List.getD, hkl])
      have HSTEP : RowKit.Hid (sepTo ⟨#[58, 32]⟩ l (k + 1) = (if 0 < k then sepTo ⟨#[58, 32]⟩ l k ++ ⟨#[58, 32]⟩ else sepTo ⟨#[58, 32]⟩ l k) ++ (l.getD k (⟨#[]⟩, 0)).1 ++ ⟨#[32]⟩ ++ itoaS (l.getD k (⟨#[]⟩, 0)).2) := Lib.hid rfl
      have hsz := Nat.le_trans (sepTo_mono ⟨#[58, 32]⟩ l (k + 1) n (by omega)) HSZ.out
      rw [HSTEP.out, ByteArray.size_append, ByteArray.size_append, ByteArray.size_append] at hsz
      have h32 : (⟨#[32]⟩ : ByteArray).size = 1 := rfl
      have hsp : (⟨#[58, 32]⟩ : ByteArray).size = 2 := rfl
      rw [h32] at hsz
      have HI := Lib.hid (fun W => rItoa_any _ hin W)
      generalize hx : l.getD k (⟨#[]⟩, 0) = x at *
      obtain ⟨xs, xp⟩ := x
      generalize sepTo ⟨#[58, 32]⟩ l k = tk at *
      simp only at c0 c1 HSTEP HI hsz hin
      generalize itoaS xp = z at *
      clear hc hcr hkl hx h32 hin
      have q1 : (0 : Int) ≤ (k : Int) := by omega
      have q2 : (k : Int) < (n : Int) := by omega
      by_cases h0 : 0 < k
      case' pos =>
        have t0 : (0 : Int) < (k : Int) := by omega
        rw [if_pos h0, ByteArray.size_append, hsp] at hsz
        have HST := Lib.hid (show sepTo ⟨#[58, 32]⟩ l (k + 1) = tk ++ ⟨#[58, 32]⟩ ++ xs ++ ⟨#[32]⟩ ++ z by rw [HSTEP.out, if_pos h0])
        have d0 : ¬ 9223372036854775807 < tk.size + 2 := by omega
        have d1 : ¬ 9223372036854775807 < tk.size + 2 + xs.size := by omega
        have d2 : ¬ 9223372036854775807 < tk.size + 2 + xs.size + 1 := by omega
        have d3 : ¬ 9223372036854775807 < tk.size + 2 + xs.size + 1 + z.size := by omega
      case' neg =>
        have t0 : ¬ (0 : Int) < (k : Int) := by omega
        rw [if_neg h0] at hsz
        have HST := Lib.hid (show sepTo ⟨#[58, 32]⟩ l (k + 1) = tk ++ xs ++ ⟨#[32]⟩ ++ z by rw [HSTEP.out, if_neg h0])
        have d1 : ¬ 9223372036854775807 < tk.size + xs.size := by omega
        have d2 : ¬ 9223372036854775807 < tk.size + xs.size + 1 := by omega
        have d3 : ¬ 9223372036854775807 < tk.size + xs.size + 1 + z.size := by omega
      all_goals
        clear h0 hsz hsp HSTEP
        go_upto_region 7 with (fail)
        have HBX := Lib.hid (show Blk (wr.alloc (.cells #[.string xs, .int .i64 xp] 69)) wr.heap.size 69 [.string xs, .int .i64 xp] from Blk.new wr _ _)
        have HB1 := Lib.hid (HB.out.alloc HB.out.size (.cells #[.string xs, .int .i64 xp] 69))
        generalize hw1 : wr.alloc (.cells #[.string xs, .int .i64 xp] 69) = w1 at *
        generalize hgb : wr.heap.size = gb at *
        clear hw1 hgb
        have x0 : w1.cell? ⟨gb, 0, none⟩ = some (.string xs) := HBX.out.cell rfl
        have x1 : w1.cell? ⟨gb, 1, none⟩ = some (.int .i64 xp) := HBX.out.cell rfl
        have hgl := HBX.out.lt
        go_region_held3 (fun w' => w'.cell? ⟨gb, 0, none⟩ = some (.string xs) ∧ w'.cell? ⟨gb, 1, none⟩ = some (.int .i64 xp)) (first | go_keep | (simp only [hk1]; go_keep))
          (first | (go_at_call 34; refine (HI.out w1.drew).mono ?_; rintro er w2 ⟨rfl, hb2⟩; have hB2 : Below w1.heap.size w1 w2 := ⟨hb2.os, hb2.tape, hb2.output, hb2.size, hb2.block⟩; have hk1 := fun o => hB2.cell (p := ⟨gb, o, none⟩) hgl))
        have HB2 := Lib.hid (HB1.out.trans (hB2.mono HB1.out.size))
        clear hk1 hB2 hb2 x0 x1
        go_wp2
        go_roundg (n - (k + 1))
        case measure => rw [HG.out]; omega
        case rel => exact ⟨k + 1, by omega, rfl, by go_num, by rw [HST.out], HB2.out⟩
    · obtain rfl : k = n := by omega
      generalize sepTo ⟨#[58, 32]⟩ l k = tk at *
      have htk := HSZ.out
      by_cases h0 : 0 < k
      · have t0 : (0 : Int) < (k : Int) := by omega
        have d0 : ¬ 9223372036854775807 < tk.size + 2 := by omega
        have d1 : ¬ 9223372036854775807 < tk.size + 2 + 6 := by omega
        have d2 : ¬ 9223372036854775807 < tk.size + 2 + 6 + ez.size := by omega
        have HF := Lib.hid (show chainS l e = tk ++ ⟨#[58, 32]⟩ ++ ⟨#[101, 114, 114, 111, 114, 32]⟩ ++ ez by rw [HCH.out, if_neg (by intro h; rw [h] at HN; have := HN.out; simp at this; omega), HER.out, HT.out]; simp only [ByteArray.append_assoc])
        clear h0
        go_wp2_with (first | (go_at_call 34; refine (HE.out _).mono ?_; rintro er w2 ⟨rfl, hb2⟩; have HB2 := Lib.hid (HB.out.trans (hb2.mono HB.out.size)); clear hb2))
        go_ret
        exact ⟨by rw [HF.out]; rfl, HB2.out⟩
      · have t0 : ¬ (0 : Int) < (k : Int) := by omega
        have d1 : ¬ 9223372036854775807 < tk.size + 6 := by omega
        have d2 : ¬ 9223372036854775807 < tk.size + 6 + ez.size := by omega
        have hl0 : l = [] := List.eq_nil_of_length_eq_zero (by rw [HN.out]; omega)
        have HF := Lib.hid (show chainS l e = tk ++ ⟨#[101, 114, 114, 111, 114, 32]⟩ ++ ez by rw [HCH.out, if_pos hl0, HER.out, HT.out, hl0, sepS, empty_append])
        clear h0 hl0
        go_wp2_with (first | (go_at_call 34; refine (HE.out _).mono ?_; rintro er w2 ⟨rfl, hb2⟩; have HB2 := Lib.hid (HB.out.trans (hb2.mono HB.out.size)); clear hb2))
        go_ret
        exact ⟨by rw [HF.out]; rfl, HB2.out⟩

end Go.Proofs.YtknlhkkpheahlaaDoor

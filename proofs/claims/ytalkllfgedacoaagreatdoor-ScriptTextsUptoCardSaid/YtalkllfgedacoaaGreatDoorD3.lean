/- Plain: calls as words, and read from words. -/
import Derived.Test.YtalkllfgedacoaaGreatDoorD1
import Derived.Lib.Split
import Derived.Lib.Join
import Derived.Lib.ItoaNum
import Derived.Lib.ItoaMem
import Derived.Lib.ParseIntB
import Derived.Lib.IndexLaws
import Derived.Lib.IndexBytes
import Derived.Test.YtalkllfgedacoaaGreatDoorD2
import Derived.Laws.IdiomStrings
import Derived.Lib.SplitLaws
namespace Go.Proofs.YtalkllfgedacoaaGreatDoor
open Go.RowKit Go.Sort

theorem isPre1 (c b : UInt8) (l : List UInt8) : [c].isPrefixOf (b :: l) = (c == b) := by simp [List.isPrefixOf]
theorem index_one_none (c : UInt8) : ∀ (x : List UInt8), c ∉ x → Lib.index x [c] = -1
  | [], _ => rfl
  | b :: l, h => by
    rw [List.mem_cons] at h
    have hb : (c == b) = false := by rw [beq_eq_false_iff_ne]; exact fun e => h (.inl e)
    have ih := index_one_none c l (fun e => h (.inr e))
    rw [Lib.index, isPre1, hb, ih]
    rfl
theorem index_one_at (c : UInt8) (r : List UInt8) : ∀ (x : List UInt8), c ∉ x → Lib.index (x ++ c :: r) [c] = (x.length : Int)
  | [], _ => by rw [List.nil_append, Lib.index, isPre1]; simp
  | b :: l, h => by
    rw [List.mem_cons] at h
    have hb : (c == b) = false := by rw [beq_eq_false_iff_ne]; exact fun e => h (.inl e)
    have ih := index_one_at c r l (fun e => h (.inr e))
    rw [List.cons_append, Lib.index, isPre1, hb, ih]
    have : ((l.length : Int) == -1) = false := by rw [beq_eq_false_iff_ne]; omega
    simp [this]

theorem cut_at (c : UInt8) (x r : List UInt8) (h : c ∉ x) : Lib.cut (x ++ c :: r) [c] = (x, r, true) := by
  unfold Lib.cut
  rw [index_one_at c r x h, if_pos (by omega)]
  simp

theorem bytes_l (l : List UInt8) : (⟨l.toArray⟩ : ByteArray).data.toList = l := by simp
theorem bytes_ext (s : ByteArray) : (⟨s.data.toList.toArray⟩ : ByteArray) = s := by simp
theorem extract_drop (l : List UInt8) (a : Nat) : ((⟨l.toArray⟩ : ByteArray).extract a l.length) = ⟨(l.drop a).toArray⟩ := by
  apply ByteArray.ext
  simp [ByteArray.data_extract, List.take_of_length_le]
theorem extract_take (l : List UInt8) (a : Nat) : ((⟨l.toArray⟩ : ByteArray).extract 0 a) = ⟨(l.take a).toArray⟩ := by
  apply ByteArray.ext
  simp [ByteArray.data_extract]

/-- A row of words that hold no blank (of byte c), put together by blanks, is parted into the words. -/
theorem split_join (c : UInt8) : ∀ (r : List (List UInt8)) (x : List UInt8), (∀ y ∈ x :: r, c ∉ y) →
    Lib.countB ⟨(x ++ Lib.joinTail [c] r).toArray⟩ ⟨#[c]⟩ = r.length ∧ Lib.splitB ⟨#[c]⟩ 0 r.length ⟨(x ++ Lib.joinTail [c] r).toArray⟩ = (x :: r).map (fun y => ⟨y.toArray⟩)
  | [], x, h => by
    have hi : Lib.indexB ⟨(x ++ Lib.joinTail [c] []).toArray⟩ ⟨#[c]⟩ = -1 := by
      have := index_one_none c x (h x (List.mem_cons_self ..))
      simpa [Lib.indexB, Lib.joinTail] using this
    refine ⟨Lib.countB_miss _ _ hi, ?_⟩
    rw [List.length_nil, Lib.splitB_zero]
    simp [Lib.joinTail]
  | y :: r, x, h => by
    obtain ⟨ih1, ih2⟩ := split_join c r y (fun z hz => h z (List.mem_cons_of_mem _ hz))
    have e0 : x ++ Lib.joinTail [c] (y :: r) = x ++ c :: (y ++ Lib.joinTail [c] r) := by simp [Lib.joinTail]
    rw [e0]
    have hi : Lib.indexB ⟨(x ++ c :: (y ++ Lib.joinTail [c] r)).toArray⟩ ⟨#[c]⟩ = (x.length : Int) := by
      have := index_one_at c (y ++ Lib.joinTail [c] r) x (h x (List.mem_cons_self ..))
      simpa [Lib.indexB] using this
    have hd : (⟨(x ++ c :: (y ++ Lib.joinTail [c] r)).toArray⟩ : ByteArray).extract (x.length + (⟨#[c]⟩ : ByteArray).size) (⟨(x ++ c :: (y ++ Lib.joinTail [c] r)).toArray⟩ : ByteArray).size = ⟨(y ++ Lib.joinTail [c] r).toArray⟩ := by
      have hs : (⟨(x ++ c :: (y ++ Lib.joinTail [c] r)).toArray⟩ : ByteArray).size = (x ++ c :: (y ++ Lib.joinTail [c] r)).length := by simp [ByteArray.size]
      rw [hs, extract_drop]
      have h1 : (⟨#[c]⟩ : ByteArray).size = 1 := rfl
      rw [h1, show x ++ c :: (y ++ Lib.joinTail [c] r) = (x ++ [c]) ++ (y ++ Lib.joinTail [c] r) by simp, List.drop_left' (by simp)]
    have ht : (⟨(x ++ c :: (y ++ Lib.joinTail [c] r)).toArray⟩ : ByteArray).extract 0 (x.length + 0) = ⟨x.toArray⟩ := by
      rw [Nat.add_zero, extract_take, List.take_left' rfl]
    refine ⟨?_, ?_⟩
    · rw [Lib.countB_hit _ _ _ (show 1 ≤ (⟨#[c]⟩ : ByteArray).size from Nat.le_refl 1) hi, hd, ih1, List.length_cons]; omega
    · rw [List.length_cons, Lib.splitB_hit _ _ _ _ _ hi, hd, ht, ih2]; rfl

theorem pu_append (M : Nat) : ∀ (l : List UInt8) (acc : Nat) (d : UInt8) (v : Nat), Lib.parseUintM M acc l = .ok v → Lib.parseUintM M acc (l ++ [d]) = Lib.parseUintM M v [d]
  | [], acc, d, v, h => by
    rw [Lib.parseUintM] at h
    injection h with h
    rw [h, List.nil_append]
  | c :: r, acc, d, v, h => by
    rw [Lib.parseUintM] at h
    rw [List.cons_append, Lib.parseUintM]
    split at h
    · rename_i h1
      rw [if_pos h1]
      split at h
      · cases h
      · rename_i h2
        rw [if_neg h2]
        split at h
        · cases h
        · rename_i h3
          rw [if_neg h3]
          exact pu_append M r _ d v h
    · cases h

theorem pu_digit (M v k : Nat) (hk : k < 10) (hv : v * 10 + k ≤ M) (hM : M ≤ 4294967295) : Lib.parseUintM M v [UInt8.ofNat (48 + k)] = .ok (v * 10 + k) := by
  have e : (UInt8.ofNat (48 + k)).toNat = 48 + k := by simp; omega
  rw [Lib.parseUintM, e, if_pos (by omega), if_neg (by omega), if_neg (by omega), Lib.parseUintM]
  congr 1
  omega

theorem pu_dec (M : Nat) (hM : M ≤ 4294967295) : ∀ (n : Nat), n ≤ M → Lib.parseUintM M 0 (Lib.decDigits n) = .ok n := by
  intro n
  induction n using Nat.strongRecOn with
  | _ n ih =>
    intro h
    rw [Lib.decDigits]
    split
    · rename_i hn
      rw [pu_digit M 0 n hn (by omega) hM]
      congr 1
      omega
    · rename_i hn
      have := ih (n / 10) (by omega) (by omega)
      rw [pu_append M _ 0 _ _ this, pu_digit M (n / 10) (n % 10) (by omega) (by omega) hM]
      congr 1
      omega

theorem dec_ne (n : Nat) : Lib.decDigits n ≠ [] := by
  rw [Lib.decDigits]
  split <;> simp
theorem dec_digit : ∀ (n : Nat), ∀ d ∈ Lib.decDigits n, 48 ≤ d.toNat ∧ d.toNat ≤ 57 := by
  intro n
  induction n using Nat.strongRecOn with
  | _ n ih =>
    intro d hd
    rw [Lib.decDigits] at hd
    split at hd
    · rename_i hn
      rw [List.mem_singleton] at hd
      subst hd
      simp; omega
    · rename_i hn
      rw [List.mem_append, List.mem_singleton] at hd
      rcases hd with hd | rfl
      · exact ih (n / 10) (by omega) d hd
      · simp; omega
theorem pu32_dec (n : Nat) (h : n ≤ 4294967295) : Lib.parseUintB 32 (Lib.decDigits n) = .ok n := by
  unfold Lib.parseUintB
  rw [if_neg (dec_ne n)]
  exact pu_dec _ (by omega) n (by omega)

/-- How long a number's text is at the most. -/
theorem dec_len : ∀ (k n : Nat), 1 ≤ k → n < 10 ^ k → (Lib.decDigits n).length ≤ k := by
  intro k
  induction k with
  | zero => intro n h; omega
  | succ k ih =>
    intro n _ h
    rw [Lib.decDigits]
    split
    · simp
    · rename_i hn
      rw [List.length_append, List.length_singleton]
      rcases Nat.eq_zero_or_pos k with rfl | hk
      · omega
      · have := ih (n / 10) hk (by rw [Nat.pow_succ] at h; omega)
        omega

end Go.Proofs.YtalkllfgedacoaaGreatDoor

namespace Go.Proofs.YtalkllfgedacoaaGreatDoor
open Go.RowKit Go.Sort

instance : Cellful ByteArray where
  cells := fun a => [.string a]
  s := 1
  dflt := ⟨#[]⟩
  len := fun _ => rfl
  one := fun a u hu => by
    simp only [List.mem_cons, List.not_mem_nil, or_false] at hu
    subst hu; rfl

theorem str_info : (Tryz.prog.info? 9).map (fun i => (i.zero, i.size, i.bytes)) = some (some (.string ⟨#[]⟩), 1, 16) := by kernel_rfl

theorem own_new {w : World} {base : Nat} {e : TypeId} {s n : Nat} {v : Value} {xs : List Value} (h : w.ownsRow base e s v n xs) {g : Nat} (hg : w.heap.size ≤ g) : some g ≠ v.ownBlock := by
  rcases h.2 with ⟨rfl, _⟩ | ⟨b, cap, cur, rfl, _, hh, _⟩
  · simp [Value.ownBlock]
  · simp only [Value.ownBlock, ne_eq, Option.some.injEq]
    rcases Nat.lt_or_ge b w.heap.size with h' | h'
    · omega
    · rw [Array.getElem?_eq_none h'] at hh; cases hh

theorem strs_cell {w : World} {A : Option Addr} {l : List ByteArray} (h : Rd w A (rows l)) (hne : l ≠ []) : ∃ b o, A = some ⟨b, o, none⟩ ∧ b < w.heap.size ∧ ∀ j x, l[j]? = some x → w.cell? ⟨b, o + j, none⟩ = some (.string x) := by
  obtain ⟨b, o, h1, h2, h3⟩ := h.at_ (by rw [rows_length]; exact Nat.mul_pos (List.length_pos_iff.2 hne) (by decide))
  refine ⟨b, o, h1, h2, fun j x hj => h3 j _ ?_⟩
  have hl : j < l.length := (List.getElem?_eq_some_iff.1 hj).1
  have h4 := rows_at (l := l) hl 0 (by decide)
  have e1 : (Cellful.s (α := ByteArray)) = 1 := rfl
  rw [e1, Nat.mul_one, Nat.add_zero] at h4
  have e2 : l.getD j Cellful.dflt = x := by simp [List.getD, hj]
  rw [h4, e2]; rfl

end Go.Proofs.YtalkllfgedacoaaGreatDoor

namespace Go.Proofs.YtalkllfgedacoaaGreatDoor
open Go.RowKit Go.Sort

/-- The pieces ahead of place k, and where the piece that is open began. -/
def splitTo (s : ByteArray) (c : UInt8) : Nat → List ByteArray × Nat
  | 0 => ([], 0)
  | k + 1 => if s.data.toList.getD k 0 = c then ((splitTo s c k).1 ++ [s.extract (splitTo s c k).2 k], k + 1) else splitTo s c k
def splitB (s : ByteArray) (c : UInt8) : List ByteArray := (splitTo s c s.size).1 ++ [s.extract (splitTo s c s.size).2 s.size]

theorem splitTo_b (s : ByteArray) (c : UInt8) : ∀ k, (splitTo s c k).1.length ≤ k ∧ (splitTo s c k).2 ≤ k
  | 0 => by simp [splitTo]
  | k + 1 => by
    have ih := splitTo_b s c k
    rw [splitTo]
    split
    · simp; omega
    · omega

set_option maxHeartbeats 4000000 in
set_option maxRecDepth 100000 in
theorem Split_any (s : ByteArray) (c : UInt8) (w : World) (hs : s.size ≤ 1099511627776) :
    Calls Tryz.prog 49 #[.string s, .int .u8 (c.toNat : Int)] w fun e w' => ∃ A cp, e = .returned (.slice A (splitB s c).length cp) ∧ w'.ownsRow w.heap.size 9 1 (.slice A (splitB s c).length cp) (splitB s c).length (rows (splitB s c)) ∧ Below w.heap.size w w' := by
  have HSB : RowKit.Hid (splitB s c = (splitTo s c s.size).1 ++ [s.extract (splitTo s c s.size).2 s.size]) := Lib.hid rfl
  go_enter Tryz.func49, Tryz.ntmps49
  go_wp2
  go_loopg [5, 6, 7] s.size (fun g ov fv i wr => ∃ (k : Nat) (V : Option Addr) (cv : Nat), g = s.size - k ∧ k ≤ s.size ∧ i = .int .i64 k ∧ fv = .int .i64 (splitTo s c k).2 ∧ ov = .slice V (splitTo s c k).1.length cv ∧ wr.ownsRow w.heap.size 9 1 (.slice V (splitTo s c k).1.length cv) (splitTo s c k).1.length (rows (splitTo s c k).1) ∧ Below w.heap.size w wr)
  case atStart => exact ⟨0, none, 0, by omega, Nat.zero_le _, rfl, rfl, rfl, own_nil _ _ _ _, Below.refl _ _⟩
  case round =>
    obtain ⟨k, V, cv, hg, hk, rfl, rfl, rfl, hown, hb⟩ := hrel
    have HG := Lib.hid hg
    have HB := Lib.hid hb
    have HO := Lib.hid hown
    have hsb := splitTo_b s c k
    have HST : RowKit.Hid (splitTo s c (k + 1) = if s.data.toList.getD k 0 = c then ((splitTo s c k).1 ++ [s.extract (splitTo s c k).2 k], k + 1) else splitTo s c k) := Lib.hid rfl
    obtain ⟨hs1, hs2⟩ := hsb
    clear hg hb hown
    by_cases hlt : k < s.size
    · have HGD := Lib.hid (show s.data.toList.getD k 0 = s[k] by
        have h1 : k < s.data.size := hlt
        rw [List.getD, Array.getElem?_toList, Array.getElem?_eq_getElem h1]; rfl)
      rw [HGD.out] at HST
      generalize hst : splitTo s c k = st at *
      obtain ⟨ol, fr⟩ := st
      simp only at HO HST hs1 hs2
      generalize hon : ol.length = on at *
      have HON := Lib.hid hon
      clear hst hon
      by_cases hbc : s[k] = c
      · have HE := Lib.hid (show splitTo s c (k + 1) = (ol ++ [s.extract fr k], k + 1) by rw [HST.out, if_pos hbc])
        have b1 : ((s[k].toNat : Int) == (c.toNat : Int)) = true := by rw [hbc]; simp
        have q1 : (0 : Int) ≤ (fr : Int) := by omega
        have q2 : (fr : Int) ≤ (k : Int) := by omega
        have q3 : (k : Int) ≤ (s.size : Int) := by omega
        clear hbc HST
        go_wp2_with (at_builtin; refine wpList_app rfl (.tmp 19) (.tmp 24) 57 9 rfl w.heap.size (.string ⟨#[]⟩) 1 16 Tryz.underlying57 str_info rfl (by decide) V on cv (rows ol) rfl (HO.out.alloc _) (some ⟨wr.heap.size, 0, none⟩) 1 1 (rows [s.extract fr k]) rfl (by simp) rfl (blk_new (cs := rows [s.extract fr k]) rfl).rd (rows_one _) (on + 1) rfl (rows (ol ++ [s.extract fr k])) (by rw [rows_append]) (by unfold maxLen; omega) (by omega) (by have := HB.out.size; simp; omega) ?_; intro V3 cv3 w3 hown3 hg3 hb3)
        go_roundg (s.size - (k + 1))
        case measure => rw [HG.out]; omega
        case rel =>
          refine ⟨k + 1, V3, cv3, rfl, by omega, by go_num, ?_, ?_, ?_, (HB.out.alloc HB.out.size _).trans hb3⟩
          · rw [HE.out]; go_num
          · rw [HE.out]; simp [HON.out]
          · rw [HE.out]; simp only [List.length_append, List.length_cons, List.length_nil, HON.out]; exact hown3
      · have HE := Lib.hid (show splitTo s c (k + 1) = (ol, fr) by rw [HST.out, if_neg hbc])
        have b1 : ((s[k].toNat : Int) == (c.toNat : Int)) = false := by
          rw [beq_eq_false_iff_ne]; intro h; exact hbc (UInt8.toNat_inj.1 (by omega))
        clear hbc HST
        go_wp2
        go_roundg (s.size - (k + 1))
        case measure => rw [HG.out]; omega
        case rel =>
          refine ⟨k + 1, V, cv, rfl, by omega, by go_num, by rw [HE.out], by rw [HE.out, HON.out], ?_, HB.out⟩
          rw [HE.out]; simp only [HON.out]; exact HO.out
    · obtain rfl : k = s.size := by omega
      generalize hst : splitTo s c s.size = st at *
      obtain ⟨ol, fr⟩ := st
      simp only at HO HSB hs1 hs2
      generalize hon : ol.length = on at *
      have HON := Lib.hid hon
      have HLN := Lib.hid (show (splitB s c).length = on + 1 by rw [HSB.out]; simp [HON.out])
      clear hst hon HST
      have q1 : (0 : Int) ≤ (fr : Int) := by omega
      have q2 : (fr : Int) ≤ (s.size : Int) := by omega
      go_wp2_with (at_builtin; refine wpList_app rfl (.tmp 28) (.tmp 32) 57 9 rfl w.heap.size (.string ⟨#[]⟩) 1 16 Tryz.underlying57 str_info rfl (by decide) V on cv (rows ol) rfl (HO.out.alloc _) (some ⟨wr.heap.size, 0, none⟩) 1 1 (rows [s.extract fr s.size]) rfl (by simp) rfl (blk_new (cs := rows [s.extract fr s.size]) rfl).rd (rows_one _) (on + 1) rfl (rows (ol ++ [s.extract fr s.size])) (by rw [rows_append]) (by unfold maxLen; omega) (by omega) (by have := HB.out.size; simp; omega) ?_; intro V3 cv3 w3 hown3 hg3 hb3)
      go_ret
      refine ⟨V3, cv3, by rw [HLN.out]; rfl, ?_, (HB.out.alloc HB.out.size _).trans hb3⟩
      rw [HLN.out, HSB.out]; exact hown3

end Go.Proofs.YtalkllfgedacoaaGreatDoor

namespace Go.Proofs.YtalkllfgedacoaaGreatDoor
open Go.RowKit Go.Sort Go.Lib

def udecS (u : Nat) : ByteArray := ⟨(Lib.decDigits u).toArray⟩

theorem holds_zero0 (w : World) (T : TypeId) (nd : Nat) (hs : nd ≤ 24) : Holds (fun (b : UInt8) => Value.int .u8 (b.toNat : Int)) (w.alloc (.cells zeros24 T)) w.heap.size 0 (Array.replicate nd (0 : UInt8)) := fun j hj => by
  have hj' : j < nd := by simpa using hj
  refine ⟨?_, World.frozen?_alloc_new _ _ _ _⟩
  rw [World.cell?_alloc_new, Nat.zero_add, zeros24_at _ (by omega), getElem!_pos _ j hj]
  simp

theorem below_put0 (w : World) (o : Obj) (dk : Array UInt8) (k : Nat) : Below w.heap.size w ((putRow (fun (b : UInt8) => Value.int .u8 (b.toNat : Int)) (w.alloc o) w.heap.size 0 dk).drewN k) := by
  have h : ∃ os, (putRow (fun (b : UInt8) => Value.int .u8 (b.toNat : Int)) (w.alloc o) w.heap.size 0 dk).drewN k = grow (w.drewN k) os := by
    rw [alloc_eq_grow]
    obtain ⟨os', _, e⟩ := putRow_grow_new (fun (b : UInt8) => Value.int .u8 (b.toNat : Int)) w #[o] w.heap.size 0 dk (Nat.le_refl _)
    exact ⟨os', by rw [e]; rfl⟩
  obtain ⟨os, e⟩ := h
  rw [e]
  exact Lib.below_grow _ _ (Nat.le_refl _) _ _

set_option maxHeartbeats 6400000 in
set_option maxRecDepth 100000 in
theorem FmtU10 (u : Nat) (hu64 : u < 18446744073709551616) (w : World) (ht : TabT w) :
    Calls Tryz.prog 121 #[.int .u64 u, .int .i64 10] w fun e w' => e = .returned (.string (udecS u)) ∧ Below w.heap.size w w' := by
  by_cases hs : u < 100
  · go_enter Tryz.func121, Tryz.ntmps121
    go_wp2_with (go_at_call 147; refine (Tryz.internal_strconv_small u hs _).mono ?_; rintro e w' ⟨rfl, rfl⟩)
    go_ret
    exact ⟨rfl, Below.refl _ _⟩
  · have hu1 : 1 ≤ u := by omega
    have hnd20 : Lib.nDigits u ≤ 20 := Lib.nDigits_le20 u hu64
    have hal : Tryz.prog.arrayLen 213 = 24 := by kernel_rfl
    have hsl : ∀ W, (Instr.sliceAt 213 (.pointer (some ⟨w.heap.size, 0, none⟩)) none (some (.int .i64 (Lib.nDigits u : Int))) none).run Tryz.prog W = .ok (.slice (some ⟨w.heap.size, 0, none⟩) (Lib.nDigits u) 24) W := fun W => by
      rw [run_sliceAt_array_h W 213 ⟨w.heap.size, 0, none⟩ (by simp [Program.arrayLen, Program.elem, Tryz.underlying213]) .i64 (Lib.nDigits u : Int) (by omega) (by rw [hal]; omega)]
      go_simp
    have hH0 := holds_zero0 w 213 (Lib.nDigits u) (by omega)
    have hfmt := Tryz.internal_strconv_formatBase10 w.heap.size 0 24 u (Array.replicate (Lib.nDigits u) 0) (w.alloc (.cells Lib.zeros24 213)) hH0 (by rw [Array.size_replicate]; exact Lib.lt_pow_nDigits u) hu64 (by rw [Array.size_replicate]; omega)
    rw [Array.size_replicate] at hfmt
    have HH0 := Lib.hid hH0
    have HF := Lib.hid hfmt
    clear hH0 hal hfmt
    go_enter Tryz.func121, Tryz.ntmps121
    go_wp2_with (first | (go_at_call 148; refine (Tryz.internal_strconv_numDigits u hu1 hu64 _ (Lib.tabIs_alloc ht _)).mono ?_; rintro e w' ⟨rfl, rfl⟩))
    go_at_call 149
    refine HF.out.mono ?_
    rintro e w' ⟨rfl, k, v', dk, rfl, hF⟩
    have hcv : (convert 114 9 (.slice (some ⟨w.heap.size, 0, none⟩) (Lib.nDigits u) 24)).run Tryz.prog ((putRow (fun (b : UInt8) => Value.int .u8 (b.toNat : Int)) (w.alloc (.cells Lib.zeros24 213)) w.heap.size 0 dk).drewN k) = .ok (.string ⟨(Lib.decDigits u).toArray⟩) ((putRow (fun (b : UInt8) => Value.int .u8 (b.toNat : Int)) (w.alloc (.cells Lib.zeros24 213)) w.heap.size 0 dk).drewN k) := by
      have h := run_convert_bytes_back (P := Tryz.prog) ((putRow (fun (b : UInt8) => Value.int .u8 (b.toNat : Int)) (w.alloc (.cells Lib.zeros24 213)) w.heap.size 0 dk).drewN k) 114 9 5 ⟨w.heap.size, 0, none⟩ 24 (Lib.decDigits u) Tryz.underlying114 Tryz.underlying5 Tryz.underlying9 (fun j hj => by
        rw [Lib.row_is_numeral hF j hj, Lib.add_plain, World.cell?_drewN]
        exact cell?_putRow (fun (b : UInt8) => Value.int .u8 (b.toNat : Int)) _ w.heap.size 0 _ dk HH0.out (by rw [hF.size, Array.size_replicate]) j (by rw [hF.size]; rw [Lib.decDigits_length] at hj; exact hj))
      rw [Lib.decDigits_length] at h
      exact h
    have HB := Lib.hid (below_put0 w (.cells Lib.zeros24 213) dk k)
    go_wp2
    go_ret
    exact ⟨rfl, HB.out⟩

theorem FormatUint10 (u : Nat) (hu64 : u < 18446744073709551616) (w : World) (ht : TabT w) :
    Calls Tryz.prog 76 #[.int .u64 u, .int .i64 10] w fun e w' => e = .returned (.string (udecS u)) ∧ Below w.heap.size w w' := by
  have HF := Lib.hid (FmtU10 u hu64 w ht)
  go_enter Tryz.func76, Tryz.ntmps76
  go_wp2_with (go_at_call 121; refine HF.out.mono ?_; rintro e w' ⟨rfl, hb⟩)
  go_ret
  exact ⟨rfl, hb⟩

end Go.Proofs.YtalkllfgedacoaaGreatDoor

namespace Go.Proofs.YtalkllfgedacoaaGreatDoor
open Go.RowKit Go.Sort

/-- The words of a text, between bytes c. -/
def wordsC (c : UInt8) (s : ByteArray) : List ByteArray := Lib.splitB ⟨#[c]⟩ 0 (Lib.countB s ⟨#[c]⟩) s
theorem piece_le (sep : ByteArray) : ∀ (k : Nat) (s : ByteArray), ∀ x ∈ Lib.splitB sep 0 k s, x.size ≤ s.size
  | 0, s, x, hx => by
    rw [Lib.splitB_zero, List.mem_singleton] at hx
    rw [hx]; exact Nat.le_refl _
  | k + 1, s, x, hx => by
    unfold Lib.splitB at hx
    split at hx
    · rw [List.mem_singleton] at hx
      rw [hx]; exact Nat.le_refl _
    · rw [List.mem_cons] at hx
      rcases hx with rfl | hx
      · rw [ByteArray.size_extract]; omega
      · have := piece_le sep k _ x hx
        rw [ByteArray.size_extract] at this
        omega
theorem wordsC_len (c : UInt8) (s : ByteArray) : (wordsC c s).length = Lib.countB s ⟨#[c]⟩ + 1 := Lib.splitB_all ⟨#[c]⟩ (Nat.le_refl 1) 0 _ s rfl
theorem wordsC_le (c : UInt8) (s : ByteArray) : (wordsC c s).length ≤ s.size + 1 := by
  rw [wordsC_len]
  exact Nat.succ_le_succ (Lib.countB_le ⟨#[c]⟩ (Nat.le_refl 1) s.size s (Nat.le_refl _))
theorem wordsC_size (c : UInt8) (s : ByteArray) : ∀ x ∈ wordsC c s, x.size ≤ s.size := piece_le _ _ _
theorem wordsC_join (c : UInt8) (x : List UInt8) (r : List (List UInt8)) (h : ∀ y ∈ x :: r, c ∉ y) : wordsC c ⟨(x ++ Lib.joinTail [c] r).toArray⟩ = (x :: r).map (fun y => ⟨y.toArray⟩) := by
  obtain ⟨h1, h2⟩ := split_join c r x h
  unfold wordsC
  rw [h1, h2]

theorem join_flat (c : UInt8) : ∀ (ps : List (List UInt8)) (last : List UInt8), (ps.map (· ++ [c])).flatten ++ last = Lib.join (ps ++ [last]) [c]
  | [], last => by rw [List.map_nil, List.flatten_nil, List.nil_append, List.nil_append, Lib.join_one]
  | p :: ps, last => by
    rw [List.map_cons, List.flatten_cons, List.append_assoc, join_flat c ps last]
    cases h : ps ++ [last] with
    | nil => simp at h
    | cons y r =>
      rw [List.cons_append, h, Lib.join_cons, Lib.join_cons]
      simp [Lib.joinTail]

theorem ext_list (s : ByteArray) (a b : Nat) : (s.extract a b).data.toList = (s.data.toList.take b).drop a := by
  rw [ByteArray.data_extract, Array.toList_extract, List.extract_eq_take_drop, List.drop_take]

theorem sp_inv (s : ByteArray) (c : UInt8) : ∀ k, k ≤ s.size → (splitTo s c k).2 ≤ k ∧ ((splitTo s c k).1.map (fun p => p.data.toList ++ [c])).flatten = s.data.toList.take (splitTo s c k).2 ∧
    (∀ p ∈ (splitTo s c k).1, c ∉ p.data.toList) ∧ c ∉ (s.data.toList.take k).drop (splitTo s c k).2
  | 0, _ => by simp [splitTo]
  | k + 1, hk => by
    obtain ⟨h1, h2, h3, h4⟩ := sp_inv s c k (by omega)
    have hL : k < s.data.toList.length := by rw [Array.length_toList]; exact hk
    have hg : s.data.toList.getD k 0 = s.data.toList[k] := by rw [List.getD, List.getElem?_eq_getElem hL]; rfl
    rw [splitTo]
    split
    · rename_i hc
      rw [hg] at hc
      refine ⟨Nat.le_refl _, ?_, ?_, ?_⟩
      · rw [List.map_append, List.flatten_append, h2, List.map_singleton, List.flatten_singleton, ext_list, ← List.append_assoc]
        have e : s.data.toList.take (splitTo s c k).2 ++ (s.data.toList.take k).drop (splitTo s c k).2 = s.data.toList.take k := by
          have := List.take_append_drop (splitTo s c k).2 (s.data.toList.take k)
          rwa [List.take_take, Nat.min_eq_left h1] at this
        rw [e, List.take_succ_eq_append_getElem hL, hc]
      · intro p hp
        rw [List.mem_append, List.mem_singleton] at hp
        rcases hp with hp | rfl
        · exact h3 p hp
        · rw [ext_list]; exact h4
      · rw [List.drop_eq_nil_of_le (by rw [List.length_take]; exact Nat.min_le_left _ _)]
        exact List.not_mem_nil
    · rename_i hc
      rw [hg] at hc
      refine ⟨by omega, h2, h3, ?_⟩
      rw [List.take_succ_eq_append_getElem hL, List.drop_append_of_le_length (by rw [List.length_take]; omega), List.mem_append, List.mem_singleton]
      rintro (h | h)
      · exact h4 h
      · exact hc h.symm

theorem splitB_eq (s : ByteArray) (c : UInt8) : splitB s c = wordsC c s := by
  obtain ⟨h1, h2, h3, h4⟩ := sp_inv s c s.size (Nat.le_refl _)
  have hll : s.data.toList.length = s.size := by rw [Array.length_toList]; rfl
  have hlast : (s.extract (splitTo s c s.size).2 s.size).data.toList = s.data.toList.drop (splitTo s c s.size).2 := by
    rw [ext_list, ← hll, List.take_length]
  rw [← hll, List.take_length, hll] at h4
  have hs : s.data.toList = Lib.join ((splitTo s c s.size).1.map (fun p => p.data.toList) ++ [s.data.toList.drop (splitTo s c s.size).2]) [c] := by
    rw [← join_flat, List.map_map]
    have e : ((splitTo s c s.size).1.map ((fun x : List UInt8 => x ++ [c]) ∘ fun p => p.data.toList)) = (splitTo s c s.size).1.map (fun p => p.data.toList ++ [c]) := rfl
    rw [e, h2, List.take_append_drop]
  have hsp : splitB s c = ((splitTo s c s.size).1.map (fun p => p.data.toList) ++ [s.data.toList.drop (splitTo s c s.size).2]).map (fun y => (⟨y.toArray⟩ : ByteArray)) := by
    have e1 : ((splitTo s c s.size).1.map (fun p => p.data.toList)).map (fun y => (⟨y.toArray⟩ : ByteArray)) = (splitTo s c s.size).1 := by
      rw [List.map_map]
      simp [Function.comp_def]
    unfold splitB
    rw [List.map_append, e1, List.map_singleton, ← hlast, bytes_ext]
  have hfree : ∀ y ∈ (splitTo s c s.size).1.map (fun p => p.data.toList) ++ [s.data.toList.drop (splitTo s c s.size).2], c ∉ y := by
    intro y hy
    rw [List.mem_append, List.mem_map, List.mem_singleton] at hy
    rcases hy with ⟨p, hp, rfl⟩ | rfl
    · exact h3 p hp
    · exact h4
  rw [hsp]
  generalize (splitTo s c s.size).1.map (fun p => p.data.toList) ++ [s.data.toList.drop (splitTo s c s.size).2] = P at *
  cases P with
  | nil => simp [Lib.join_nil] at hs; unfold splitB at hsp; simp at hsp
  | cons x r =>
    rw [Lib.join_cons] at hs
    have e : s = ⟨(x ++ Lib.joinTail [c] r).toArray⟩ := by
      rw [← hs]
    rw [e]
    exact (wordsC_join c x r hfree).symm

/-! Numbers. -/
def pu64 (s : ByteArray) : Option Nat := match Lib.parseUintB 64 s.data.toList with
  | .ok u => some u
  | _ => none
/-- The number up to a greatest one that is spelled so, and no other way. -/
def numQ (most : Nat) (s : ByteArray) : Option Nat := match pu64 s with
  | some u => if u ≤ most ∧ udecS u = s then some u else none
  | none => none

theorem pu_digit' (M v k : Nat) (hk : k < 10) (hv : v * 10 + k ≤ M) (hM : v * 10 + k ≤ 4294967295) : Lib.parseUintM M v [UInt8.ofNat (48 + k)] = .ok (v * 10 + k) := by
  have e : (UInt8.ofNat (48 + k)).toNat = 48 + k := by simp; omega
  rw [Lib.parseUintM, e, if_pos (by omega), if_neg (by omega), if_neg (by omega), Lib.parseUintM]
  congr 1
  omega
theorem pu_dec' (M : Nat) : ∀ (n : Nat), n ≤ 4294967295 → n ≤ M → Lib.parseUintM M 0 (Lib.decDigits n) = .ok n := by
  intro n
  induction n using Nat.strongRecOn with
  | _ n ih =>
    intro hn h
    rw [Lib.decDigits]
    split
    · rename_i hn'
      rw [pu_digit' M 0 n hn' (by omega) (by omega)]
      congr 1
      omega
    · rename_i hn'
      have := ih (n / 10) (by omega) (by omega) (by omega)
      rw [pu_append M _ 0 _ _ this, pu_digit' M (n / 10) (n % 10) (by omega) (by omega) (by omega)]
      congr 1
      omega
theorem pu64_dec (n : Nat) (h : n ≤ 4294967295) : pu64 (udecS n) = some n := by
  unfold pu64 udecS
  rw [bytes_l]
  unfold Lib.parseUintB
  rw [if_neg (dec_ne n), pu_dec' _ n h (by omega)]
theorem numQ_iff {most : Nat} (hm : most ≤ 4294967295) (s : ByteArray) (n : Nat) : numQ most s = some n ↔ n ≤ most ∧ s = udecS n := by
  unfold numQ
  constructor
  · intro h
    split at h
    · split at h
      · rename_i h1
        injection h with h
        subst h
        exact ⟨h1.1, h1.2.symm⟩
      · cases h
    · cases h
  · rintro ⟨h1, rfl⟩
    rw [pu64_dec n (by omega)]
    simp only
    rw [if_pos ⟨h1, trivial⟩]

/-- The document's way: digit by digit. -/
def runR (most : Nat) : List UInt8 → Nat → Option Nat
  | [], n => some n
  | b :: r, n => if 48 ≤ b.toNat ∧ b.toNat ≤ 57 ∧ n ≤ (most - (b.toNat - 48)) / 10 then runR most r (10 * n + (b.toNat - 48)) else none
def numR (most : Nat) (s : ByteArray) : Option Nat :=
  if s.size = 0 ∨ 19 < s.size ∨ (1 < s.size ∧ s.data.toList.getD 0 0 = 48) then none else match runR most s.data.toList 0 with
  | none => none
  | some n => if n ≤ most then some n else none

theorem dec_snoc {n d : Nat} (hn : 1 ≤ n) (hd : d < 10) : Lib.decDigits (10 * n + d) = Lib.decDigits n ++ [UInt8.ofNat (48 + d)] := by
  rw [Lib.decDigits, dif_neg (by omega), show (10 * n + d) / 10 = n by omega, show (10 * n + d) % 10 = d by omega]
theorem dec_small {d : Nat} (hd : d < 10) : Lib.decDigits d = [UInt8.ofNat (48 + d)] := by rw [Lib.decDigits, dif_pos hd]
theorem digit_back {b : UInt8} (h1 : 48 ≤ b.toNat) : UInt8.ofNat (48 + (b.toNat - 48)) = b := by
  rw [show 48 + (b.toNat - 48) = b.toNat by omega]
  simp
theorem runR_spell (most : Nat) : ∀ (l : List UInt8) (a n : Nat), 1 ≤ a → runR most l a = some n → Lib.decDigits a ++ l = Lib.decDigits n
  | [], a, n, _, h => by
    rw [runR] at h
    injection h with h
    rw [h, List.append_nil]
  | b :: r, a, n, ha, h => by
    rw [runR] at h
    split at h
    · rename_i hb
      have ih := runR_spell most r _ n (by omega) h
      rw [dec_snoc ha (by omega), digit_back hb.1] at ih
      rw [← ih]
      simp
    · cases h
theorem runR_read (most : Nat) (r : List UInt8) : ∀ n, n ≤ most → runR most (Lib.decDigits n ++ r) 0 = runR most r n := by
  intro n
  induction n using Nat.strongRecOn generalizing r with
  | _ n ih =>
    intro hn
    by_cases h : n < 10
    · have e : (UInt8.ofNat (48 + n)).toNat = 48 + n := by simp; omega
      rw [dec_small h, List.singleton_append, runR, e, if_pos (by omega)]
      congr 1
      omega
    · have e : (UInt8.ofNat (48 + n % 10)).toNat = 48 + n % 10 := by simp; omega
      rw [Lib.decDigits, dif_neg h, List.append_assoc, ih (n / 10) (by omega) _ (by omega), List.singleton_append, runR, e, if_pos (by omega)]
      congr 1
      omega
theorem dec_head : ∀ n, 1 ≤ n → ∃ b r, Lib.decDigits n = b :: r ∧ b ≠ 48 := by
  intro n
  induction n using Nat.strongRecOn with
  | _ n ih =>
    intro hn
    by_cases h : n < 10
    · refine ⟨_, [], dec_small h, fun e => ?_⟩
      have := congrArg UInt8.toNat e
      have e : (UInt8.ofNat (48 + n)).toNat = 48 + n := by simp; omega
      rw [e] at this
      revert this
      show 48 + n = 48 → False
      omega
    · obtain ⟨b, r, h1, h2⟩ := ih (n / 10) (by omega) (by omega)
      rw [Lib.decDigits, dif_neg h, h1]
      exact ⟨b, _, rfl, h2⟩

theorem numR_eq {most : Nat} (h9 : 9 ≤ most) (hm : most ≤ 4294967295) (s : ByteArray) : numR most s = numQ most s := by
  have hiff : ∀ n, numR most s = some n ↔ n ≤ most ∧ s = udecS n := by
    intro n
    have hsz : s.size = s.data.toList.length := by rw [Array.length_toList]; rfl
    unfold numR
    rw [hsz]
    constructor
    · intro h
      split at h
      · cases h
      · rename_i hc
        have hn0 : ¬ s.data.toList.length = 0 := fun e => hc (.inl e)
        have hz : ¬ (1 < s.data.toList.length ∧ s.data.toList.getD 0 0 = 48) := fun e => hc (.inr (.inr e))
        split at h
        · cases h
        · rename_i m hrun
          split at h
          · rename_i hle
            injection h with h
            subst h
            refine ⟨hle, ?_⟩
            have hl : s.data.toList = Lib.decDigits m := by
              cases hL : s.data.toList with
              | nil => rw [hL] at hn0; exact absurd rfl hn0
              | cons b r =>
                rw [hL] at hrun hz
                rw [runR] at hrun
                split at hrun
                · rename_i hb
                  rw [Nat.mul_zero, Nat.zero_add] at hrun
                  cases r with
                  | nil =>
                    rw [runR] at hrun
                    injection hrun with hrun
                    rw [← hrun, dec_small (by omega), digit_back hb.1]
                  | cons b2 r2 =>
                    have hb48 : b ≠ 48 := fun e => hz ⟨by simp, by rw [e]; rfl⟩
                    have hd1 : 1 ≤ b.toNat - 48 := by
                      rcases Nat.lt_or_ge 48 b.toNat with h' | h'
                      · omega
                      · exfalso
                        apply hb48
                        have e : b.toNat = 48 := by omega
                        have := digit_back hb.1
                        rw [e] at this
                        exact this.symm
                    have := runR_spell most _ _ _ hd1 hrun
                    rw [dec_small (by omega), digit_back hb.1] at this
                    exact this
                · cases hrun
            unfold udecS
            rw [← hl]
          · cases h
    · rintro ⟨h1, rfl⟩
      have e : (udecS n).data.toList = Lib.decDigits n := by unfold udecS; simp
      rw [e]
      have hlen := dec_len 10 n (by omega) (by omega)
      have hne := dec_ne n
      have hrr := runR_read most [] n h1
      rw [List.append_nil, runR] at hrr
      rw [hrr, if_neg]
      · simp only
        rw [if_pos h1]
      · rintro (h | h | ⟨h, h'⟩)
        · exact hne (List.eq_nil_of_length_eq_zero h)
        · omega
        · rcases Nat.lt_or_ge n 10 with hn | hn
          · rw [dec_small hn] at h; simp at h
          · obtain ⟨b, r, h2, h3⟩ := dec_head n (by omega)
            rw [h2] at h'
            exact h3 h'
  cases h : numQ most s with
  | some n => exact (hiff n).2 ((numQ_iff hm s n).1 h)
  | none =>
    cases h' : numR most s with
    | none => rfl
    | some n =>
      have := (numQ_iff hm s n).2 ((hiff n).1 h')
      rw [h] at this
      cases this

theorem runR_append (most : Nat) : ∀ (a b : List UInt8) (n : Nat), runR most (a ++ b) n = (runR most a n).bind fun m => runR most b m
  | [], b, n => by rw [List.nil_append, runR]; rfl
  | c :: a, b, n => by
    rw [List.cons_append, runR, runR]
    split
    · exact runR_append most a b _
    · rfl
theorem runR_step {most : Nat} {L : List UInt8} {k n : Nat} (hk : k < L.length) (h : runR most (L.take k) 0 = some n) :
    runR most (L.take (k + 1)) 0 = if 48 ≤ (L.getD k 0).toNat ∧ (L.getD k 0).toNat ≤ 57 ∧ n ≤ (most - ((L.getD k 0).toNat - 48)) / 10 then some (10 * n + ((L.getD k 0).toNat - 48)) else none := by
  rw [List.take_succ_eq_append_getElem hk, runR_append, h, List.getD, List.getElem?_eq_getElem hk]
  show runR most [L[k]] n = _
  rw [runR]
  rfl
theorem runR_dead {most : Nat} {L : List UInt8} {k : Nat} (h : runR most (L.take k) 0 = none) : runR most L 0 = none := by
  rw [← List.take_append_drop k L, runR_append, h]
  rfl
theorem runR_le {most : Nat} (h9 : 9 ≤ most) : ∀ (l : List UInt8) (a n : Nat), a ≤ most → runR most l a = some n → n ≤ most
  | [], a, n, ha, h => by rw [runR] at h; injection h with h; omega
  | b :: r, a, n, ha, h => by
    rw [runR] at h
    split at h
    · exact runR_le h9 r _ n (by omega) h
    · cases h

/-- Words that are numbers. -/
def numsQ (most : Nat) : List ByteArray → Option (List Nat)
  | [] => some []
  | s :: r => match numQ most s with
    | none => none
    | some n => (numsQ most r).map (n :: ·)
theorem numsQ_append (most : Nat) : ∀ a b, numsQ most (a ++ b) = (numsQ most a).bind fun x => (numsQ most b).map (x ++ ·)
  | [], b => by simp [numsQ]
  | s :: a, b => by
    rw [List.cons_append, numsQ, numsQ, numsQ_append most a b]
    cases numQ most s with
    | none => rfl
    | some n => cases numsQ most a with
      | none => rfl
      | some x => cases numsQ most b <;> rfl
theorem numsQ_step {most : Nat} {l : List ByteArray} {k : Nat} (hk : k < l.length) {x : List Nat} (h : numsQ most (l.take k) = some x) :
    numsQ most (l.take (k + 1)) = (numQ most (l.getD k ⟨#[]⟩)).map (fun n => x ++ [n]) := by
  rw [List.take_succ_eq_append_getElem hk, numsQ_append, h, List.getD, List.getElem?_eq_getElem hk]
  show (numsQ most [l[k]]).map (x ++ ·) = (numQ most l[k]).map _
  rw [numsQ, numsQ]
  cases numQ most l[k] <;> rfl
theorem numsQ_dead {most : Nat} {l : List ByteArray} {k : Nat} (h : numsQ most (l.take k) = none) : numsQ most l = none := by
  rw [← List.take_append_drop k l, numsQ_append, h]
  rfl
theorem numsQ_len {most : Nat} : ∀ {l : List ByteArray} {x : List Nat}, numsQ most l = some x → x.length = l.length
  | [], x, h => by rw [numsQ] at h; injection h with h; subst h; rfl
  | s :: r, x, h => by
    rw [numsQ] at h
    cases hq : numQ most s with
    | none => rw [hq] at h; cases h
    | some n =>
      rw [hq] at h
      cases hr : numsQ most r with
      | none => rw [hr] at h; cases h
      | some y =>
        rw [hr] at h
        injection h with h
        subst h
        rw [List.length_cons, List.length_cons, numsQ_len hr]
theorem numQ_le {most : Nat} {s : ByteArray} {n : Nat} (h : numQ most s = some n) : n ≤ most := by
  unfold numQ at h
  split at h
  · split at h
    · rename_i h1; injection h with h; subst h; exact h1.1
    · cases h
  · cases h
theorem numsQ_le {most : Nat} : ∀ {l : List ByteArray} {x : List Nat}, numsQ most l = some x → ∀ n ∈ x, n ≤ most
  | [], x, h => by rw [numsQ] at h; injection h with h; subst h; simp
  | s :: r, x, h => by
    rw [numsQ] at h
    cases hq : numQ most s with
    | none => rw [hq] at h; cases h
    | some n =>
      rw [hq] at h
      cases hr : numsQ most r with
      | none => rw [hr] at h; cases h
      | some y =>
        rw [hr] at h
        injection h with h
        subst h
        intro m hm
        rw [List.mem_cons] at hm
        rcases hm with rfl | hm
        · exact numQ_le hq
        · exact numsQ_le hr m hm

end Go.Proofs.YtalkllfgedacoaaGreatDoor

namespace Go.Proofs.YtalkllfgedacoaaGreatDoor
open Go.RowKit Go.Sort

def w_sendS : ByteArray := ⟨#[115, 101, 110, 100]⟩
def w_recvS : ByteArray := ⟨#[114, 101, 99, 118]⟩
def w_defS : ByteArray := ⟨#[100, 101, 102, 97, 117, 108, 116]⟩
def w_makeS : ByteArray := ⟨#[109, 97, 107, 101]⟩
def w_freeS : ByteArray := ⟨#[102, 114, 101, 101]⟩
def w_closeS : ByteArray := ⟨#[99, 108, 111, 115, 101]⟩
def w_lenS : ByteArray := ⟨#[108, 101, 110]⟩
def w_capS : ByteArray := ⟨#[99, 97, 112]⟩
def w_trysendS : ByteArray := ⟨#[116, 114, 121, 115, 101, 110, 100]⟩
def w_tryrecvS : ByteArray := ⟨#[116, 114, 121, 114, 101, 99, 118]⟩
def w_cancelS : ByteArray := ⟨#[99, 97, 110, 99, 101, 108]⟩
def w_putS : ByteArray := ⟨#[112, 117, 116]⟩
def w_takeS : ByteArray := ⟨#[116, 97, 107, 101]⟩

/-- A call, plain. -/
structure Rq where
  (kind arg value : Int)
  (dflt : Bool)
  (cs : List Cse)
deriving DecidableEq
/-- A case, out of its word. -/
def caseN (h : ByteArray) (n : List Nat) : Option Cse :=
  if n.length = 0 ∨ 65535 < n.getD 0 0 then none
  else if h = w_sendS ∧ n.length = 2 then some ⟨1, n.getD 0 0, n.getD 1 0⟩
  else if h = w_recvS ∧ n.length = 1 then some ⟨2, n.getD 0 0, 0⟩
  else none
def caseQ (s : ByteArray) : Option Cse := match numsQ 4294967295 (wordsC 58 s).tail with
  | none => none
  | some n => caseN ((wordsC 58 s).getD 0 ⟨#[]⟩) n
def casesQ : List ByteArray → Option (List Cse)
  | [] => some []
  | s :: r => match caseQ s with
    | none => none
    | some k => (casesQ r).map (k :: ·)
theorem casesQ_append : ∀ a b, casesQ (a ++ b) = (casesQ a).bind fun x => (casesQ b).map (x ++ ·)
  | [], b => by simp [casesQ]
  | s :: a, b => by
    rw [List.cons_append, casesQ, casesQ, casesQ_append a b]
    cases caseQ s with
    | none => rfl
    | some n => cases casesQ a with
      | none => rfl
      | some x => cases casesQ b <;> rfl
theorem casesQ_step {l : List ByteArray} {k : Nat} (hk : k < l.length) {x : List Cse} (h : casesQ (l.take k) = some x) :
    casesQ (l.take (k + 1)) = (caseQ (l.getD k ⟨#[]⟩)).map (fun n => x ++ [n]) := by
  rw [List.take_succ_eq_append_getElem hk, casesQ_append, h, List.getD, List.getElem?_eq_getElem hk]
  show (casesQ [l[k]]).map (x ++ ·) = (caseQ l[k]).map _
  rw [casesQ, casesQ]
  cases caseQ l[k] <;> rfl
theorem casesQ_dead {l : List ByteArray} {k : Nat} (h : casesQ (l.take k) = none) : casesQ l = none := by
  rw [← List.take_append_drop k l, casesQ_append, h]
  rfl
theorem casesQ_len : ∀ {l : List ByteArray} {x : List Cse}, casesQ l = some x → x.length = l.length
  | [], x, h => by rw [casesQ] at h; injection h with h; subst h; rfl
  | s :: r, x, h => by
    rw [casesQ] at h
    cases hq : caseQ s with
    | none => rw [hq] at h; cases h
    | some n =>
      rw [hq] at h
      cases hr : casesQ r with
      | none => rw [hr] at h; cases h
      | some y =>
        rw [hr] at h
        injection h with h
        subst h
        rw [List.length_cons, List.length_cons, casesQ_len hr]
/-- Is a default said? -/
def dfltQ (l : List ByteArray) : Bool := decide (0 < l.length ∧ l.getD 0 ⟨#[]⟩ = w_defS)
def restQ (l : List ByteArray) : List ByteArray := if dfltQ l = true then l.tail else l
def selN (d : Bool) (o : Option (List Cse)) : Option Rq := match o with
  | none => none
  | some cs => if 1 ≤ cs.length ∧ cs.length ≤ 3 then some ⟨3, 0, 0, d, cs⟩ else none
/-- A select, out of its words. -/
def selQ (l : List ByteArray) : Option Rq := selN (dfltQ l) (casesQ (restQ l))

/-- What a name and so many numbers say. -/
def tabQ (w : ByteArray) (m : Nat) (a b : Int) : Option Rq :=
  if w = w_makeS then (if m = 1 then some ⟨1, a, 0, false, []⟩ else none)
  else if w = w_freeS then (if m = 1 then some ⟨2, a, 0, false, []⟩ else none)
  else if w = w_closeS then (if m = 1 then some ⟨4, a, 0, false, []⟩ else none)
  else if w = w_lenS then (if m = 1 then some ⟨5, a, 0, false, []⟩ else none)
  else if w = w_capS then (if m = 1 then some ⟨6, a, 0, false, []⟩ else none)
  else if w = w_sendS then (if m = 2 then some ⟨3, 0, 0, false, [⟨1, a, b⟩]⟩ else none)
  else if w = w_recvS then (if m = 1 then some ⟨3, 0, 0, false, [⟨2, a, 0⟩]⟩ else none)
  else if w = w_trysendS then (if m = 2 then some ⟨3, 0, 0, true, [⟨1, a, b⟩]⟩ else none)
  else if w = w_tryrecvS then (if m = 1 then some ⟨3, 0, 0, true, [⟨2, a, 0⟩]⟩ else none)
  else if w = w_cancelS then (if m = 2 then some ⟨7, a, b, false, []⟩ else none)
  else if w = w_putS then (if m = 1 then some ⟨8, 0, a, false, []⟩ else none)
  else if w = w_takeS then (if m = 0 then some ⟨9, 0, 0, false, []⟩ else none)
  else none
def wordN (w : ByteArray) (n : List Nat) : Option Rq := if 2 < n.length ∨ (0 < n.length ∧ 65535 < n.getD 0 0 ∧ w ≠ w_putS) then none else tabQ w n.length (n.getD 0 0 : Nat) (n.getD 1 0 : Nat)
/-- A call, out of its words. -/
def callQ (l : List ByteArray) : Option Rq :=
  if l.length = 0 then none
  else if l.getD 0 ⟨#[]⟩ = selS then selQ l.tail
  else match numsQ 4294967295 l.tail with
    | none => none
    | some n => wordN (l.getD 0 ⟨#[]⟩) n

/-! A call's words. -/
def kaseS (k : Cse) : ByteArray := if k.dir = 1 then w_sendS ++ ⟨#[58]⟩ ++ itoaS k.handle ++ ⟨#[58]⟩ ++ itoaS k.value else w_recvS ++ ⟨#[58]⟩ ++ itoaS k.handle
def argsS (q : Reqr) (cs : List Cse) : List ByteArray :=
  if q.kind = 3 then
    (if nameS q cs = selS then (if q.dflt = true then [w_defS] else []) ++ cs.map kaseS
     else if (cs.getD 0 Cse.none).dir = 1 then [itoaS (cs.getD 0 Cse.none).handle, itoaS (cs.getD 0 Cse.none).value] else [itoaS (cs.getD 0 Cse.none).handle])
  else if q.kind = 7 then [itoaS q.arg, itoaS q.value]
  else if q.kind = 8 then [itoaS q.value]
  else if q.kind = 9 then []
  else [itoaS q.arg]
def sayS (q : Reqr) (cs : List Cse) : ByteArray := ⟨((nameS q cs).data.toList ++ Lib.joinTail [32] ((argsS q cs).map (·.data.toList))).toArray⟩
def sameQ (q : Reqr) (cs : List Cse) (r : Rq) : Bool := r.kind == q.kind && r.arg == q.arg && r.value == q.value && r.dflt == q.dflt && r.cs == cs
/-- A call's words, if just that call is read from them. -/
def callS (q : Reqr) (cs : List Cse) : ByteArray := if nameS q cs = ⟨#[]⟩ then ⟨#[]⟩ else match callQ (wordsC 32 (sayS q cs)) with
  | none => ⟨#[]⟩
  | some r => if sameQ q cs r = true then sayS q cs else ⟨#[]⟩

end Go.Proofs.YtalkllfgedacoaaGreatDoor

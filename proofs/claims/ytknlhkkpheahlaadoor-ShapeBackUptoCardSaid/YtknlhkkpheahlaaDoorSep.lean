/- Plain: texts that are put together of words, and parted again; numbers that are spelled, and read again. -/
import Derived.Test.YtknlhkkpheahlaaDoorBase
import Derived.Lib.Split
import Derived.Lib.Join
import Derived.Lib.ItoaNum
import Derived.Lib.ItoaMem
import Derived.Lib.ParseIntB
import Derived.Lib.IndexLaws
import Derived.Lib.IndexBytes
namespace Go.Proofs.YtknlhkkpheahlaaDoor
open Go.RowKit Go.Sort

theorem isPre1 (c b : UInt8) (l : List UInt8) : [c].isPrefixOf (b :: l) = (c == b) := by simp [List.isPrefixOf]
theorem index_one_none (c : UInt8) : ∀ (x : List UInt8), c ∉ x → Lib.index x [c] = -1
  | [], _ => rfl
  | b :: l, h => by
    rw [List.mem_cons] at h
    have hb : (c == b) = false := by rw [beq_eq_false_iff_ne]; exact fun e => h (.inl e)
    have ih := index_one_none c l (fun e => h (.inr e))
    rw [Lib.index, isPre1, hb, ih]
    rfl
theorem index_one_at (c : UInt8) (r : List UInt8) : ∀ (x : List UInt8), c ∉ x → Lib.index (x ++ c :: r) [c] = (x.length : Int)
  | [], _ => by rw [List.nil_append, Lib.index, isPre1]; simp
  | b :: l, h => by
    rw [List.mem_cons] at h
    have hb : (c == b) = false := by rw [beq_eq_false_iff_ne]; exact fun e => h (.inl e)
    have ih := index_one_at c r l (fun e => h (.inr e))
    rw [List.cons_append, Lib.index, isPre1, hb, ih]
    have : ((l.length : Int) == -1) = false := by rw [beq_eq_false_iff_ne]; omega
    simp [this]

theorem cut_at (c : UInt8) (x r : List UInt8) (h : c ∉ x) : Lib.cut (x ++ c :: r) [c] = (x, r, true) := by
  unfold Lib.cut
  rw [index_one_at c r x h, if_pos (by omega)]
  simp

theorem bytes_l (l : List UInt8) : (⟨l.toArray⟩ : ByteArray).data.toList = l := by simp
theorem bytes_ext (s : ByteArray) : (⟨s.data.toList.toArray⟩ : ByteArray) = s := by simp
theorem extract_drop (l : List UInt8) (a : Nat) : ((⟨l.toArray⟩ : ByteArray).extract a l.length) = ⟨(l.drop a).toArray⟩ := by
  apply ByteArray.ext
  simp [ByteArray.data_extract, List.take_of_length_le]
theorem extract_take (l : List UInt8) (a : Nat) : ((⟨l.toArray⟩ : ByteArray).extract 0 a) = ⟨(l.take a).toArray⟩ := by
  apply ByteArray.ext
  simp [ByteArray.data_extract]

/-- A row of words that hold no blank (of byte c), put together by blanks, is parted into the words. -/
theorem split_join (c : UInt8) : ∀ (r : List (List UInt8)) (x : List UInt8), (∀ y ∈ x :: r, c ∉ y) →
    Lib.countB ⟨(x ++ Lib.joinTail [c] r).toArray⟩ ⟨#[c]⟩ = r.length ∧ Lib.splitB ⟨#[c]⟩ 0 r.length ⟨(x ++ Lib.joinTail [c] r).toArray⟩ = (x :: r).map (fun y => ⟨y.toArray⟩)
  | [], x, h => by
    have hi : Lib.indexB ⟨(x ++ Lib.joinTail [c] []).toArray⟩ ⟨#[c]⟩ = -1 := by
      have := index_one_none c x (h x (List.mem_cons_self ..))
      simpa [Lib.indexB, Lib.joinTail] using this
    refine ⟨Lib.countB_miss _ _ hi, ?_⟩
    rw [List.length_nil, Lib.splitB_zero]
    simp [Lib.joinTail]
  | y :: r, x, h => by
    obtain ⟨ih1, ih2⟩ := split_join c r y (fun z hz => h z (List.mem_cons_of_mem _ hz))
    have e0 : x ++ Lib.joinTail [c] (y :: r) = x ++ c :: (y ++ Lib.joinTail [c] r) := by simp [Lib.joinTail]
    rw [e0]
    have hi : Lib.indexB ⟨(x ++ c :: (y ++ Lib.joinTail [c] r)).toArray⟩ ⟨#[c]⟩ = (x.length : Int) := by
      have := index_one_at c (y ++ Lib.joinTail [c] r) x (h x (List.mem_cons_self ..))
      simpa [Lib.indexB] using this
    have hd : (⟨(x ++ c :: (y ++ Lib.joinTail [c] r)).toArray⟩ : ByteArray).extract (x.length + (⟨#[c]⟩ : ByteArray).size) (⟨(x ++ c :: (y ++ Lib.joinTail [c] r)).toArray⟩ : ByteArray).size = ⟨(y ++ Lib.joinTail [c] r).toArray⟩ := by
      have hs : (⟨(x ++ c :: (y ++ Lib.joinTail [c] r)).toArray⟩ : ByteArray).size = (x ++ c :: (y ++ Lib.joinTail [c] r)).length := by simp [ByteArray.size]
      rw [hs, extract_drop]
      have h1 : (⟨#[c]⟩ : ByteArray).size = 1 := rfl
      rw [h1, show x ++ c :: (y ++ Lib.joinTail [c] r) = (x ++ [c]) ++ (y ++ Lib.joinTail [c] r) by simp, List.drop_left' (by simp)]
    have ht : (⟨(x ++ c :: (y ++ Lib.joinTail [c] r)).toArray⟩ : ByteArray).extract 0 (x.length + 0) = ⟨x.toArray⟩ := by
      rw [Nat.add_zero, extract_take, List.take_left' rfl]
    refine ⟨?_, ?_⟩
    · rw [Lib.countB_hit _ _ _ (show 1 ≤ (⟨#[c]⟩ : ByteArray).size from Nat.le_refl 1) hi, hd, ih1, List.length_cons]; omega
    · rw [List.length_cons, Lib.splitB_hit _ _ _ _ _ hi, hd, ht, ih2]; rfl

theorem pu_append (M : Nat) : ∀ (l : List UInt8) (acc : Nat) (d : UInt8) (v : Nat), Lib.parseUintM M acc l = .ok v → Lib.parseUintM M acc (l ++ [d]) = Lib.parseUintM M v [d]
  | [], acc, d, v, h => by
    rw [Lib.parseUintM] at h
    injection h with h
    rw [h, List.nil_append]
  | c :: r, acc, d, v, h => by
    rw [Lib.parseUintM] at h
    rw [List.cons_append, Lib.parseUintM]
    split at h
    · rename_i h1
      rw [if_pos h1]
      split at h
      · cases h
      · rename_i h2
        rw [if_neg h2]
        split at h
        · cases h
        · rename_i h3
          rw [if_neg h3]
          exact pu_append M r _ d v h
    · cases h

theorem pu_digit (M v k : Nat) (hk : k < 10) (hv : v * 10 + k ≤ M) (hM : M ≤ 4294967295) : Lib.parseUintM M v [UInt8.ofNat (48 + k)] = .ok (v * 10 + k) := by
  have e : (UInt8.ofNat (48 + k)).toNat = 48 + k := by simp; omega
  rw [Lib.parseUintM, e, if_pos (by omega), if_neg (by omega), if_neg (by omega), Lib.parseUintM]
  congr 1
  omega

theorem pu_dec (M : Nat) (hM : M ≤ 4294967295) : ∀ (n : Nat), n ≤ M → Lib.parseUintM M 0 (Lib.decDigits n) = .ok n := by
  intro n
  induction n using Nat.strongRecOn with
  | _ n ih =>
    intro h
    rw [Lib.decDigits]
    split
    · rename_i hn
      rw [pu_digit M 0 n hn (by omega) hM]
      congr 1
      omega
    · rename_i hn
      have := ih (n / 10) (by omega) (by omega)
      rw [pu_append M _ 0 _ _ this, pu_digit M (n / 10) (n % 10) (by omega) (by omega) hM]
      congr 1
      omega

theorem dec_ne (n : Nat) : Lib.decDigits n ≠ [] := by
  rw [Lib.decDigits]
  split <;> simp
theorem dec_digit : ∀ (n : Nat), ∀ d ∈ Lib.decDigits n, 48 ≤ d.toNat ∧ d.toNat ≤ 57 := by
  intro n
  induction n using Nat.strongRecOn with
  | _ n ih =>
    intro d hd
    rw [Lib.decDigits] at hd
    split at hd
    · rename_i hn
      rw [List.mem_singleton] at hd
      subst hd
      simp; omega
    · rename_i hn
      rw [List.mem_append, List.mem_singleton] at hd
      rcases hd with hd | rfl
      · exact ih (n / 10) (by omega) d hd
      · simp; omega
theorem pu32_dec (n : Nat) (h : n ≤ 4294967295) : Lib.parseUintB 32 (Lib.decDigits n) = .ok n := by
  unfold Lib.parseUintB
  rw [if_neg (dec_ne n)]
  exact pu_dec _ (by omega) n (by omega)

/-- How long a number's text is at the most. -/
theorem dec_len : ∀ (k n : Nat), 1 ≤ k → n < 10 ^ k → (Lib.decDigits n).length ≤ k := by
  intro k
  induction k with
  | zero => intro n h; omega
  | succ k ih =>
    intro n _ h
    rw [Lib.decDigits]
    split
    · simp
    · rename_i hn
      rw [List.length_append, List.length_singleton]
      rcases Nat.eq_zero_or_pos k with rfl | hk
      · omega
      · have := ih (n / 10) hk (by rw [Nat.pow_succ] at h; omega)
        omega

end Go.Proofs.YtknlhkkpheahlaaDoor

/- slices.SortStableFunc over numbers: a row that does not fall, with the same numbers. -/
import Derived.Test.YtmllbailfbjoeaaSort6
namespace Go.Proofs.Ytmllbailfbjoeaa
open Go.RowKit Go.Sort

/-- The first t0 pieces of bs places each do not fall. -/
def Pieces (lt : Int → Int → Bool) (bs t0 : Nat) (ys : List Int) : Prop := ∀ t, t < t0 → Rises lt (t * bs) (t * bs + bs) ys
/-- The pieces from a on, up to N. -/
def PiecesFrom (lt : Int → Int → Bool) (bs a N : Nat) (ys : List Int) : Prop := ∀ s, Rises lt (a + s * bs) (min (a + s * bs + bs) N) ys

theorem rises_none {lt : Int → Int → Bool} {a b : Nat} {ys : List Int} (h : b ≤ a + 1) : Rises lt a b ys := fun i j h1 h2 h3 => by omega

theorem mul_lt_step {t t0 bs : Nat} (h : t < t0) : t * bs + bs ≤ t0 * bs := by
  have := Nat.mul_le_mul_right bs (show t + 1 ≤ t0 by omega)
  rw [Nat.add_mul, Nat.one_mul] at this
  exact this

theorem pieces_add {lt : Int → Int → Bool} {bs t0 a b : Nat} {xs ys : List Int} (h : Pieces lt bs t0 xs) (ha : a = t0 * bs) (hb : b = a + bs) (hm : Mix a b xs ys) (hr : Rises lt a b ys) : Pieces lt bs (t0 + 1) ys := by
  intro t ht
  by_cases he : t = t0
  · subst he; rw [← ha, ← hb]; exact hr
  · have h1 := mul_lt_step (bs := bs) (show t < t0 by omega)
    exact (h t (by omega)).keep fun i i1 i2 => hm.out i (by omega)

theorem pieces_from {lt : Int → Int → Bool} {bs t0 a n : Nat} {xs ys : List Int} (h : Pieces lt bs t0 xs) (ha : a = t0 * bs) (hn : n ≤ a + bs) (hm : Mix a n xs ys) (hr : Rises lt a n ys) : PiecesFrom lt bs 0 n ys := by
  intro s
  rw [Nat.zero_add]
  rcases Nat.lt_trichotomy s t0 with hs | hs | hs
  · have h1 := mul_lt_step (bs := bs) hs
    intro i j i1 i2 i3
    exact ((h s hs).keep (ys := ys) fun i i1 i2 => hm.out i (by omega)) i j i1 i2 (by omega)
  · subst hs
    rw [← ha]
    intro i j i1 i2 i3
    exact hr i j i1 i2 (by omega)
  · have h1 := mul_lt_step (bs := bs) hs
    exact rises_none (by omega)

theorem from_step {lt : Int → Int → Bool} {bs a b n : Nat} {xs ys : List Int} (h : PiecesFrom lt bs a n xs) (hb : b = a + 2 * bs) (hm : Mix a b xs ys) : PiecesFrom lt bs b n ys := by
  intro s
  have e : b + s * bs = a + (s + 2) * bs := by rw [Nat.add_mul]; omega
  rw [e]
  exact (h (s + 2)).keep fun i i1 i2 => hm.out i (by rw [Nat.add_mul] at i1; omega)

theorem from_two {lt : Int → Int → Bool} {bs a n : Nat} {xs : List Int} (h : PiecesFrom lt bs a n xs) : Rises lt a (min (a + bs) n) xs ∧ Rises lt (a + bs) (min (a + bs + bs) n) xs := by
  have h0 := h 0
  have h1 := h 1
  rw [Nat.zero_mul, Nat.add_zero] at h0
  rw [Nat.one_mul] at h1
  exact ⟨h0, h1⟩

set_option maxHeartbeats 8000000 in
set_option maxRecDepth 100000 in
theorem stable_nat (base g n cp : Nat) (f : FuncId) (caps : Array Value) (c : Int → Int → Int) (ok : Int → Prop) (xs : List Int) (w : World) (hn : n ≤ 1048576) (hR : RowI base g n cp w xs)
    (hf : Enters f) (hl : Less (ltOf c)) (hC : Cmps g w f caps c ok) (hok : ∀ x ∈ xs, ok x) :
    Calls Try.prog 116 #[.slice (some ⟨g, 0, none⟩) n cp, .int .i64 n, .func (.func f) #[] caps] w (Sorted base g n cp 0 n (ltOf c) xs w) := by
  have HR := Lib.hid hR
  have HC := Lib.hid hC
  have HL := Lib.hid hl
  have HOK := Lib.hid hok
  have HF := Lib.hid hf
  have HSYM := Lib.hid (symMerge_any base g n cp f caps c ok hn hf hl n)
  clear hR hC hl hok hf
  go_enter Try.func116, Try.ntmps116
  go_wp2
  go_loopw [7, 8] (fun u v wr => ∃ (a b t : Nat) (ys : List Int), a ≤ n ∧ b ≤ a + 20 ∧ a + 20 ≤ b ∧ Hid (a = t * 20) ∧ u = .int .i64 a ∧ v = .int .i64 b ∧ RowI base g n cp wr ys ∧ Mix 0 n xs ys ∧ Pieces (ltOf c) 20 t ys ∧ Only g w wr) (fun u _ _ => n - (intOf u).toNat)
  case atStart => exact ⟨0, 20, 0, xs, by omega, by omega, by omega, rfl, rfl, rfl, HR.out, Mix.refl _ _ _, fun t ht => by omega, Only.refl _ _⟩
  case round =>
    obtain ⟨a, b, t, ys, han, hb1, hb2, hat, rfl, rfl, hr, hm, hp, ho⟩ := hrel
    have HRZ := Lib.hid hr
    have HMZ := Lib.hid hm
    have HPZ := Lib.hid hp
    have HOZ := Lib.hid ho
    clear hr hm hp ho
    by_cases hbn : b ≤ n
    · go_wp2_with fail
      refine (insertion_nat base g n cp a b f caps c ok ys _ hn (by omega) hbn HRZ.out HF.out HL.out (HC.out.later HOZ.out) (mem_of_mix HMZ.out HOK.out)).mono ?_
      rintro er w1 ⟨rfl, zs, hr1, hm1, hs1, ho1⟩
      have HR1 := Lib.hid hr1
      have HM1 := Lib.hid hm1
      have HS1 := Lib.hid hs1
      have HO1 := Lib.hid ho1
      clear hr1 hm1 hs1 ho1
      go_wp2
      refine ⟨⟨b, b + 20, t + 1, zs, hbn, by omega, by omega, ?_, rfl, by go_num, HR1.out, HMZ.out.trans (HM1.out.wide (by omega) hbn), pieces_add HPZ.out hat.out (by omega) HM1.out HS1.out, HOZ.out.trans HO1.out⟩, by simp [intOf]; omega⟩
      have := hat.out
      show b = (t + 1) * 20
      omega
    · go_wp2_with fail
      refine (insertion_nat base g n cp a n f caps c ok ys _ hn han (Nat.le_refl _) HRZ.out HF.out HL.out (HC.out.later HOZ.out) (mem_of_mix HMZ.out HOK.out)).mono ?_
      rintro er w1 ⟨rfl, zs, hr1, hm1, hs1, ho1⟩
      have HR1 := Lib.hid hr1
      have HM1 := Lib.hid (HMZ.out.trans (hm1.wide (by omega) (Nat.le_refl _)))
      have HP1 := Lib.hid (pieces_from HPZ.out hat.out (by omega) hm1 hs1)
      have HO1 := Lib.hid (HOZ.out.trans ho1)
      clear hr1 hm1 hs1 ho1 hat HRZ HMZ HPZ HOZ
      go_wp2
      go_loopw [6] (fun u wr => ∃ (bs : Nat) (ys : List Int), 20 ≤ bs ∧ bs ≤ 2097152 ∧ u = .int .i64 bs ∧ RowI base g n cp wr ys ∧ Mix 0 n xs ys ∧ PiecesFrom (ltOf c) bs 0 n ys ∧ Only g w wr) (fun u _ => n - (intOf u).toNat)
      case atStart => exact ⟨20, zs, by omega, by omega, rfl, HR1.out, HM1.out, HP1.out, HO1.out⟩
      case round =>
        obtain ⟨bs, ys, hs1, hs2, rfl, hr, hm, hp, ho⟩ := hrel
        have HRZ := Lib.hid hr
        have HMZ := Lib.hid hm
        have HPZ := Lib.hid hp
        have HOZ := Lib.hid ho
        clear hr hm hp ho HR1 HM1 HP1 HO1
        by_cases hbs : bs < n
        · go_wp2
          obtain ⟨wo, rfl⟩ : ∃ wo : World, wo = wr := ⟨_, rfl⟩
          go_loopw [7, 8] (fun u v wi => ∃ (a b t : Nat) (zs : List Int), a ≤ n ∧ b ≤ a + 2 * bs ∧ a + 2 * bs ≤ b ∧ Hid (a = t * (2 * bs)) ∧ u = .int .i64 a ∧ v = .int .i64 b ∧ RowI base g n cp wi zs ∧ Mix 0 n xs zs ∧ Pieces (ltOf c) (2 * bs) t zs ∧ PiecesFrom (ltOf c) bs a n zs ∧ Only g w wi) (fun u _ _ => n - (intOf u).toNat)
          case atStart => exact ⟨0, 2 * bs, 0, ys, by omega, by omega, by omega, show 0 = 0 * (2 * bs) by simp, rfl, by go_num, HRZ.out, HMZ.out, fun t ht => by omega, HPZ.out, HOZ.out⟩
          case round =>
            obtain ⟨a, b, t, zs, han, hb1, hb2, hat, rfl, rfl, hr, hm, hp, hq, ho⟩ := hrel
            have HR1 := Lib.hid hr
            have HM1 := Lib.hid hm
            have HP1 := Lib.hid hp
            have HQ1 := Lib.hid hq
            have HO1 := Lib.hid ho
            clear hr hm hp hq ho
            by_cases hbn : b ≤ n
            · have HTW := Lib.hid (from_two HQ1.out)
              have e1 : min (a + bs) n = a + bs := by omega
              have e2 : min (a + bs + bs) n = b := by omega
              rw [e1, e2] at HTW
              clear e1 e2
              go_wp2_with fail
              refine (HSYM.out a (a + bs) b _ _ _ zs _ (by omega) (by omega) (by omega) (by omega) (by omega) (by omega) hbn HR1.out (HC.out.later HO1.out) (mem_of_mix HM1.out HOK.out) HTW.out.1 HTW.out.2).mono ?_
              rintro er w2 ⟨rfl, vs, hr2, hm2, hs2', ho2⟩
              have HR2 := Lib.hid hr2
              have HM2 := Lib.hid hm2
              have HS2 := Lib.hid hs2'
              have HO2 := Lib.hid ho2
              clear hr2 hm2 hs2' ho2
              go_wp2
              refine ⟨⟨b, b + 2 * bs, t + 1, vs, hbn, by omega, by omega, ?_, rfl, by go_num, HR2.out, HM1.out.trans (HM2.out.wide (by omega) hbn), pieces_add HP1.out hat.out (by omega) HM2.out HS2.out, from_step HQ1.out (by omega) HM2.out, HO1.out.trans HO2.out⟩, by simp [intOf]; omega⟩
              have := hat.out
              show b = (t + 1) * (2 * bs)
              rw [Nat.add_mul, Nat.one_mul]
              omega
            · have HTW := Lib.hid (from_two HQ1.out)
              by_cases hmn : a + bs < n
              · have e1 : min (a + bs) n = a + bs := by omega
                have e2 : min (a + bs + bs) n = n := by omega
                rw [e1, e2] at HTW
                clear e1 e2
                have g1 : (a : Int) + (bs : Int) < (n : Int) := by omega
                go_wp2_with fail
                refine (HSYM.out a (a + bs) n _ _ _ zs _ (by omega) (by omega) (by omega) (by omega) (by omega) (by omega) (Nat.le_refl _) HR1.out (HC.out.later HO1.out) (mem_of_mix HM1.out HOK.out) HTW.out.1 HTW.out.2).mono ?_
                rintro er w2 ⟨rfl, vs, hr2, hm2, hs2', ho2⟩
                have HR2 := Lib.hid hr2
                have HM2 := Lib.hid hm2
                have HS2 := Lib.hid hs2'
                have HO2 := Lib.hid ho2
                clear hr2 hm2 hs2' ho2
                go_wp2
                refine ⟨⟨2 * bs, vs, by omega, by omega, by go_num, HR2.out, HM1.out.trans (HM2.out.wide (by omega) (Nat.le_refl _)), pieces_from HP1.out hat.out (by omega) HM2.out HS2.out, HO1.out.trans HO2.out⟩, by simp [intOf]; omega⟩
              · have e1 : min (a + bs) n = n := by omega
                rw [e1] at HTW
                clear e1
                have g1 : ¬ ((a : Int) + (bs : Int) < (n : Int)) := by omega
                go_wp2
                refine ⟨⟨2 * bs, zs, by omega, by omega, by go_num, HR1.out, HM1.out, pieces_from HP1.out hat.out (by omega) (Mix.refl _ _ _) HTW.out.1, HO1.out⟩, by simp [intOf]; omega⟩
        · go_wp2
          go_end0
          refine ⟨rfl, ys, HRZ.out, HMZ.out, ?_, HOZ.out⟩
          have h := (from_two HPZ.out).1
          rw [Nat.zero_add, show min bs n = n by omega] at h
          exact h

set_option maxHeartbeats 1000000 in
theorem SortStable_any (base g n cp : Nat) (f : FuncId) (caps : Array Value) (c : Int → Int → Int) (ok : Int → Prop) (xs : List Int) (w : World) (hn : n ≤ 1048576) (hR : RowI base g n cp w xs)
    (hf : Enters f) (hl : Less (ltOf c)) (hC : Cmps g w f caps c ok) (hok : ∀ x ∈ xs, ok x) :
    Calls Try.prog 91 #[.slice (some ⟨g, 0, none⟩) n cp, .func (.func f) #[] caps] w (Sorted base g n cp 0 n (ltOf c) xs w) := by
  have HS := Lib.hid (stable_nat base g n cp f caps c ok xs w hn hR hf hl hC hok)
  clear hR hf hl hC hok
  go_enter Try.func91, Try.ntmps91
  go_wp2_with fail
  refine HS.out.mono ?_
  rintro er w1 ⟨rfl, h⟩
  go_wp2
  go_end0
  exact ⟨rfl, h⟩

end Go.Proofs.Ytmllbailfbjoeaa

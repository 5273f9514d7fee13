/- slices.DeleteFunc over a row of numbers that the caller owns. -/
import Derived.Test.YtmllbailfbjoeaaDelK
namespace Go.Proofs.Ytmllbailfbjoeaa
open Go.RowKit Go.Sort

theorem firstAt_V (p : Int → Bool) : ∀ (l : List Int) (k : Nat), firstAt p l k = firstV p l k
  | [], _ => rfl
  | x :: r, k => by simp [firstAt, firstV, firstAt_V p r (k + 1)]

theorem int_zero0 (w : World) : (zeroValue 3).run Try.prog w = .ok (.int .i64 0) w := by kernel_rfl

/-- What is left of a row of numbers that the caller owns. -/
def RetDelI (A : Option Addr) (c g : Nat) (l : List Int) (w : World) (e : Ending) (w' : World) : Prop :=
  e = .returned (.slice A l.length c) ∧ Rd w' A (ints l) ∧ Only g w w'
def RetDelBI (A : Option Addr) (c base : Nat) (l : List Int) (w : World) (e : Ending) (w' : World) : Prop :=
  e = .returned (.slice A l.length c) ∧ Rd w' A (ints l) ∧ Below base w w'

set_option maxHeartbeats 4000000 in
set_option maxRecDepth 100000 in
theorem DelI_any (g c base : Nat) (l : List Int) (f : FuncId) (caps : Array Value) (p : Int → Bool) (w : World) (hl : l.length ≤ 1048576)
    (hown : w.ownsRow base 3 1 (.slice (some ⟨g, 0, none⟩) l.length c) l.length (ints l)) (hf : Enters f) (hp : AsksO (Value.int .i64) w g f caps p l) :
    Calls Try.prog 85 #[.slice (some ⟨g, 0, none⟩) l.length c, .func (.func f) #[] caps] w (RetDelI (some ⟨g, 0, none⟩) c g (l.filter fun x => !p x) w) := by
  have HO := Lib.hid hown
  have HP := Lib.hid hp
  have HI := Lib.hid (IndexFunc_any (some ⟨g, 0, none⟩) c l f caps p w (by unfold maxLen; omega) (own_rd hown) hf hp.toV)
  have hnc := own_le hown
  rw [firstAt_V] at HI
  have HFS := Lib.hid (firstV_spec (p := p) 0 l 0)
  clear hown hp
  generalize hn : l.length = n at *
  have HN := Lib.hid hn
  clear hn
  go_enter Try.func85, Try.ntmps85
  go_wp2_with fail
  refine HI.out.mono ?_
  rintro e w1 ⟨rfl, hb1⟩
  have hO1 : Only g w w1 := .of_below hb1
  have HW1 := Lib.hid (own_below HO.out hb1)
  have HO1 := Lib.hid hO1
  clear hb1 hO1
  rcases HFS.out with ⟨h1, h2⟩ | ⟨j0, h1, h2, h3, h4⟩
  · rw [h1]
    have H2 := Lib.hid h2
    clear h1 h2
    go_wp2
    go_ret
    rw [H2.out]
    exact ⟨ret_slice HN.out.symm, own_rd HW1.out, HO1.out⟩
  · rw [h2, Nat.zero_add]
    have hne : ((j0 : Int) == -1) = false := by simp
    have H34 := Lib.hid (And.intro h3 h4)
    clear h2 h3 h4
    go_wp2
    go_loopg [5, 6] (n - (j0 + 1)) (fun q i j wr => ∃ k : Nat, j0 < k ∧ k ≤ n ∧ q = n - k ∧ j = .int .i64 k ∧ i = .int .i64 ((((l.take k).filter (fun x => !p x)).length : Nat) : Int) ∧ Only g w wr ∧ wr.ownsRow base 3 1 (.slice (some ⟨g, 0, none⟩) n c) n (ints (keptRow p l k)))
    case atStart =>
      have hj : j0 < l.length := by rw [HN.out]; exact h1
      have e1 : ((l.take (j0 + 1)).filter (fun x => !p x)) = l.take j0 := by
        rw [take_succ_getD l 0 j0 hj, List.filter_append, H34.out.2]
        simp only [List.filter_cons, H34.out.1, Bool.not_true, Bool.false_eq_true, if_false, List.filter_nil, List.append_nil]
      refine ⟨j0 + 1, by omega, by omega, rfl, by go_num, ?_, HO1.out, ?_⟩
      · rw [e1, List.length_take, Nat.min_eq_left (by omega)]
      · have e2 : keptRow p l (j0 + 1) = l := by
          unfold keptRow
          rw [e1, List.length_take, Nat.min_eq_left (by omega), List.take_append_drop]
        rw [e2]
        exact HW1.out
    case round =>
      obtain ⟨k, hk0, hk, hq, rfl, rfl, hOr, hWr⟩ := hrel
      have HOR := Lib.hid hOr
      have HWR := Lib.hid hWr
      have HQ := Lib.hid hq
      have hkl := kept_len p l k
      clear hOr hWr hq
      by_cases hlt : k < n
      · have hkn : k < l.length := by rw [HN.out]; exact hlt
        have hgl : g < wr.heap.size := by
          obtain ⟨g', hg', _, hlt'⟩ := own_some HWR.out (by omega)
          injection hg' with hg'
          injection hg' with hg'
          subst hg'
          exact hlt'
        obtain ⟨_, _, he, _, hc⟩ := (own_rd HWR.out).at_ (by rw [ints_length, kept_length p l k (by omega)]; omega)
        simp only [Option.some.injEq, Addr.mk.injEq, and_true] at he
        obtain ⟨rfl, rfl⟩ := he
        generalize hx : l.getD k 0 = x
        have hmem : x ∈ l := by rw [← hx]; simp [List.getD, hkn]
        have c0 := hc k _ (ints_at (by rw [kept_length p l k (by omega)]; exact hkn))
        rw [kept_getD p l 0 k k (Nat.le_refl _), hx] at c0
        simp only [Nat.zero_add] at c0
        have HX := Lib.hid hx
        have HM := Lib.hid hmem
        clear hc hx hmem
        generalize hi : ((l.take k).filter (fun x => !p x)).length = i at *
        have HI2 := Lib.hid hi
        clear hi
        have hrun := hf (#[.int .i64 x] ++ caps) wr
        have HBX := HOR
        have HCALL := Lib.hid (HP.out x HM.out _ HBX.out)
        have q1 : (0 : Int) ≤ (k : Int) := by omega
        have q2 : (k : Int) < (n : Int) := by omega
        by_cases hpx : p x = true
        · rw [hpx] at HCALL
          go_wp2_with (first | (refine HCALL.out.mono ?_; rintro e w2 ⟨rfl, hb2⟩))
          go_roundg (n - (k + 1))
          case measure => rw [HQ.out]; omega
          case rel =>
            refine ⟨k + 1, by omega, by omega, rfl, by go_num, ?_, HBX.out.trans (.of_below hb2), ?_⟩
            · have e := take_succ_getD l 0 k hkn
              rw [e, List.filter_append, HX.out]
              simp only [List.filter_cons, hpx, Bool.not_true, Bool.false_eq_true, if_false, List.filter_nil, List.append_nil]
              rw [HI2.out]
            · rw [kept_drop hkn (by rw [HX.out]; exact hpx)]
              exact own_below HWR.out hb2
        · simp only [Bool.not_eq_true] at hpx
          rw [hpx] at HCALL
          go_wp2_with fail
          refine HCALL.out.mono ?_
          rintro e w2 ⟨rfl, hb2⟩
          have hW2 := own_below HWR.out hb2
          have hO2 : Only g w w2 := HBX.out.trans (.of_below hb2)
          obtain ⟨_, _, he, _, hc⟩ := (own_rd hW2).at_ (by rw [ints_length, kept_length p l k (by omega)]; omega)
          simp only [Option.some.injEq, Addr.mk.injEq, and_true] at he
          obtain ⟨rfl, rfl⟩ := he
          have d0 := hc i _ (ints_at (by rw [kept_length p l k (by omega)]; omega))
          simp only [Nat.zero_add] at d0
          obtain ⟨_, hge, _, _, hfz, _⟩ := own_form hW2 (by omega)
          injection hge with hge
          injection hge with hge
          subst hge
          have f0 := hfz i
          have HW3 := Lib.hid (own_set hW2 (by omega) i (.int .i64 x) (by omega))
          rw [ints_set] at HW3
          have HO3 := Lib.hid (hO2.set_ i (.int .i64 x))
          have q3 : (0 : Int) ≤ (i : Int) := by omega
          have q4 : (i : Int) < (n : Int) := by omega
          generalize (keptRow p l k).getD i 0 = y at *
          clear hc hfz hb2 hW2 hO2
          go_wp2
          go_roundg (n - (k + 1))
          case measure => rw [HQ.out]; omega
          case rel =>
            have hst := kept_stay (p := p) (l := l) (d := 0) hkn (by rw [HX.out]; exact hpx)
            rw [HX.out, HI2.out] at hst
            refine ⟨k + 1, by omega, by omega, rfl, by go_num, by rw [hst.2]; go_num, HO3.out, ?_⟩
            rw [hst.1]
            exact HW3.out
      · obtain rfl : k = n := by omega
        have hll : ((l.take k).filter (fun x => !p x)) = l.filter (fun x => !p x) := by rw [List.take_of_length_le (by rw [HN.out]; omega)]
        have hin : ((l.take k).filter (fun x => !p x)).length < k := by
          rw [hll]
          have h := List.length_filter_lt_length_iff_exists (p := fun x => !p x) (l := l) |>.2 ⟨l.getD j0 0, by simp [List.getD, (by rw [HN.out]; exact h1 : j0 < l.length)], by rw [H34.out.1]; simp⟩
          rw [HN.out] at h
          exact h
        obtain ⟨w3, hcl, hO3, hR3⟩ := clear_own (s := 1) Try.underlying22 int_zero0 rfl (by simp [Value.cells, Value.oneCell']) HWR.out hin
        have HFIN := Lib.hid (show Rd w3 (some ⟨g, 0, none⟩) (ints (l.filter fun x => !p x)) by
          have e : (ints (keptRow p l k)).take (((l.take k).filter (fun x => !p x)).length * 1) = ints (l.filter fun x => !p x) := by
            unfold ints keptRow
            rw [Nat.mul_one, ← List.map_take, List.take_left, hll]
          rw [e] at hR3
          exact hR3)
        have HLE := Lib.hid (show ((l.take k).filter (fun x => !p x)).length = (l.filter fun x => !p x).length by rw [hll])
        simp only [Nat.mul_one] at hcl
        clear hll hR3
        generalize ((l.take k).filter (fun x => !p x)).length = i at *
        have hci : ¬ c = i := by omega
        have q1 : (0 : Int) ≤ (i : Int) := by omega
        have q2 : (i : Int) ≤ (k : Int) := by omega
        have q3 : (i : Int) ≤ (c : Int) := by omega
        go_wp2
        go_ret
        exact ⟨ret_slice HLE.out, HFIN.out, HOR.out.trans hO3⟩

set_option maxHeartbeats 400000 in
theorem DelI_nil (c base : Nat) (f : FuncId) (caps : Array Value) (p : Int → Bool) (w : World) (hbase : base ≤ w.heap.size) (hf : Enters f) :
    Calls Try.prog 85 #[.slice none 0 c, .func (.func f) #[] caps] w (RetDelBI none c base ([] : List Int) w) := by
  have HI := Lib.hid (IndexFunc_any none c [] f caps p w (by simp) (.inl rfl) hf (fun x hx => by cases hx))
  rw [show firstAt p ([] : List Int) 0 = -1 from rfl] at HI
  simp only [List.length_nil] at HI
  clear hf
  go_enter Try.func85, Try.ntmps85
  go_wp2_with fail
  refine HI.out.mono ?_
  rintro e w1 ⟨rfl, hb1⟩
  go_wp2
  go_ret
  exact ⟨rfl, .inl rfl, hb1.mono hbase⟩

set_option maxHeartbeats 1000000 in
set_option maxRecDepth 100000 in
theorem DelI_own (A : Option Addr) (c base : Nat) (l : List Int) (f : FuncId) (caps : Array Value) (p : Int → Bool) (w : World) (hl : l.length ≤ 1048576)
    (hown : w.ownsRow base 3 1 (.slice A l.length c) l.length (ints l)) (hbase : base ≤ w.heap.size) (hf : Enters f) (hp : AsksB (Value.int .i64) base w f caps p l) :
    Calls Try.prog 85 #[.slice A l.length c, .func (.func f) #[] caps] w (RetDelBI A c base (l.filter fun x => !p x) w) := by
  cases A with
  | some ad =>
    obtain ⟨g, c', cur, hv, hg, r⟩ := hown.2.resolve_left (by rintro ⟨h, _⟩; cases h)
    injection hv with hv _ hc
    injection hv with hv
    subst hv hc
    refine (DelI_any g c base l f caps p w hl hown hf (fun x hx w' ho => hp x hx w' (ho.below hg hbase))).mono ?_
    rintro e w' ⟨h1, h2, h3⟩
    exact ⟨h1, h2, h3.below hg hbase⟩
  | none =>
    obtain ⟨h0, _, _⟩ := own_none hown rfl
    obtain rfl : l = [] := List.eq_nil_of_length_eq_zero h0
    exact DelI_nil c base f caps p w hbase hf

end Go.Proofs.Ytmllbailfbjoeaa

/- slices.insertionSortCmpFunc over numbers. -/
import Derived.Test.YtmllbailfbjoeaaSort2
namespace Go.Proofs.Ytmllbailfbjoeaa
open Go.RowKit Go.Sort

/-- The comparison (f, caps), asked at two numbers in a world in which nothing but block g has turned, answers c. -/
def Cmps (g : Nat) (w0 : World) (f : FuncId) (caps : Array Value) (c : Int → Int → Int) (ok : Int → Prop) : Prop :=
  ∀ x y, ok x → ok y → ∀ w', Only g w0 w' → Calls Try.prog f (#[.int .i64 x, .int .i64 y] ++ caps) w' fun e w'' => e = .returned (.int .i64 (c x y)) ∧ Below w'.heap.size w' w''

def ltOf (c : Int → Int → Int) (x y : Int) : Bool := decide (c x y < 0)

theorem Cmps.later {g : Nat} {w0 w1 : World} {f : FuncId} {caps : Array Value} {c : Int → Int → Int} {ok : Int → Prop} (h : Cmps g w0 f caps c ok) (ho : Only g w0 w1) : Cmps g w1 f caps c ok :=
  fun x y hx hy w' hw => h x y hx hy w' (ho.trans hw)

/-- What a sort of the places a..b leaves. -/
def Sorted (base g n c a b : Nat) (lt : Int → Int → Bool) (xs : List Int) (w : World) (e : Ending) (w' : World) : Prop :=
  e = .returned (.tuple #[]) ∧ ∃ ys, RowI base g n c w' ys ∧ Mix a b xs ys ∧ Rises lt a b ys ∧ Only g w w'

theorem mem_of_mix {a b : Nat} {xs ys : List Int} (h : Mix a b xs ys) {ok : Int → Prop} (hk : ∀ x ∈ xs, ok x) : ∀ x ∈ ys, ok x := fun x hx => hk x (h.perm.mem_iff.1 hx)
theorem getD_ok {ys : List Int} {ok : Int → Prop} (hk : ∀ x ∈ ys, ok x) {i : Nat} (hi : i < ys.length) : ok (ys.getD i 0) := hk _ (by simp [List.getD, hi])

set_option maxHeartbeats 4000000 in
set_option maxRecDepth 100000 in
theorem insertion_nat (base g n cp a b : Nat) (f : FuncId) (caps : Array Value) (c : Int → Int → Int) (ok : Int → Prop) (xs : List Int) (w : World) (hn : n ≤ 1048576) (hab : a ≤ b) (hb : b ≤ n) (hR : RowI base g n cp w xs)
    (hf : Enters f) (hl : Less (ltOf c)) (hC : Cmps g w f caps c ok) (hok : ∀ x ∈ xs, ok x) :
    Calls Try.prog 126 #[.slice (some ⟨g, 0, none⟩) n cp, .int .i64 a, .int .i64 b, .func (.func f) #[] caps] w (Sorted base g n cp a b (ltOf c) xs w) := by
  have HR := Lib.hid hR
  have HC := Lib.hid hC
  have HL := Lib.hid hl
  have HOK := Lib.hid hok
  have HF := Lib.hid hf
  clear hR hC hl hok hf
  go_enter Try.func126, Try.ntmps126
  go_wp2
  go_loopw [8] (fun u wr => ∃ (i : Nat) (ys : List Int), a + 1 ≤ i ∧ i ≤ max b (a + 1) ∧ u = .int .i64 i ∧ RowI base g n cp wr ys ∧ Mix a b xs ys ∧ Rises (ltOf c) a i ys ∧ Only g w wr) (fun u _ => b - (intOf u).toNat)
  case atStart => exact ⟨a + 1, xs, by omega, by omega, by go_num, HR.out, Mix.refl _ _ _, fun i j h1 h2 h3 => by omega, Only.refl _ _⟩
  case round =>
    obtain ⟨i, ys, hi1, hi2, rfl, hr, hm, hs, ho⟩ := hrel
    have HRR := Lib.hid hr
    have HM := Lib.hid hm
    have HS := Lib.hid hs
    have HO := Lib.hid ho
    clear hr hm hs ho
    by_cases hlt : i < b
    · go_wp2
      obtain ⟨wo, rfl⟩ : ∃ wo : World, wo = wr := ⟨_, rfl⟩
      go_loopw [9] (fun u wi => ∃ (j : Nat) (zs : List Int), a ≤ j ∧ j ≤ i ∧ u = .int .i64 j ∧ RowI base g n cp wi zs ∧ Mix a b xs zs ∧ RisesBut (ltOf c) a i j zs ∧ Only g w wi) (fun u _ => (intOf u).toNat)
      case atStart => exact ⟨i, ys, by omega, by omega, rfl, HRR.out, HM.out, rises_but_start HS.out, HO.out⟩
      case round =>
        obtain ⟨j, zs, hj1, hj2, rfl, hr, hm, hs, ho⟩ := hrel
        have HRZ := Lib.hid hr
        have HMZ := Lib.hid hm
        have HSZ := Lib.hid hs
        have HOZ := Lib.hid ho
        clear hr hm hs ho
        by_cases hja : j = a
        · subst hja
          have hd : decide ((j : Int) < (j : Int)) = false := by simp
          go_wp2
          refine wp_region_quiet_below (by kernel_rfl) (by kernel_rfl) ?_
          repeat (go_big_quiet_step (fail))
          refine wpQuiet_nil ?_
          intro _ hw'
          obtain ⟨⟨dq, osq⟩, hw''⟩ := hw'
          subst hw''
          go_wp2
          refine ⟨⟨i + 1, zs, by omega, by omega, by go_num, HRZ.out.below (below_regrown _ dq osq), HMZ.out, rises_but_end HL.out HSZ.out (by omega) hj2 (.inl rfl), HOZ.out.trans (.of_below (below_regrown _ dq osq))⟩, by simp [intOf]; omega⟩
        · have hlen := HRZ.out.2
          have hjl : j < zs.length := by rw [hlen]; omega
          have hjl2 : j - 1 < zs.length := by rw [hlen]; omega
          have x1 := HRZ.out.cell (k := j) (by omega)
          have x2 := HRZ.out.cell (k := j - 1) (by omega)
          have HCALL : Hid (∀ W : World, Below wr.heap.size wr W → Calls Try.prog f (#[.int .i64 (zs.getD j 0), .int .i64 (zs.getD (j - 1) 0)] ++ caps) W fun e w'' => e = .returned (.int .i64 (c (zs.getD j 0) (zs.getD (j - 1) 0))) ∧ Below W.heap.size W w'') := by
            intro W hW
            exact HC.out _ _ (getD_ok (mem_of_mix HMZ.out HOK.out) hjl) (getD_ok (mem_of_mix HMZ.out HOK.out) hjl2) W (HOZ.out.trans (.of_below hW))
          have HSTEP := Lib.hid (fun h => rises_but_step HL.out HSZ.out (by omega) hj2 (by rw [hlen]; omega) h)
          have HEND := Lib.hid (fun h => rises_but_end HL.out HSZ.out hj1 hj2 (.inr h))
          have hgl := HRZ.out.lt (by omega)
          have hd : decide ((a : Int) < (j : Int)) = true := by simp; omega
          have hd2 : decide (a < j) = true := by simp; omega
          have haj : a < j := by omega
          have hw1 := IntWalk.i64_in ((j : Int) - 1) (by omega)
          have ht : ((j : Int) - 1).toNat = j - 1 := by omega
          have q1 : (0 : Int) ≤ (j : Int) := by omega
          have q2 : (j : Int) < (n : Int) := by omega
          have q3 : (0 : Int) ≤ (j : Int) - 1 := by omega
          have q4 : (j : Int) - 1 < (n : Int) := by omega
          have q5 : (1 : Int) ≤ (j : Int) := by omega
          have k1 := cell_regrown x1
          have k2 := cell_regrown x2
          have hrun : ∀ (args : Array Value) (W : World), Sem.run Try.prog (callFunc f args) W = .ok (.enter f args) W := HF.out
          clear hlen hjl hjl2 hja
          generalize hx : zs.getD j 0 = x at *
          generalize hy : zs.getD (j - 1) 0 = y at *
          have HX := Lib.hid hx
          have HY := Lib.hid hy
          clear hx hy
          cases hcl : decide (c x y < 0)
          · have HCL := Lib.hid (show ltOf c x y = false from hcl)
            go_wp2
            refine wp_region_quiet_below (by kernel_rfl) (by kernel_rfl) ?_
            repeat (go_big_quiet_step ((exact Calls.regrown_of (HCALL.out _ (below_regrown _ _ _)))))
            refine wpQuiet_nil ?_
            intro _ hw'
            obtain ⟨⟨dq, osq⟩, hw''⟩ := hw'
            subst hw''
            go_wp2
            refine ⟨⟨i + 1, zs, by omega, by omega, by go_num, HRZ.out.below (below_regrown _ dq osq), HMZ.out, HEND.out HCL.out, HOZ.out.trans (.of_below (below_regrown _ dq osq))⟩, by simp [intOf]; omega⟩
          · have HCL := Lib.hid (show ltOf c x y = true from hcl)
            go_wp2
            refine wp_region_quiet_below (by kernel_rfl) (by kernel_rfl) ?_
            repeat (go_big_quiet_step ((exact Calls.regrown_of (HCALL.out _ (below_regrown _ _ _)))))
            refine wpQuiet_nil ?_
            intro _ hw'
            obtain ⟨⟨dq, osq⟩, hw''⟩ := hw'
            subst hw''
            clear k1 k2 x1 x2 hrun
            replace HRZ := Lib.hid (HRZ.out.below (below_regrown _ dq osq))
            replace HOZ := Lib.hid (HOZ.out.trans (.of_below (below_regrown _ dq osq)))
            generalize grow (redrawn wr dq) osq = w2 at *
            have y1 := HRZ.out.cell (k := j) (by omega)
            have y2 := HRZ.out.cell (k := j - 1) (by omega)
            have f1 := HRZ.out.frozen (k := j) (by omega)
            rw [HX.out] at y1
            rw [HY.out] at y2
            have hy1 := (HRZ.out.set_ (k := j) (by omega) y).cell (k := j - 1) (by omega)
            have hy2 := (HRZ.out.set_ (k := j) (by omega) y).frozen (k := j - 1) (by omega)
            have HE := Lib.hid ((HRZ.out.set_ (k := j) (by omega) y).set_ (k := j - 1) (by omega) x)
            have HOE := Lib.hid ((HOZ.out.set_ j (.int .i64 y)).set_ (j - 1) (.int .i64 x))
            have HME := Lib.hid (HMZ.out.trans (Mix.exch (a := a) (b := b) j (j - 1) (by omega) (by omega) (by have := HRZ.out.2; omega)))
            generalize (zs.set j y).getD (j - 1) 0 = v' at hy1
            go_wp2
            go_region
            generalize (w2.setCell ⟨g, j, none⟩ (.int .i64 y)).setCell ⟨g, j - 1, none⟩ (.int .i64 x) = w3 at *
            clear hy1 hy2 y1 y2 f1
            go_wp2
            refine ⟨⟨j - 1, _, by omega, by omega, by go_num, HE.out.drew, ?_, ?_, HOE.out.drew⟩, by simp [intOf]; omega⟩
            · have h := HME.out
              unfold exch at h
              rwa [HX.out, HY.out] at h
            · have h := HSTEP.out HCL.out
              unfold exch at h
              rwa [HX.out, HY.out] at h
    · go_wp2
      go_end0
      refine ⟨rfl, ys, HRR.out, HM.out, ?_, HO.out⟩
      intro p q h1 h2 h3
      exact HS.out p q h1 h2 (by omega)

end Go.Proofs.Ytmllbailfbjoeaa

/- Errors: their texts, walked. -/
import Derived.Test.YtknlhkkpheahlaaDoorE1
import Derived.Deep.RegionHeld3
import Derived.Deep.DeepCutAuto
import Derived.Deep.RegionLaw
import Derived.Lib.ItoaLen
namespace Go.Proofs.YtknlhkkpheahlaaDoor
open Go.RowKit Go.Sort Go.Extern.Stop Go.Stop Go.Extern

/-- The library's table stands as it was laid. -/
abbrev TabT (w : World) : Prop := Lib.TabIs Tryd.prog w "internal/strconv.uint64pow10" .u64 Lib.pow10Tab
theorem TabT.below {w w' : World} (h : TabT w) (hb : Below w.heap.size w w') : TabT w' := Lib.tabBelow_of_tabIs h w' hb

def itoaS (n : Int) : ByteArray := ⟨(Lib.itoa n).toArray⟩
def In64 (n : Int) : Prop := -9223372036854775808 ≤ n ∧ n ≤ 9223372036854775807

theorem Itoa_any (n : Int) (hn : In64 n) (w : World) (ht : TabT w) :
    Calls Tryd.prog 65 #[.int .i64 n] w fun e w' => e = .returned (.string (itoaS n)) ∧ Below w.heap.size w w' := by
  refine (Tryd.strconv_Itoa n hn.1 hn.2 w ht).mono ?_
  rintro e w' ⟨rfl, k, os, rfl⟩
  exact ⟨rfl, Lib.below_grow _ _ (Nat.le_refl _) _ _⟩

theorem itoaS_size {n : Int} (hn : In64 n) : (itoaS n).size ≤ 21 := by
  have := Lib.itoa_length_le n hn.1 hn.2
  simpa [itoaS, ByteArray.size] using this

def errnoS (e : Int) : ByteArray := ⟨#[101, 114, 114, 111, 114, 32]⟩ ++ itoaS e
def faultS (s : ByteArray) (p : Int) : ByteArray := s ++ ⟨#[32]⟩ ++ itoaS p
/-- The text of faults around a number. -/
def chainS : List (ByteArray × Int) → Int → ByteArray
  | [], e => errnoS e
  | (s, p) :: r, e => faultS s p ++ ⟨#[58, 32]⟩ ++ chainS r e

set_option maxHeartbeats 1000000 in
theorem ErrorE_any (n : Int) (hn : In64 n) (w : World) (ht : TabT w) :
    Calls Tryd.prog 170 #[.int .i64 n] w fun e w' => e = .returned (.string (errnoS n)) ∧ Below w.heap.size w w' := by
  have HI := Lib.hid (Itoa_any n hn w ht)
  have hz := itoaS_size hn
  clear hn ht
  have HE : RowKit.Hid (errnoS n = ⟨#[101, 114, 114, 111, 114, 32]⟩ ++ itoaS n) := Lib.hid rfl
  generalize itoaS n = z at *
  have d1 : ¬ 9223372036854775807 < 6 + z.size := by omega
  go_enter Tryd.func170, Tryd.ntmps170
  go_wp2_with (first | (go_at_call 65; refine HI.out.mono ?_; rintro er w2 ⟨rfl, hb⟩))
  go_ret
  exact ⟨by rw [HE.out]; rfl, hb⟩

set_option maxHeartbeats 4000000 in
set_option maxRecDepth 100000 in
theorem ErrorF_any (B : Nat) : ∀ (l : List (ByteArray × Int)) (e : Int) (g : Nat) (w : World), l ≠ [] → Chain B w (faultV g) l e → (∀ a ∈ l, In64 a.2) → In64 e → (chainS l e).size ≤ 9223372036854775807 → TabT w →
    Calls Tryd.prog 171 #[.pointer (some ⟨g, 0, none⟩)] w fun er w' => er = .returned (.string (chainS l e)) ∧ Below w.heap.size w w'
  | [], _, _, _, h, _, _, _, _, _ => absurd rfl h
  | (s, p) :: r, e, g, w, _, hc, hp, he, hsz, ht => by
    obtain ⟨g', v, hg, _, hb, hr⟩ := hc
    injection hg with _ hg
    injection hg with hg
    injection hg with hg
    injection hg with hg
    subst hg
    have hcs : chainS ((s, p) :: r) e = faultS s p ++ ⟨#[58, 32]⟩ ++ chainS r e := rfl
    have HCS := Lib.hid hcs
    have hpp : In64 p := hp (s, p) (by simp)
    have hz := itoaS_size hpp
    have hsz2 : s.size + 1 + (itoaS p).size + 2 + (chainS r e).size ≤ 9223372036854775807 := by
      have h2 : (⟨#[58, 32]⟩ : ByteArray).size = 2 := rfl
      have h1 : (⟨#[32]⟩ : ByteArray).size = 1 := rfl
      rw [hcs, faultS, ByteArray.size_append, ByteArray.size_append, ByteArray.size_append, ByteArray.size_append, h1, h2] at hsz
      exact hsz
    have hszr : (chainS r e).size ≤ 9223372036854775807 := by omega
    have HI := Lib.hid (fun W h => Itoa_any p hpp W h)
    have IH := Lib.hid (fun (g' : Nat) W (hne : r ≠ []) (hc : Chain B W (faultV g') r e) (h : TabT W) => ErrorF_any B r e g' W hne hc (fun a ha => hp a (by simp [ha])) he hszr h)
    have HEE := Lib.hid (fun W h => ErrorE_any e he W h)
    have HB := Lib.hid hb
    have HR := Lib.hid hr
    have HT := Lib.hid ht
    have HF : RowKit.Hid (faultS s p = s ++ ⟨#[32]⟩ ++ itoaS p) := Lib.hid rfl
    have c0 : w.cell? ⟨g, 0, none⟩ = some (.string s) := hb.cell rfl
    have c1 : w.cell? ⟨g, 1, none⟩ = some (.int .i64 p) := hb.cell rfl
    have c2 : w.cell? ⟨g, 2, none⟩ = some v := hb.cell rfl
    have hgl : g < w.heap.size := hb.lt
    clear hb hr ht hp he hsz hcs hszr hpp
    generalize itoaS p = z at *
    have d1 : ¬ 9223372036854775807 < s.size + 1 := by omega
    have d2 : ¬ 9223372036854775807 < s.size + 1 + z.size := by omega
    go_enter Tryd.func171, Tryd.ntmps171
    go_upto_region 3 with (fail)
    have HTD := Lib.hid (HT.out.below (Below.drewN' (Below.refl _ _) 1))
    go_region_held3 (fun w' => w'.cell? ⟨g, 0, none⟩ = some (.string s) ∧ w'.cell? ⟨g, 1, none⟩ = some (.int .i64 p)) (first | go_keep | (simp only [hk]; go_keep))
      (first | (go_at_call 65; refine (HI.out w.drew HTD.out).mono ?_; rintro er w1 ⟨rfl, hb1⟩; have hk := fun o => hb1.cell (p := ⟨g, o, none⟩) hgl))
    have hb1' : Below w.heap.size w w1 := ⟨hb1.os, hb1.tape, hb1.output, hb1.size, hb1.block⟩
    have HB1 := Lib.hid hb1'
    have e2 : w1.cell? ⟨g, 2, none⟩ = some v := by rw [hk]; exact c2
    have HT1 := Lib.hid (HT.out.below hb1')
    have HR1 := Lib.hid (HR.out.below hb1')
    clear hk hb1 hb1' c0 c1 c2 HI HTD HT HR
    have d3 : ¬ 9223372036854775807 < s.size + 1 + z.size + 2 := by omega
    have d4 : ¬ 9223372036854775807 < s.size + 1 + z.size + 2 + (chainS r e).size := by omega
    cases r with
    | nil =>
      have hv : v = errnoV e := HR1.out
      subst hv
      have mE := mErrorE
      generalize hce : chainS [] e = ce at *
      have HCE := Lib.hid (show errnoS e = ce from hce)
      rw [HCE.out] at HEE
      clear hce IH
      go_wp2_with (first | (go_at_call 170; refine (HEE.out _ HT1.out).mono ?_; rintro er w2 ⟨rfl, hb2⟩; have HB2 := Lib.hid (HB1.out.trans (hb2.mono HB1.out.size)); clear hb2))
      go_ret
      exact ⟨by rw [HCS.out, HF.out]; rfl, HB2.out⟩
    | cons a r =>
      obtain ⟨s2, p2⟩ := a
      obtain ⟨g2, v2, hv, hBB, hbb, hrr⟩ := HR1.out
      have HCH := Lib.hid (show Chain B w1 (faultV g2) ((s2, p2) :: r) e from ⟨g2, v2, rfl, hBB, hbb, hrr⟩)
      subst hv
      have mF := mErrorF
      clear hbb hrr HR1
      generalize hce : chainS ((s2, p2) :: r) e = ce at *
      clear hce
      go_wp2_with (first | (go_at_call 171; refine (IH.out g2 _ (by simp) HCH.out HT1.out).mono ?_; rintro er w2 ⟨rfl, hb2⟩; have HB2 := Lib.hid (HB1.out.trans (hb2.mono HB1.out.size)); clear hb2))
      go_ret
      exact ⟨by rw [HCS.out, HF.out]; rfl, HB2.out⟩
  termination_by l => l.length

end Go.Proofs.YtknlhkkpheahlaaDoor

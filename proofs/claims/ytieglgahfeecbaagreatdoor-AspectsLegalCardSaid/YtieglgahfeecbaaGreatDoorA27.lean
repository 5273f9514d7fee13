/- hist: what a history that may be gives the search: plain. -/
import Derived.Test.YtieglgahfeecbaaGreatDoorA26
import Derived.Test.YtieglgahfeecbaaGreatDoorA20
namespace Go.Proofs.YtieglgahfeecbaaGreatDoor
open Go.RowKit Go.Sort Go.Maps
attribute [local go_sem ↓] Go.wp_at_zero Go.wp_at_succ

theorem sum_take {α : Type} (g : α → Nat) (d : α) : ∀ (l : List α) (k : Nat), k < l.length → ((l.take (k + 1)).map g).sum = ((l.take k).map g).sum + g (l.getD k d)
  | [], _, h => by simp at h
  | x :: l, 0, _ => by simp
  | x :: l, k + 1, h => by
    have := sum_take g d l k (by simpa using h)
    simp only [List.take_succ_cons, List.map_cons, List.sum_cons, List.getD_cons_succ] at this ⊢
    omega
theorem sum_take_le {α : Type} (g : α → Nat) : ∀ (l : List α) (k : Nat), ((l.take k).map g).sum ≤ (l.map g).sum
  | [], _ => by simp
  | x :: l, 0 => by simp
  | x :: l, k + 1 => by
    have := sum_take_le g l k
    simp only [List.take_succ_cons, List.map_cons, List.sum_cons]
    omega

set_option maxHeartbeats 4000000 in
set_option maxRecDepth 100000 in
theorem IndexSt_any (c : Cfg) (gF : Nat) (NA : Option Addr) (nc mb : Nat) (NS : List Nte) (PS : List NtP) (A : Option Addr) (cp : Nat) (S : List Str) (ps : List StP) (w : World) (n m : Nat) (T : List UInt8 → Bool)
    (hsr : SrAt c gF NA nc mb NS PS w) (hl : S.length = ps.length) (h4 : ps.length ≤ 4096) (hR : Rd w A (rows S)) (hS : ∀ k, k < ps.length → StAt w (S.getD k Str.none) (ps.getD k ⟨0, [], []⟩)) (hT : TrAt w mb n T)
    (hok : ∀ q ∈ ps, FromOk c gF NA nc mb NS PS q ∧ leftM PS q ≤ m) (htr : Tried c PS T m) (hn : n + (ps.map (nN PS)).sum < maxLen) :
    Calls Tryz.prog 68 #[.slice A S.length cp, .func (.func 16) #[.pointer (some ⟨gF, 0, none⟩)] #[]] w fun e w' =>
      ∃ (i : Int) (T' : List UInt8 → Bool), e = .returned (.int .i64 i) ∧ (0 ≤ i ↔ ∃ q ∈ ps, Expl c PS q) ∧ TrAt w' mb (n + (ps.map (nN PS)).sum) T' ∧ (i < 0 → OnlyBad c PS T T') ∧ w.grownBy w' (some mb) := by
  have HSR := Lib.hid hsr
  have HR := Lib.hid hR
  have HS := Lib.hid hS
  have HT := Lib.hid hT
  have HOK := Lib.hid hok
  have HTR := Lib.hid htr
  have HN := Lib.hid hn
  clear hsr hR hS hT hok htr hn
  generalize hN : S.length = N at *
  have HL := Lib.hid hl
  have HLS := Lib.hid hN
  have hN4 : N ≤ 4096 := by omega
  clear hl hN
  go_enter Tryz.func68, Tryz.ntmps68
  go_wp2_with fail
  go_loopg [8] N (fun gg i wr => ∃ (k : Nat) (T1 : List UInt8 → Bool), k ≤ N ∧ gg = N - k ∧ i = .int .i64 k ∧ TrAt wr mb (n + ((ps.take k).map (nN PS)).sum) T1 ∧ OnlyBad c PS T T1 ∧ (∀ q ∈ ps.take k, ¬ Expl c PS q) ∧ w.grownBy wr (some mb))
  case atStart => exact ⟨0, T, Nat.zero_le _, rfl, rfl, by simpa using HT.out, OnlyBad.refl _ _ _, by simp, grown_below (Below.refl _ _)⟩
  case round =>
    obtain ⟨k, T1, hk, hg, rfl, ht1, hob, hno, hgr⟩ := hrel
    have HG := Lib.hid hg
    have HT1 := Lib.hid ht1
    have HOB := Lib.hid hob
    have HNO := Lib.hid hno
    have HGR := Lib.hid hgr
    clear hg ht1 hob hno hgr
    by_cases hlt : k < N
    · have hkp : k < ps.length := by rw [← HL.out]; exact hlt
      have hmb := HT.out.map
      obtain ⟨b, o, hA, hbl, hc⟩ := (HR.out.keptM hmb HGR.out).at_ (by rw [rows_length, HLS.out]; simp only [Cellful.s]; omega)
      subst hA
      have hcc := str_cells (k := k) hc (by rw [HLS.out]; exact hlt) rfl
      have hst := (HS.out k hkp).keptM hmb HGR.out
      have hmem : ps.getD k ⟨0, [], []⟩ ∈ ps := getD_mem hkp
      have hsum := sum_take (nN PS) ⟨0, [], []⟩ ps k hkp
      have hsle := sum_take_le (nN PS) ps (k + 1)
      have htk : ∀ q, q ∈ ps.take (k + 1) → q ∈ ps.take k ∨ q = ps.getD k ⟨0, [], []⟩ := fun q hq => by
        rw [List.take_succ_eq_append_getElem hkp] at hq
        rcases List.mem_append.1 hq with h | h
        · exact .inl h
        · simp only [List.mem_cons, List.not_mem_nil, or_false] at h
          right; rw [h]; simp [List.getD_eq_getElem?_getD, List.getElem?_eq_getElem hkp]
      have HTK := Lib.hid htk
      generalize S.getD k Str.none = x at *
      generalize ps.getD k ⟨0, [], []⟩ = q at *
      have HF := Lib.hid ((HOK.out q hmem).1 x wr _ T1 (HSR.out.keptM hmb HGR.out) hst HT1.out ((HTR.out.bad HOB.out).mono (HOK.out q hmem).2) (by have := HN.out; omega))
      have HMEM := Lib.hid hmem
      have HSUM := Lib.hid hsum
      have HSLE := Lib.hid hsle
      clear hsum hsle htk hmem hst hkp hmb hc
      unfold strV at HF
      obtain ⟨x0, x1, x2⟩ := hcc
      have t0 : (0 : Int) ≤ (k : Int) := by omega
      have t1 : (k : Int) < (N : Int) := by omega
      go_wp2_with (first
        | (go_at_call 16
           refine HF.out.mono ?_
           rintro er w1 ⟨r, T2, rfl, hr, ht2, hob2, hg2⟩
           have HRE := Lib.hid hr
           have HT2 := Lib.hid ht2
           have HOB2 := Lib.hid hob2
           have HG2 := Lib.hid hg2
           clear hr ht2 hob2 hg2)
        | fail)
      · have hrt : r = true := by first | assumption | (simp_all; done)
        subst hrt
        go_ret
        refine ⟨k, T2, rfl, ⟨fun _ => ⟨q, HMEM.out, HRE.out.1 rfl⟩, fun _ => t0⟩, HT2.out.mono (by have := HSUM.out; have := HSLE.out; omega), fun h => absurd h (by omega), HGR.out.trans HG2.out⟩
      · have hrf : r = false := by first | assumption | (simp_all; done)
        subst hrf
        go_roundg (N - (k + 1))
        case measure => rw [HG.out]; omega
        case rel =>
          refine ⟨k + 1, T2, by omega, rfl, by go_num, ?_, HOB.out.trans (HOB2.out rfl), fun q' hq => ?_, HGR.out.trans HG2.out⟩
          · rw [HSUM.out, ← Nat.add_assoc]; exact HT2.out
          · rcases HTK.out q' hq with h | h
            · exact HNO.out q' h
            · rw [h]
              intro he
              have := HRE.out.2 he
              cases this
    · obtain rfl : k = N := by omega
      go_wp2_with fail
      go_ret
      have e : ps.take k = ps := List.take_of_length_le (by rw [← HL.out]; exact Nat.le_refl _)
      have h1 := HT1.out
      have h2 := HNO.out
      rw [e] at h1 h2
      refine ⟨-1, T1, rfl, ⟨fun h => absurd h (by decide), fun ⟨q, hq, he⟩ => absurd he (h2 q hq)⟩, h1, fun _ => HOB.out, HGR.out⟩

end Go.Proofs.YtieglgahfeecbaaGreatDoor

namespace Go.Proofs.YtieglgahfeecbaaGreatDoor
open Go.RowKit Go.Sort Go.Maps
attribute [local go_sem ↓] Go.wp_at_zero Go.wp_at_succ

set_option maxHeartbeats 4000000 in
set_option maxRecDepth 100000 in
theorem ContainsSt_any (c : Cfg) (gF : Nat) (NA : Option Addr) (nc mb : Nat) (NS : List Nte) (PS : List NtP) (A : Option Addr) (cp : Nat) (S : List Str) (ps : List StP) (w : World) (n m : Nat) (T : List UInt8 → Bool)
    (hsr : SrAt c gF NA nc mb NS PS w) (hl : S.length = ps.length) (h4 : ps.length ≤ 4096) (hR : Rd w A (rows S)) (hS : ∀ k, k < ps.length → StAt w (S.getD k Str.none) (ps.getD k ⟨0, [], []⟩)) (hT : TrAt w mb n T)
    (hok : ∀ q ∈ ps, FromOk c gF NA nc mb NS PS q ∧ leftM PS q ≤ m) (htr : Tried c PS T m) (hn : n + (ps.map (nN PS)).sum < maxLen) :
    Calls Tryz.prog 35 #[.slice A S.length cp, .func (.func 16) #[.pointer (some ⟨gF, 0, none⟩)] #[]] w fun e w' =>
      ∃ (r : Bool) (T' : List UInt8 → Bool), e = .returned (.bool r) ∧ (r = true ↔ ∃ q ∈ ps, Expl c PS q) ∧ TrAt w' mb (n + (ps.map (nN PS)).sum) T' ∧ (r = false → OnlyBad c PS T T') ∧ w.grownBy w' (some mb) := by
  have HI := Lib.hid (IndexSt_any c gF NA nc mb NS PS A cp S ps w n m T hsr hl h4 hR hS hT hok htr hn)
  clear hsr hl h4 hR hS hT hok htr hn
  generalize S.length = N at *
  go_enter Tryz.func35, Tryz.ntmps35
  go_wp2_with (first
    | (go_at_call 68
       refine HI.out.mono ?_
       rintro er w1 ⟨i, T2, rfl, hr, ht2, hob2, hg2⟩
       have HRE := Lib.hid hr
       have HT2 := Lib.hid ht2
       have HOB2 := Lib.hid hob2
       have HG2 := Lib.hid hg2
       clear hr ht2 hob2 hg2)
    | fail)
  go_ret
  exact ⟨decide (0 ≤ i), T2, rfl, by rw [decide_eq_true_iff]; exact HRE.out, HT2.out, fun h => HOB2.out (by simpa using h), HG2.out⟩

/-- A thread of a note. -/
def ThrOk (c : Cfg) (NS : List Nte) : Prop := ∀ k, k < NS.length → 0 ≤ (NS.getD k Nte.none).thread ∧ (NS.getD k Nte.none).thread < c.threads
/-- Every way from a state has less left. -/
theorem ways_less {c : Cfg} {PS : List NtP} {p q : StP} (hat : p.at_ < PS.length) (ht : (PS.getD p.at_ NtP.none).thread.toNat < p.l.length) (hm : q ∈ waysS c PS p) : leftM PS q < leftM PS p := by
  unfold leftM
  rcases ways_left hat ht hm with ⟨h1, h2⟩ | ⟨h1, h2⟩
  · rw [h1]; omega
  · rw [h1]; omega
theorem expl_ways {c : Cfg} {PS : List NtP} {p : StP} (hat : p.at_ < PS.length) : Expl c PS p ↔ ∃ q ∈ waysS c PS p, Expl c PS q := by
  constructor
  · rintro (h | ⟨s', _, hm, he⟩)
    · rename_i h0
      omega
    · exact ⟨_, by assumption, by assumption⟩
  · rintro ⟨q, hq, he⟩
    exact .way p q hat hq he

end Go.Proofs.YtieglgahfeecbaaGreatDoor

namespace Go.Proofs.YtieglgahfeecbaaGreatDoor
open Go.RowKit Go.Sort Go.Maps Go.WideMaps
attribute [local go_sem ↓] Go.wp_at_zero Go.wp_at_succ

theorem TrAt.look {w : World} {mb n : Nat} {T : List UInt8 → Bool} (h : TrAt w mb n T) (s : List UInt8) (hs : s.length ≤ maxLen) : (Instr.lookup 49 (.map (some mb)) (.string ⟨s.toArray⟩) false).run Tryz.prog w = .ok (.bool (T s)) w := by
  obtain ⟨D, h1, h2⟩ := h
  obtain ⟨v, ps, hrun, hv⟩ := h1.lookup (string_keyed Tryz.underlying9) Tryz.underlying49 (z := .bool false) (by kernel_rfl) (plainElem_bool Tryz.underlying4 false) (key := .string ⟨s.toArray⟩) (kl := .string s) (keyOf_string_mk Tryz.underlying9 (by simpa [ByteArray.size] using hs))
  rw [h2.at_ s] at hv
  rw [hrun]
  have hv2 : v = .bool (T s) := by
    unfold plainElem at hv
    simp only [Tryz.underlying4] at hv
    cases v <;> simp at hv
    rw [hv.1]
  rw [hv2]

theorem TrAt.put {w : World} {mb n : Nat} {T : List UInt8 → Bool} (h : TrAt w mb n T) (s : List UInt8) (hs : s.length ≤ maxLen) (hn : n < maxLen) :
    ∃ w', (Instr.mapUpdate 49 (.map (some mb)) (.string ⟨s.toArray⟩) (.bool true)).run Tryz.prog w = .ok () w' ∧ TrAt w' mb (n + 1) (fun u => if u = s then true else T u) ∧ w.grownBy w' (some mb) := by
  obtain ⟨D, h1, h2⟩ := h
  obtain ⟨w', hrun, ho, hg⟩ := h1.update (string_keyed Tryz.underlying9) Tryz.underlying49 hn (key := .string ⟨s.toArray⟩) (kl := .string s) (val := .bool true) (keyOf_string_mk Tryz.underlying9 (by simpa [ByteArray.size] using hs)) (plainElem_bool Tryz.underlying4 true)
  exact ⟨w', hrun, ⟨_, ho, h2.put s⟩, hg⟩

set_option maxHeartbeats 4000000 in
set_option maxRecDepth 100000 in
theorem from_done (c : Cfg) (gF : Nat) (NA : Option Addr) (nc mb : Nat) (NS : List Nte) (PS : List NtP) (p : StP) (hat : p.at_ = PS.length) : FromOk c gF NA nc mb NS PS p := by
  intro s w n T hsr hst hT htr hn
  have HS0 := Lib.hid (Blk.new w 57 s.cells)
  have HB0 := Lib.hid ((Below.refl w.heap.size w).alloc (Nat.le_refl _) (.cells #[.int .i64 s.at_, .slice s.RA s.rn s.rc, .slice s.LA s.ln s.lc] 57))
  have HT := Lib.hid hT
  have HAT := Lib.hid hat
  have HF0 := Lib.hid (hsr.box.alloc (.cells #[.int .i64 s.at_, .slice s.RA s.rn s.rc, .slice s.LA s.ln s.lc] 57))
  have HPA := Lib.hid (show s.at_ = (NS.length : Int) by rw [hst.at_, hat, hsr.nts.len])
  have hnf := hsr.nts.few
  clear hsr hst hT htr hn hat
  obtain ⟨at_, RA, rn, rc, LA, ln, lc⟩ := s
  simp only [Str.cells] at HS0 HB0 HF0 HPA
  obtain rfl := HPA.out
  clear HPA
  unfold strV
  simp only
  generalize hnn : NS.length = nn at *
  clear hnn
  go_enter Tryz.func16, Tryz.ntmps16
  go_upto_region 1 with fail
  generalize (w.alloc (.cells #[.int .i64 (nn : Int), .slice RA rn rc, .slice LA ln lc] 57)) = W0 at *
  have y0 := HS0.out.cell (i := 0) rfl
  have f11 := HF0.out.cell (i := 11) rfl
  go_region_held3 (fun w' => w'.cell? ⟨w.heap.size, 0, none⟩ = some (.int .i64 nn) ∧ w'.cell? ⟨gF, 11, none⟩ = some (.slice NA nn nc)) (go_keep) (fail)
  go_wp2_with fail
  go_ret
  refine ⟨true, T, rfl, ⟨fun _ => .done p HAT.out, fun _ => rfl⟩, ?_, fun h => absurd h (by decide), ?_⟩
  · have h := (HT.out.below HB0.out.drew).mono (Nat.le_add_right n (nN PS p))
    exact h
  · exact grown_below HB0.out.drew

end Go.Proofs.YtieglgahfeecbaaGreatDoor

namespace Go.Proofs.YtieglgahfeecbaaGreatDoor
open Go.RowKit Go.Sort Go.Maps Go.WideMaps
attribute [local go_sem ↓] Go.wp_at_zero Go.wp_at_succ

theorem ways_len {c : Cfg} {ns : List NtP} {p : StP} : (waysS c ns p).length ≤ 1 + p.l.length := by
  have h := effK_len c p p.l.length
  unfold waysS
  simp only
  split
  · simp
  · split
    · simp
    · rw [List.length_append]
      split <;> simp <;> omega

set_option maxHeartbeats 8000000 in
set_option maxRecDepth 100000 in
theorem from_ways (c : Cfg) (gF : Nat) (NA : Option Addr) (nc mb : Nat) (NS : List Nte) (PS : List NtP) (p : StP) (hok : ObjOk c) (hthr : ThrOk c NS) (h6 : c.threads ≤ 6) (hn60 : NS.length ≤ 60)
    (hso : StOk c PS p) (hat : p.at_ < PS.length) (ih : ∀ q, StOk c PS q → leftM PS q < leftM PS p → FromOk c gF NA nc mb NS PS q) : FromOk c gF NA nc mb NS PS p := by
  intro s w n T hsr hst hT htr hn
  have hlen := hsr.nts.len
  have hatN : p.at_ < NS.length := by omega
  obtain ⟨cs, hcs, hcl, hps⟩ := hsr.nts.is_ p.at_ hatN
  obtain ⟨ht0, ht1⟩ := hthr p.at_ hatN
  have hpth : (PS.getD p.at_ NtP.none).thread = (NS.getD p.at_ Nte.none).thread := by rw [hps]; rfl
  have htl : (PS.getD p.at_ NtP.none).thread.toNat < p.l.length := by rw [hpth, hso.len]; omega
  obtain ⟨t, ht⟩ : ∃ t : Nat, (NS.getD p.at_ Nte.none).thread = t := ⟨_, (Int.toNat_of_nonneg ht0).symm⟩
  have htsl : t < s.ln := by rw [← hst.ln, hso.len]; omega
  have hsum := ways_sum (c := c) (ns := PS) (p := p) (by omega) hat htl (by rw [hso.len]; omega)
  have hnl : (stateNameS p).length ≤ maxLen := by
    have h1 := nameL_len p (by omega) hst.big p.l.length (Nat.le_refl _)
    have h2 := hst.rb
    rw [hst.rn] at h1
    have h3 := hso.len
    unfold stateNameS maxLen
    omega
  have hww : ∀ q ∈ waysS c PS p, StOk c PS q ∧ FromOk c gF NA nc mb NS PS q ∧ leftM PS q < leftM PS p := fun q hq => by
    have h1 := hso.ways hat htl hq
    have h2 := ways_less hat htl hq
    exact ⟨h1, ih q h1 h2, h2⟩
  have HEX := Lib.hid (expl_ways (c := c) hat)
  have hnon : ∀ x ∈ p.rec_, 0 ≤ x := fun x hx => (hst.big x hx).1
  have HSM := Lib.hid (fun q (h1 : StOk c PS q) (h2 : ∀ x ∈ q.rec_, 0 ≤ x) (h3 : stateNameS q = stateNameS p) => StOk.same h1 hso h2 hnon h3)
  have HWL := Lib.hid (show (waysS c PS p).length ≤ 4096 by have := ways_len (c := c) (ns := PS) (p := p); rw [hso.len] at this; omega)
  have HSR := Lib.hid hsr
  have HST := Lib.hid hst
  have HT := Lib.hid hT
  have HTR := Lib.hid htr
  have HN := Lib.hid hn
  have HSO := Lib.hid hso
  have HNON := Lib.hid hnon
  have HSUM := Lib.hid hsum
  have HWW := Lib.hid hww
  have HNL := Lib.hid hnl
  have HL1 : RowKit.Hid (1 ≤ leftM PS p) := Lib.hid (by unfold leftM; omega)
  have HWY := Lib.hid (fun W (h1 : SrAt c gF NA nc mb NS PS W) (h2 : StAt W s p) => hWays_any c gF NA nc mb NS PS s p t W hok h1.cfg h1.box h1.nts h2 hatN ht htsl)
  have HNM := Lib.hid (fun W (h1 : SrAt c gF NA nc mb NS PS W) (h2 : StAt W s p) => hName_any s p W h2 h1.tz (by have := h1.nts.few; omega))
  have HS0 := Lib.hid (Blk.new w 57 s.cells)
  have HB0 := Lib.hid ((Below.refl w.heap.size w).alloc (Nat.le_refl _) (.cells #[.int .i64 s.at_, .slice s.RA s.rn s.rc, .slice s.LA s.ln s.lc] 57))
  have HF0 := Lib.hid (hsr.box.alloc (.cells #[.int .i64 s.at_, .slice s.RA s.rn s.rc, .slice s.LA s.ln s.lc] 57))
  have HPA := Lib.hid hst.at_
  clear hcs hcl hps hpth ht0 ht1 htl hsum hww hnl hnon hsr hst hT htr hn hso ih hthr hok ht htsl
  obtain ⟨at_, RA, rn, rc, LA, ln, lc⟩ := s
  simp only [Str.cells] at HS0 HB0 HF0 HPA
  obtain rfl := HPA.out
  clear HPA
  unfold strV at HWY HNM ⊢
  simp only at HWY HNM ⊢
  have hne : ((p.at_ : Int) == (NS.length : Int)) = false := by simp; omega
  generalize hnn : NS.length = nn at *
  have HNN := Lib.hid hnn
  clear hnn hlen h6 hn60
  generalize hR : waysS c PS p = R at *
  have HR := Lib.hid hR
  clear hR
  generalize hnm : stateNameS p = nm at *
  have HNAME := Lib.hid hnm
  clear hnm
  have HTR3 : RowKit.Hid (T nm = false → Tried c PS (fun u => if u = nm then true else T u) (leftM PS p - 1)) := Lib.hid (fun hf q h1 h2 h3 => by
    by_cases e : stateNameS q = nm
    · right
      rw [HSM.out q h1 h2 e]
      have := HL1.out
      omega
    · simp only [if_neg e] at h3
      rcases HTR.out q h1 h2 h3 with h | h
      · exact .inl h
      · right; omega)
  have HN3 : RowKit.Hid (n + 1 + (R.map (nN PS)).sum < maxLen) := Lib.hid (by have := HN.out; have := HSUM.out; omega)
  cases hTn : T nm
  · have HTN := Lib.hid hTn
    go_enter Tryz.func16, Tryz.ntmps16
    go_upto_region 1 with fail
    generalize (w.alloc (.cells #[.int .i64 (p.at_ : Int), .slice RA rn rc, .slice LA ln lc] 57)) = W0 at *
    have y0 := HS0.out.cell (i := 0) rfl
    have y1 := HS0.out.cell (i := 1) rfl
    have y2 := HS0.out.cell (i := 2) rfl
    have f11 := HF0.out.cell (i := 11) rfl
    go_region_held3 (fun w' => w'.cell? ⟨w.heap.size, 0, none⟩ = some (.int .i64 p.at_) ∧ w'.cell? ⟨gF, 11, none⟩ = some (.slice NA nn nc)) (go_keep) (fail)
    have HMB := Lib.hid HT.out.map
    go_wp2_with (first
      | (go_at_call 34
         refine (HNM.out _ (HSR.out.below HB0.out.drew) (HST.out.below HB0.out.drew)).mono ?_
         rintro er w2 ⟨rfl, hb2⟩
         have HB2 := Lib.hid (HB0.out.drew.trans (hb2.mono HB0.out.drew.size))
         have hlook := (HT.out.below HB2.out).look nm HNL.out
         rw [hTn] at hlook
         have f12 := (HSR.out.box.below HB2.out HSR.out.box.lt).cell (i := 12) rfl
         obtain ⟨w3, hput, ht3, hg3⟩ := (HT.out.below HB2.out).put nm HNL.out (by have := HN.out; have := HSUM.out; omega)
         have HT3 := Lib.hid ht3
         have HG3 := Lib.hid hg3
         have HM2 := Lib.hid (HT.out.below HB2.out).map
         have HSR3 := Lib.hid ((HSR.out.below HB2.out).keptM HM2.out hg3)
         have HST3 := Lib.hid ((HST.out.below HB2.out).keptM HM2.out hg3)
         have HS2 := Lib.hid ((HS0.out.drew.below hb2 HS0.out.drew.lt).keptM HM2.out hg3)
         clear y0 y1 y2
         have y0 := HS2.out.cell (i := 0) rfl
         have y1 := HS2.out.cell (i := 1) rfl
         have y2 := HS2.out.cell (i := 2) rfl
         clear hb2 ht3 hg3)
      | (go_at_call 36
         refine (HWY.out _ HSR3.out HST3.out).mono ?_
         rintro er w4 ⟨A4, c4, S4, rfl, hl4, hr4, hs4, hb4⟩
         have HL4 := Lib.hid hl4
         have HR4 := Lib.hid hr4
         have HS4 := Lib.hid hs4
         have HB4 := Lib.hid hb4
         clear hl4 hr4 hs4 hb4)
      | (go_at_call 35
         refine (ContainsSt_any c gF NA nc mb NS PS A4 c4 S4 R w4 (n + 1) (leftM PS p - 1) _ (HSR3.out.below HB4.out) HL4.out HWL.out HR4.out HS4.out (HT3.out.below HB4.out) (fun q hq => ⟨(HWW.out q hq).2.1, Nat.le_sub_one_of_lt (HWW.out q hq).2.2⟩) (HTR3.out HTN.out) HN3.out).mono ?_
         rintro er w5 ⟨r, T5, rfl, hr5, ht5, hob5, hg5⟩
         have HR5 := Lib.hid hr5
         have HT5 := Lib.hid ht5
         have HOB5 := Lib.hid hob5
         have HG5 := Lib.hid hg5
         clear hr5 ht5 hob5 hg5)
      | fail)
    go_ret
    refine ⟨r, T5, rfl, HR5.out.trans HEX.out.symm, HT5.out.mono (by have := HSUM.out; omega), fun hr q h1 h2 h3 => ?_, (((grown_below HB2.out).trans HG3.out).trans (grown_below HB4.out)).trans HG5.out⟩
    rcases HOB5.out hr q h1 h2 h3 with h4 | h4
    · by_cases e : stateNameS q = nm
      · right
        rw [HSM.out q h1 h2 e]
        intro he
        have := (HR5.out.trans HEX.out.symm).2 he
        rw [hr] at this
        cases this
      · left
        simpa [e] using h4
    · exact .inr h4
  · go_enter Tryz.func16, Tryz.ntmps16
    go_upto_region 1 with fail
    generalize (w.alloc (.cells #[.int .i64 (p.at_ : Int), .slice RA rn rc, .slice LA ln lc] 57)) = W0 at *
    have y0 := HS0.out.cell (i := 0) rfl
    have y1 := HS0.out.cell (i := 1) rfl
    have y2 := HS0.out.cell (i := 2) rfl
    have f11 := HF0.out.cell (i := 11) rfl
    go_region_held3 (fun w' => w'.cell? ⟨w.heap.size, 0, none⟩ = some (.int .i64 p.at_) ∧ w'.cell? ⟨gF, 11, none⟩ = some (.slice NA nn nc)) (go_keep) (fail)
    go_wp2_with (first
      | (go_at_call 34
         refine (HNM.out _ (HSR.out.below HB0.out.drew) (HST.out.below HB0.out.drew)).mono ?_
         rintro er w2 ⟨rfl, hb2⟩
         have HB2 := Lib.hid (HB0.out.drew.trans (hb2.mono HB0.out.drew.size))
         have hlook := (HT.out.below HB2.out).look nm HNL.out
         rw [hTn] at hlook
         have f12 := (HSR.out.box.below HB2.out HSR.out.box.lt).cell (i := 12) rfl
         clear hb2)
      | fail)
    go_ret
    refine ⟨false, T, rfl, ⟨fun h => absurd h (by decide), fun he => ?_⟩, (HT.out.below HB2.out).mono (Nat.le_add_right _ _), fun _ => OnlyBad.refl _ _ _, grown_below HB2.out⟩
    rcases HTR.out p HSO.out HNON.out (by rw [HNAME.out]; exact hTn) with h | h
    · exact absurd he h
    · omega

end Go.Proofs.YtieglgahfeecbaaGreatDoor

namespace Go.Proofs.YtieglgahfeecbaaGreatDoor
open Go.RowKit Go.Sort Go.Maps

theorem from_any (c : Cfg) (gF : Nat) (NA : Option Addr) (nc mb : Nat) (NS : List Nte) (PS : List NtP) (hok : ObjOk c) (hthr : ThrOk c NS) (h6 : c.threads ≤ 6) (hn60 : NS.length ≤ 60) :
    ∀ (m : Nat) (p : StP), leftM PS p ≤ m → StOk c PS p → FromOk c gF NA nc mb NS PS p := by
  intro m
  induction m with
  | zero =>
    intro p hm hso
    by_cases hat : p.at_ = PS.length
    · exact from_done c gF NA nc mb NS PS p hat
    · have := hso.at_
      unfold leftM at hm
      omega
  | succ m ih =>
    intro p hm hso
    by_cases hat : p.at_ = PS.length
    · exact from_done c gF NA nc mb NS PS p hat
    · exact from_ways c gF NA nc mb NS PS p hok hthr h6 hn60 hso (by have := hso.at_; omega) (fun q h1 h2 => ih q (by omega) h1)

end Go.Proofs.YtieglgahfeecbaaGreatDoor

namespace Go.Proofs.YtieglgahfeecbaaGreatDoor
open Go.RowKit Go.Sort

theorem knowK_len {th : Nat} {ns : List NtP} : ∀ (k : Nat) (K : List KnP), knowK th ns k = some K → K.length = th
  | 0, K, h => by
    simp only [knowK, Option.some.injEq] at h
    rw [← h]; simp
  | k + 1, K, h => by
    rw [knowK] at h
    cases h2 : knowK th ns k with
    | none => rw [h2] at h; cases h
    | some K2 =>
      rw [h2] at h
      simp only at h
      split at h
      · injection h with h
        rw [← h]
        have := knowK_len k K2 h2
        simp [nextK, this]
      · cases h
theorem know_all {th : Nat} {ns : List NtP} {K : List KnP} (h : knowK th ns ns.length = some K) {k : Nat} (hk : k < ns.length) : ∃ K', K'.length = th ∧ noteOk K' (ns.getD k NtP.none) = true := by
  obtain ⟨K1, h1⟩ := knowK_some (threads := th) (ns := ns) (ns.length - k) k K (by rw [show k + (ns.length - k) = ns.length by omega]; exact h)
  obtain ⟨K2, h2⟩ := knowK_some (threads := th) (ns := ns) (ns.length - (k + 1)) (k + 1) K (by rw [show k + 1 + (ns.length - (k + 1)) = ns.length by omega]; exact h)
  exact ⟨K1, knowK_len k K1 h1, (know_step h1 ⟨K2, h2⟩).1⟩
theorem check_at {c : Cfg} {ns : List NtP} (h : checkS c ns = 0) {k : Nat} (hk : k < ns.length) : 0 ≤ (ns.getD k NtP.none).thread ∧ (ns.getD k NtP.none).thread < c.threads ∧ ((ns.getD k NtP.none).kind = 1 → (ns.getD k NtP.none).req.cs.length ≤ 3) := by
  obtain ⟨h1, ⟨K, h2⟩, _⟩ := checkS_ok h
  obtain ⟨K', h3, h4⟩ := know_all h2 hk
  simp only [noteOk, Bool.and_eq_true, decide_eq_true_eq] at h4
  obtain ⟨⟨h5, _⟩, h6⟩ := h4
  have hb := chk_kind h1
  unfold inL at h5
  refine ⟨by omega, by omega, fun h7 => ?_⟩
  unfold followsB at h6
  rw [if_pos h7] at h6
  simp only [Bool.and_eq_true, fitsQ, decide_eq_true_eq] at h6
  exact h6.2.1.2
theorem NtsIn.at_ {w : World} {NA : Option Addr} {NS : List Nte} {PS : List NtP} (h : NtsIn w NA NS PS) {c : Cfg} (hc : checkS c PS = 0) : NtsAt w NA NS PS :=
  ⟨h.rd, h.len, h.few, fun k hk => by
    obtain ⟨cs, h1, h2⟩ := h.is_ k hk
    refine ⟨cs, h1, fun h3 => ?_, h2⟩
    have h4 := (check_at hc (k := k) (by rw [h.len]; exact hk)).2.2
    rw [h2] at h4
    have h5 : cs.length ≤ 3 := h4 h3
    omega⟩
theorem NtsIn.thr {w : World} {NA : Option Addr} {NS : List Nte} {PS : List NtP} (h : NtsIn w NA NS PS) {c : Cfg} (hc : checkS c PS = 0) : ThrOk c NS := fun k hk => by
  obtain ⟨cs, h1, h2⟩ := h.is_ k hk
  have h4 := check_at hc (k := k) (by rw [h.len]; exact hk)
  rw [h2] at h4
  exact ⟨h4.1, h4.2.1⟩
/-- The state that a search begins with. -/
def stS (c : Cfg) : StP := ⟨0, startO c, List.replicate c.threads.toNat OpP.none⟩
theorem nN_start {c : Cfg} {PS : List NtP} (h60 : PS.length ≤ 60) (hc : checkS c PS = 0) : nN PS (stS c) < maxLen := by
  obtain ⟨_, _, h8⟩ := checkS_ok hc
  have h1 : fLeft PS (stS c) ≤ 8 := by
    unfold fLeft stS
    simp only
    have : (List.replicate c.threads.toNat OpP.none).countP pendB = 0 := by
      rw [List.countP_eq_zero]
      intro x hx
      rw [(List.mem_replicate.1 hx).2]
      decide
    rw [this]
    have : callsK PS 0 = 0 := rfl
    omega
  have h2 : ∀ d a f, a + d ≤ 60 → namesN a f ≤ namesN (a + d) f := by
    intro d
    induction d with
    | zero => intro a f _; exact Nat.le_refl _
    | succ d ih =>
      intro a f h
      have h3 := ih a f (by omega)
      have h4 := namesN_step (a := a + d) (f := f) (by omega)
      rw [show a + (d + 1) = a + d + 1 by omega]
      omega
  have h3 := h2 (60 - PS.length) PS.length (fLeft PS (stS c)) (by omega)
  rw [show PS.length + (60 - PS.length) = 60 by omega] at h3
  have h4 := namesN_le (a := 60) (Nat.le_refl _) h1
  have h5 := namesN_top
  have e : nN PS (stS c) = namesN PS.length (fLeft PS (stS c)) := by unfold nN stS; rfl
  rw [e]
  unfold maxLen
  omega
theorem checkS_in (c : Cfg) (PS : List NtP) : checkS c PS = 0 ∨ checkS c PS = 1 ∨ checkS c PS = 3 ∨ checkS c PS = 4 := by
  unfold checkS
  split
  · simp
  · split
    · simp
    · split <;> simp
theorem StAt_start {c : Cfg} {w : World} {A LA : Option Addr} {n c0 t lc : Nat} (ht : c.threads = (t : Int)) (hn : (startO c).length = n) (hn1 : n ≤ 1048576) (hc0 : n ≤ c0) (ht1 : t ≤ 4096) (hrd : Rd w A (words (startO c))) (hbig : ∀ x ∈ startO c, 0 ≤ x ∧ x < 18446744073709551616) (hl : Rd w LA (rows (List.replicate t Opr.none))) :
    StAt w ⟨0, A, n, c0, LA, t, lc⟩ (stS c) := by
  refine ⟨rfl, hn, hc0, hn1, hrd, hbig, ?_, ht1, List.replicate t Opr.none, by simp, hl, fun k hk => ?_⟩
  · show (List.replicate c.threads.toNat OpP.none).length = t
    rw [List.length_replicate, ht]; simp
  · have e1 : (List.replicate t Opr.none).getD k Opr.none = Opr.none := by
      simp only [List.getD_eq_getElem?_getD, List.getElem?_replicate]; split <;> rfl
    have e2 : (stS c).l.getD k OpP.none = OpP.none := by
      show (List.replicate c.threads.toNat OpP.none).getD k OpP.none = _
      simp only [List.getD_eq_getElem?_getD, List.getElem?_replicate]; split <;> rfl
    rw [e1, e2]
    exact oprIs_none w 0

end Go.Proofs.YtieglgahfeecbaaGreatDoor

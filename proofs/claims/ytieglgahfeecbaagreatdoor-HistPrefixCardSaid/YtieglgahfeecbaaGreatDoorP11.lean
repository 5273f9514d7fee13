/- hist: Legal, walked. -/
import Derived.Test.YtieglgahfeecbaaGreatDoorP7
import Derived.Test.YtieglgahfeecbaaGreatDoorP10
set_option maxHeartbeats 64000000
set_option maxRecDepth 100000
namespace Go.Proofs.YtieglgahfeecbaaGreatDoor
open Go.RowKit Go.Sort
attribute [local go_sem ↓] Go.wp_at_zero Go.wp_at_succ
def scanR : Nat -> List Nat -> List Nat
 | _, [] => []
 | r, x :: l => (1 + r + 6 * x) :: scanR (1 + r + 6 * x) l
def rowN : Nat -> List Nat
 | 0 => List.range 61
 | f + 1 => 0 :: scanR 0 ((rowN f).drop 1)
def namesN (a f : Nat) : Nat := (rowN f).getD a 0
theorem scanR_len : ∀ (l : List Nat) (r : Nat), (scanR r l).length = l.length
 | [], _ => rfl
 | _ :: l, _ => by simp [scanR, scanR_len l]
theorem scanR_at : ∀ (l : List Nat) (r i : Nat), i < l.length -> (scanR r l).getD i 0 = 1 + (r :: scanR r l).getD i 0 + 6 * l.getD i 0
 | [], _, _, h => by simp at h
 | x :: l, r, 0, _ => by simp [scanR]
 | x :: l, r, i + 1, h => by
   have := scanR_at l (1 + r + 6 * x) i (by simpa using h)
   simp only [scanR, List.getD_cons_succ] at this ⊢
   exact this
theorem rowN_len : ∀ f, (rowN f).length = 61
 | 0 => by simp [rowN]
 | f + 1 => by simp [rowN, scanR_len, rowN_len f]
theorem namesN_0 (f : Nat) : namesN 0 f = 0 := by
 cases f
 . rfl
 . rfl
theorem namesN_a0 {a : Nat} (h : a < 61) : namesN a 0 = a := by
 unfold namesN rowN
 simp [List.getD_eq_getElem?_getD, h]
theorem namesN_succ {a f : Nat} (h : a < 60) : namesN (a + 1) (f + 1) = 1 + namesN a (f + 1) + 6 * namesN (a + 1) f := by
 have hl := rowN_len f
 have e := scanR_at ((rowN f).drop 1) 0 a (by simp [hl]; omega)
 unfold namesN
 rw [show rowN (f + 1) = 0 :: scanR 0 ((rowN f).drop 1) from rfl, List.getD_cons_succ, e]
 simp [List.getD_eq_getElem?_getD, Nat.add_comm]
theorem namesN_mono {a : Nat} (ha : a <= 60) : ∀ f, namesN a f <= namesN a (f + 1) := by
 induction a with
 | zero => intro f; rw [namesN_0, namesN_0]; exact Nat.le_refl _
 | succ a ih =>
   intro f
   rw [namesN_succ (by omega)]
   omega
theorem namesN_le {a : Nat} (ha : a <= 60) {f f' : Nat} (h : f <= f') : namesN a f <= namesN a f' := by
 obtain ⟨d, rfl⟩ := Nat.exists_eq_add_of_le h
 clear h
 induction d with
 | zero => exact Nat.le_refl _
 | succ d ih => exact Nat.le_trans ih (namesN_mono ha _)
theorem namesN_top : namesN 60 8 < 9223372036854775807 := by decide +kernel
theorem namesN_step {a f : Nat} (h : a < 60) : 1 + namesN a f <= namesN (a + 1) f := by
 cases f with
 | zero => rw [namesN_a0 (by omega), namesN_a0 (by omega)]; omega
 | succ f => rw [namesN_succ h]; omega
def nN (ns : List NtP) (p : StP) : Nat := namesN (ns.length - p.at_) (fLeft ns p)
theorem sum_le {α : Type} (g : α -> Nat) (B : Nat) : ∀ l : List α, (∀ q ∈ l, g q <= B) -> (l.map g).sum <= l.length * B
 | [], _ => by simp
 | x :: l, h => by
   have h1 := h x (List.mem_cons_self ..)
   have h2 := sum_le g B l (fun q hq => h q (List.mem_cons_of_mem _ hq))
   rw [List.map_cons, List.sum_cons, List.length_cons, Nat.succ_mul]
   omega
theorem ways_sum {c : Cfg} {ns : List NtP} {p : StP} (hn : ns.length <= 60) (hat : p.at_ < ns.length) (ht : (ns.getD p.at_ NtP.none).thread.toNat < p.l.length) (hl : p.l.length <= 6) :
  ((waysS c ns p).map (nN ns)).sum + 1 <= nN ns p := by
 obtain ⟨a, ha⟩ : ∃ a, ns.length - p.at_ = a + 1 := ⟨ns.length - p.at_ - 1, by omega⟩
 have hw := fun s' hm => ways_left (c := c) (s' := s') hat ht hm
 have hnp : nN ns p = namesN (a + 1) (fLeft ns p) := by unfold nN; rw [ha]
 have hnext : ∀ s', s' ∈ waysS c ns p -> s'.at_ = p.at_ + 1 -> nN ns s' <= namesN a (fLeft ns p) := by
  intro s' hm he
  rcases hw s' hm with ⟨_, h2⟩ | ⟨h1, _⟩
  . unfold nN
    rw [he, show ns.length - (p.at_ + 1) = a by omega]
    exact namesN_le (by omega) h2
  . omega
 have hstep := namesN_step (a := a) (f := fLeft ns p) (by omega)
 rw [hnp]
 have heff : ∀ s', s' ∈ effK c p p.l.length -> s' ∈ waysS c ns p -> nN ns s' <= namesN (a + 1) (fLeft ns p - 1) /\ 1 <= fLeft ns p := by
  intro s' he hm
  obtain ⟨k, _, _, _, _, hs⟩ := effK_memB he
  have hsa : s'.at_ = p.at_ := by rw [hs]
  rcases hw s' hm with ⟨h1, _⟩ | ⟨_, h2⟩
  . omega
  . refine ⟨?_, by omega⟩
    unfold nN
    rw [hsa, ha]
    exact namesN_le (by omega) (by omega)
 clear hw hnp
 unfold waysS at hnext heff ⊢
 simp only at hnext heff ⊢
 generalize (ns.getD p.at_ NtP.none).thread.toNat = t at *
 by_cases k1 : (ns.getD p.at_ NtP.none).kind = 1
 . simp only [if_pos k1] at hnext heff ⊢
   have := hnext _ (List.mem_cons_self ..) rfl
   simp only [List.map_cons, List.map_nil, List.sum_cons, List.sum_nil]
   omega
 . simp only [if_neg k1] at hnext heff ⊢
   by_cases k2 : (p.l.getD t OpP.none).applied = true /\ tellsB c p.rec_ (ns.getD p.at_ NtP.none) = true
   . simp only [if_pos k2] at hnext heff ⊢
     have := hnext _ (List.mem_cons_self ..) rfl
     simp only [List.map_cons, List.map_nil, List.sum_cons, List.sum_nil]
     omega
   . simp only [if_neg k2] at hnext heff ⊢
     rw [List.map_append, List.sum_append]
     have hP : ∀ P : List StP, P.length <= 1 -> (∀ q ∈ P, q.at_ = p.at_ + 1 /\ q ∈ P) -> (∀ q ∈ P, nN ns q <= namesN a (fLeft ns p)) -> (P.map (nN ns)).sum <= namesN a (fLeft ns p) := by
      intro P hl _ h
      have h1 := sum_le (nN ns) _ P h
      have : P.length * namesN a (fLeft ns p) <= 1 * namesN a (fLeft ns p) := Nat.mul_le_mul_right _ hl
      omega
     have hP2 := hP (if noneB (ns.getD p.at_ NtP.none) = true /\ (p.l.getD t OpP.none).applied = false then [⟨p.at_ + 1, p.rec_, p.l.set t ⟨false, false, (p.l.getD t OpP.none).seq, ReqP.none⟩⟩] else []) (by split <;> simp) (by
      intro q hq
      refine ⟨?_, hq⟩
      split at hq
      . simp only [List.mem_cons, List.not_mem_nil, or_false] at hq; rw [hq]
      . simp at hq) (fun q hq => hnext q (List.mem_append_left _ hq) (by
      split at hq
      . simp only [List.mem_cons, List.not_mem_nil, or_false] at hq; rw [hq]
      . simp at hq))
     have hE := sum_le (nN ns) (namesN (a + 1) (fLeft ns p - 1)) (effK c p p.l.length) (fun q hq => (heff q hq (List.mem_append_right _ hq)).1)
     have hel := effK_len c p p.l.length
     have h6 : (effK c p p.l.length).length * namesN (a + 1) (fLeft ns p - 1) <= 6 * namesN (a + 1) (fLeft ns p - 1) := Nat.mul_le_mul_right _ (by omega)
     by_cases hz : effK c p p.l.length = []
     . rw [hz]
       simp only [List.map_nil, List.sum_nil]
       omega
     . obtain ⟨q, hq⟩ := List.exists_mem_of_ne_nil _ hz
       have h1 := (heff q hq (List.mem_append_right _ hq)).2
       obtain ⟨f, hf⟩ : ∃ f, fLeft ns p = f + 1 := ⟨fLeft ns p - 1, by omega⟩
       rw [hf] at hE h6 hP2 ⊢
       rw [namesN_succ (by omega)]
       simp only [Nat.add_sub_cancel] at hE h6
       omega
section
open Go.RowKit Go.Sort Go.Maps
attribute [local go_sem ↓] Go.wp_at_zero Go.wp_at_succ
structure SrAt (c : Cfg) (gF : Nat) (NA : Option Addr) (nc mb : Nat) (NS : List Nte) (PS : List NtP) (w : World) : Prop where
 cfg : CfgIn w c
 box : Blk w gF 51 (srchCells c NA NS.length nc mb)
 nts : NtsAt w NA NS PS
 tz : Tz16 w
theorem SrAt.below {c : Cfg} {gF : Nat} {NA : Option Addr} {nc mb : Nat} {NS : List Nte} {PS : List NtP} {w w' : World} (h : SrAt c gF NA nc mb NS PS w) (hb : Below w.heap.size w w') : SrAt c gF NA nc mb NS PS w' :=
 ⟨h.cfg.below hb, h.box.below hb h.box.lt, h.nts.below hb, h.tz.below hb⟩
theorem SrAt.keptM {c : Cfg} {gF : Nat} {NA : Option Addr} {nc mb : Nat} {NS : List Nte} {PS : List NtP} {w w' : World} (h : SrAt c gF NA nc mb NS PS w) (hm : MapB w mb) (hg : w.grownBy w' (some mb)) : SrAt c gF NA nc mb NS PS w' :=
 ⟨h.cfg.keptM hm hg, h.box.keptM hm hg, h.nts.keptM hm hg, h.tz.keptM hm hg⟩
def TrAt (w : World) (mb n : Nat) (T : List UInt8 -> Bool) : Prop := ∃ D : DataW Unit, w.ownsMap Tryz.prog 9 (plainElem Tryz.prog 4) mb n D /\ NamesIs D T
theorem TrAt.map {w : World} {mb n : Nat} {T : List UInt8 -> Bool} (h : TrAt w mb n T) : MapB w mb := by
 obtain ⟨D, ⟨es, clock, hb, _⟩, _⟩ := h
 exact ⟨es, clock, hb⟩
theorem TrAt.mono {w : World} {mb n n' : Nat} {T : List UInt8 -> Bool} (h : TrAt w mb n T) (hn : n <= n') : TrAt w mb n' T := by
 obtain ⟨D, h1, h2⟩ := h
 exact ⟨D, h1.mono hn, h2⟩
theorem grown_below {w w' : World} {row : Option Nat} (hb : Below w.heap.size w w') : w.grownBy w' row := ⟨hb.os, hb.tape, hb.output, hb.size, fun k hk _ => hb.block k hk⟩
theorem TrAt.below {w w' : World} {mb n : Nat} {T : List UInt8 -> Bool} (h : TrAt w mb n T) (hb : Below w.heap.size w w') : TrAt w' mb n T := by
 obtain ⟨D, h1, h2⟩ := h
 exact ⟨D, h1.kept (grown_below (row := none) hb) (by simp), h2⟩
def OnlyBad (c : Cfg) (PS : List NtP) (T T' : List UInt8 -> Bool) : Prop := ∀ q, StOk c PS q -> (∀ x ∈ q.rec_, 0 <= x) -> T' (stateNameS q) = true -> T (stateNameS q) = true ∨ ¬ Expl c PS q
theorem OnlyBad.refl (c : Cfg) (PS : List NtP) (T : List UInt8 -> Bool) : OnlyBad c PS T T := fun _ _ _ h => .inl h
theorem OnlyBad.trans {c : Cfg} {PS : List NtP} {T T' T'' : List UInt8 -> Bool} (h : OnlyBad c PS T T') (h' : OnlyBad c PS T' T'') : OnlyBad c PS T T'' := fun q h1 h2 h3 => by
 rcases h' q h1 h2 h3 with h4 | h4
 . exact h q h1 h2 h4
 . exact .inr h4
def FromPost (c : Cfg) (PS : List NtP) (mb n : Nat) (T : List UInt8 -> Bool) (p : StP) (w : World) (e : Ending) (w' : World) : Prop :=
 ∃ (r : Bool) (T' : List UInt8 -> Bool), e = .returned (.bool r) /\ (r = true ↔ Expl c PS p) /\ TrAt w' mb (n + nN PS p) T' /\ (r = false -> OnlyBad c PS T T') /\ w.grownBy w' (some mb)
def leftM (PS : List NtP) (p : StP) : Nat := (PS.length - p.at_) + fLeft PS p
def Tried (c : Cfg) (PS : List NtP) (T : List UInt8 -> Bool) (m : Nat) : Prop := ∀ q, StOk c PS q -> (∀ x ∈ q.rec_, 0 <= x) -> T (stateNameS q) = true -> ¬ Expl c PS q ∨ m < leftM PS q
theorem Tried.bad {c : Cfg} {PS : List NtP} {T T' : List UInt8 -> Bool} {m : Nat} (h : Tried c PS T m) (hb : OnlyBad c PS T T') : Tried c PS T' m := fun q h1 h2 h3 => by
 rcases hb q h1 h2 h3 with h4 | h4
 . exact h q h1 h2 h4
 . exact .inl h4
theorem Tried.mono {c : Cfg} {PS : List NtP} {T : List UInt8 -> Bool} {m m' : Nat} (h : Tried c PS T m) (hm : m' <= m) : Tried c PS T m' := fun q h1 h2 h3 => (h q h1 h2 h3).imp id (fun h4 => by omega)
def FromOk (c : Cfg) (gF : Nat) (NA : Option Addr) (nc mb : Nat) (NS : List Nte) (PS : List NtP) (p : StP) : Prop :=
 ∀ (s : Str) (w : World) (n : Nat) (T : List UInt8 -> Bool), SrAt c gF NA nc mb NS PS w -> StAt w s p -> TrAt w mb n T -> Tried c PS T (leftM PS p) -> n + nN PS p < maxLen ->
  Calls Tryz.prog 16 #[.pointer (some ⟨gF, 0, none⟩), strV s] w (FromPost c PS mb n T p w)
theorem str_cells {w : World} {b o : Nat} {l : List Str} (hc : ∀ k v, (rows l)[k]? = some v -> w.cell? ⟨b, o + k, none⟩ = some v) {k : Nat} (hk : k < l.length) {x : Str} (hx : l.getD k Str.none = x) :
  w.cell? ⟨b, o + k * 3, none⟩ = some (.int .i64 x.at_) /\ w.cell? ⟨b, o + k * 3 + 1, none⟩ = some (.slice x.RA x.rn x.rc) /\ w.cell? ⟨b, o + k * 3 + 2, none⟩ = some (.slice x.LA x.ln x.lc) := by
 have h := rec_cell hc hk hx
 exact ⟨h 0 _ rfl, h 1 _ rfl, h 2 _ rfl⟩
end
section
open Go.RowKit Go.Sort Go.Maps
attribute [local go_sem ↓] Go.wp_at_zero Go.wp_at_succ
theorem sum_take {α : Type} (g : α -> Nat) (d : α) : ∀ (l : List α) (k : Nat), k < l.length -> ((l.take (k + 1)).map g).sum = ((l.take k).map g).sum + g (l.getD k d)
 | [], _, h => by simp at h
 | x :: l, 0, _ => by simp
 | x :: l, k + 1, h => by
   have := sum_take g d l k (by simpa using h)
   simp only [List.take_succ_cons, List.map_cons, List.sum_cons, List.getD_cons_succ] at this ⊢
   omega
theorem sum_take_le {α : Type} (g : α -> Nat) : ∀ (l : List α) (k : Nat), ((l.take k).map g).sum <= (l.map g).sum
 | [], _ => by simp
 | x :: l, 0 => by simp
 | x :: l, k + 1 => by
   have := sum_take_le g l k
   simp only [List.take_succ_cons, List.map_cons, List.sum_cons]
   omega
theorem IndexSt_any (c : Cfg) (gF : Nat) (NA : Option Addr) (nc mb : Nat) (NS : List Nte) (PS : List NtP) (A : Option Addr) (cp : Nat) (S : List Str) (ps : List StP) (w : World) (n m : Nat) (T : List UInt8 -> Bool)
  (hsr : SrAt c gF NA nc mb NS PS w) (hl : S.length = ps.length) (h4 : ps.length <= 4096) (hR : Rd w A (rows S)) (hS : ∀ k, k < ps.length -> StAt w (S.getD k Str.none) (ps.getD k ⟨0, [], []⟩)) (hT : TrAt w mb n T)
  (hok : ∀ q ∈ ps, FromOk c gF NA nc mb NS PS q /\ leftM PS q <= m) (htr : Tried c PS T m) (hn : n + (ps.map (nN PS)).sum < maxLen) :
  Calls Tryz.prog 68 #[.slice A S.length cp, .func (.func 16) #[.pointer (some ⟨gF, 0, none⟩)] #[]] w fun e w' =>
   ∃ (i : Int) (T' : List UInt8 -> Bool), e = .returned (.int .i64 i) /\ (0 <= i ↔ ∃ q ∈ ps, Expl c PS q) /\ TrAt w' mb (n + (ps.map (nN PS)).sum) T' /\ (i < 0 -> OnlyBad c PS T T') /\ w.grownBy w' (some mb) := by
 have HSR := Zd hsr
 have HR := Zd hR
 have HS := Zd hS
 have HT := Zd hT
 have HOK := Zd hok
 have HTR := Zd htr
 have HN := Zd hn
 clear hsr hR hS hT hok htr hn
 generalize hN : S.length = N at *
 have HL := Zd hl
 have HLS := Zd hN
 have hN4 : N <= 4096 := by omega
 clear hl hN
 go_enter Tryz.func68, Tryz.ntmps68
 go_wp2_with fail
 go_loopg [8] N (fun gg i wr => ∃ (k : Nat) (T1 : List UInt8 -> Bool), k <= N /\ gg = N - k /\ i = .int .i64 k /\ TrAt wr mb (n + ((ps.take k).map (nN PS)).sum) T1 /\ OnlyBad c PS T T1 /\ (∀ q ∈ ps.take k, ¬ Expl c PS q) /\ w.grownBy wr (some mb))
 case atStart => exact ⟨0, T, Nat.zero_le _, rfl, rfl, by simpa using HT.out, OnlyBad.refl _ _ _, by simp, grown_below (Below.refl _ _)⟩
 case round =>
  obtain ⟨k, T1, hk, hg, rfl, ht1, hob, hno, hgr⟩ := hrel
  have HG := Zd hg
  have HT1 := Zd ht1
  have HOB := Zd hob
  have HNO := Zd hno
  have HGR := Zd hgr
  clear hg ht1 hob hno hgr
  by_cases hlt : k < N
  . have hkp : k < ps.length := by rw [<- HL.out]; exact hlt
    have hmb := HT.out.map
    obtain ⟨b, o, hA, hbl, hc⟩ := (HR.out.keptM hmb HGR.out).at_ (by rw [rows_length, HLS.out]; simp only [Cellful.s]; omega)
    subst hA
    have hcc := str_cells (k := k) hc (by rw [HLS.out]; exact hlt) rfl
    have hst := (HS.out k hkp).keptM hmb HGR.out
    have hmem : ps.getD k ⟨0, [], []⟩ ∈ ps := getD_mem hkp
    have hsum := sum_take (nN PS) ⟨0, [], []⟩ ps k hkp
    have hsle := sum_take_le (nN PS) ps (k + 1)
    have htk : ∀ q, q ∈ ps.take (k + 1) -> q ∈ ps.take k ∨ q = ps.getD k ⟨0, [], []⟩ := fun q hq => by
     rw [List.take_succ_eq_append_getElem hkp] at hq
     rcases List.mem_append.1 hq with h | h
     . exact .inl h
     . simp only [List.mem_cons, List.not_mem_nil, or_false] at h
       right; rw [h]; simp [List.getD_eq_getElem?_getD, List.getElem?_eq_getElem hkp]
    have HTK := Zd htk
    generalize S.getD k Str.none = x at *
    generalize ps.getD k ⟨0, [], []⟩ = q at *
    have HF := Zd ((HOK.out q hmem).1 x wr _ T1 (HSR.out.keptM hmb HGR.out) hst HT1.out ((HTR.out.bad HOB.out).mono (HOK.out q hmem).2) (by have := HN.out; omega))
    have HMEM := Zd hmem
    have HSUM := Zd hsum
    have HSLE := Zd hsle
    clear hsum hsle htk hmem hst hkp hmb hc
    unfold strV at HF
    obtain ⟨x0, x1, x2⟩ := hcc
    have t0 : (0 : Int) <= (k : Int) := by omega
    have t1 : (k : Int) < (N : Int) := by omega
    go_wp2_with (first
     | (go_at_call 16
        refine HF.out.mono ?_
        rintro er w1 ⟨r, T2, rfl, hr, ht2, hob2, hg2⟩
        have HRE := Zd hr
        have HT2 := Zd ht2
        have HOB2 := Zd hob2
        have HG2 := Zd hg2
        clear hr ht2 hob2 hg2)
     | fail)
    . have hrt : r = true := by first | assumption | (simp_all; done)
      subst hrt
      go_ret
      refine ⟨k, T2, rfl, ⟨fun _ => ⟨q, HMEM.out, HRE.out.1 rfl⟩, fun _ => t0⟩, HT2.out.mono (by have := HSUM.out; have := HSLE.out; omega), fun h => absurd h (by omega), HGR.out.trans HG2.out⟩
    . have hrf : r = false := by first | assumption | (simp_all; done)
      subst hrf
      go_roundg (N - (k + 1))
      case measure => rw [HG.out]; omega
      case rel =>
       refine ⟨k + 1, T2, by omega, rfl, by go_num, ?_, HOB.out.trans (HOB2.out rfl), fun q' hq => ?_, HGR.out.trans HG2.out⟩
       . rw [HSUM.out, <- Nat.add_assoc]; exact HT2.out
       . rcases HTK.out q' hq with h | h
         . exact HNO.out q' h
         . rw [h]
           intro he
           have := HRE.out.2 he
           cases this
  . obtain rfl : k = N := by omega
    go_wp2_with fail
    go_ret
    have e : ps.take k = ps := List.take_of_length_le (by rw [<- HL.out]; exact Nat.le_refl _)
    have h1 := HT1.out
    have h2 := HNO.out
    rw [e] at h1 h2
    refine ⟨-1, T1, rfl, ⟨fun h => absurd h (by decide), fun ⟨q, hq, he⟩ => absurd he (h2 q hq)⟩, h1, fun _ => HOB.out, HGR.out⟩
end
section
open Go.RowKit Go.Sort Go.Maps
attribute [local go_sem ↓] Go.wp_at_zero Go.wp_at_succ
theorem ContainsSt_any (c : Cfg) (gF : Nat) (NA : Option Addr) (nc mb : Nat) (NS : List Nte) (PS : List NtP) (A : Option Addr) (cp : Nat) (S : List Str) (ps : List StP) (w : World) (n m : Nat) (T : List UInt8 -> Bool)
  (hsr : SrAt c gF NA nc mb NS PS w) (hl : S.length = ps.length) (h4 : ps.length <= 4096) (hR : Rd w A (rows S)) (hS : ∀ k, k < ps.length -> StAt w (S.getD k Str.none) (ps.getD k ⟨0, [], []⟩)) (hT : TrAt w mb n T)
  (hok : ∀ q ∈ ps, FromOk c gF NA nc mb NS PS q /\ leftM PS q <= m) (htr : Tried c PS T m) (hn : n + (ps.map (nN PS)).sum < maxLen) :
  Calls Tryz.prog 35 #[.slice A S.length cp, .func (.func 16) #[.pointer (some ⟨gF, 0, none⟩)] #[]] w fun e w' =>
   ∃ (r : Bool) (T' : List UInt8 -> Bool), e = .returned (.bool r) /\ (r = true ↔ ∃ q ∈ ps, Expl c PS q) /\ TrAt w' mb (n + (ps.map (nN PS)).sum) T' /\ (r = false -> OnlyBad c PS T T') /\ w.grownBy w' (some mb) := by
 have HI := Zd (IndexSt_any c gF NA nc mb NS PS A cp S ps w n m T hsr hl h4 hR hS hT hok htr hn)
 clear hsr hl h4 hR hS hT hok htr hn
 generalize S.length = N at *
 go_enter Tryz.func35, Tryz.ntmps35
 go_wp2_with (first
  | (go_at_call 68
     refine HI.out.mono ?_
     rintro er w1 ⟨i, T2, rfl, hr, ht2, hob2, hg2⟩
     have HRE := Zd hr
     have HT2 := Zd ht2
     have HOB2 := Zd hob2
     have HG2 := Zd hg2
     clear hr ht2 hob2 hg2)
  | fail)
 go_ret
 exact ⟨decide (0 <= i), T2, rfl, by rw [decide_eq_true_iff]; exact HRE.out, HT2.out, fun h => HOB2.out (by simpa using h), HG2.out⟩
def ThrOk (c : Cfg) (NS : List Nte) : Prop := ∀ k, k < NS.length -> 0 <= (NS.getD k Nte.none).thread /\ (NS.getD k Nte.none).thread < c.threads
theorem ways_less {c : Cfg} {PS : List NtP} {p q : StP} (hat : p.at_ < PS.length) (ht : (PS.getD p.at_ NtP.none).thread.toNat < p.l.length) (hm : q ∈ waysS c PS p) : leftM PS q < leftM PS p := by
 unfold leftM
 rcases ways_left hat ht hm with ⟨h1, h2⟩ | ⟨h1, h2⟩
 . rw [h1]; omega
 . rw [h1]; omega
theorem expl_ways {c : Cfg} {PS : List NtP} {p : StP} (hat : p.at_ < PS.length) : Expl c PS p ↔ ∃ q ∈ waysS c PS p, Expl c PS q := by
 constructor
 . rintro (h | ⟨s', _, hm, he⟩)
   . rename_i h0
     omega
   . exact ⟨_, by assumption, by assumption⟩
 . rintro ⟨q, hq, he⟩
   exact .way p q hat hq he
end
section
open Go.RowKit Go.Sort Go.Maps Go.WideMaps
attribute [local go_sem ↓] Go.wp_at_zero Go.wp_at_succ
theorem TrAt.look {w : World} {mb n : Nat} {T : List UInt8 -> Bool} (h : TrAt w mb n T) (s : List UInt8) (hs : s.length <= maxLen) : (Instr.lookup 49 (.map (some mb)) (.string ⟨s.toArray⟩) false).run Tryz.prog w = .ok (.bool (T s)) w := by
 obtain ⟨D, h1, h2⟩ := h
 obtain ⟨v, ps, hrun, hv⟩ := h1.lookup (string_keyed Tryz.underlying9) Tryz.underlying49 (z := .bool false) (by kernel_rfl) (plainElem_bool Tryz.underlying4 false) (key := .string ⟨s.toArray⟩) (kl := .string s) (keyOf_string_mk Tryz.underlying9 (by simpa [ByteArray.size] using hs))
 rw [h2.at_ s] at hv
 rw [hrun]
 have hv2 : v = .bool (T s) := by
  unfold plainElem at hv
  simp only [Tryz.underlying4] at hv
  cases v <;> simp at hv
  rw [hv.1]
 rw [hv2]
theorem TrAt.put {w : World} {mb n : Nat} {T : List UInt8 -> Bool} (h : TrAt w mb n T) (s : List UInt8) (hs : s.length <= maxLen) (hn : n < maxLen) :
  ∃ w', (Instr.mapUpdate 49 (.map (some mb)) (.string ⟨s.toArray⟩) (.bool true)).run Tryz.prog w = .ok () w' /\ TrAt w' mb (n + 1) (fun u => if u = s then true else T u) /\ w.grownBy w' (some mb) := by
 obtain ⟨D, h1, h2⟩ := h
 obtain ⟨w', hrun, ho, hg⟩ := h1.update (string_keyed Tryz.underlying9) Tryz.underlying49 hn (key := .string ⟨s.toArray⟩) (kl := .string s) (val := .bool true) (keyOf_string_mk Tryz.underlying9 (by simpa [ByteArray.size] using hs)) (plainElem_bool Tryz.underlying4 true)
 exact ⟨w', hrun, ⟨_, ho, h2.put s⟩, hg⟩
theorem from_done (c : Cfg) (gF : Nat) (NA : Option Addr) (nc mb : Nat) (NS : List Nte) (PS : List NtP) (p : StP) (hat : p.at_ = PS.length) : FromOk c gF NA nc mb NS PS p := by
 intro s w n T hsr hst hT htr hn
 have HS0 := Zd (Blk.new w 57 s.cells)
 have HB0 := Zd ((Below.refl w.heap.size w).alloc (Nat.le_refl _) (.cells #[.int .i64 s.at_, .slice s.RA s.rn s.rc, .slice s.LA s.ln s.lc] 57))
 have HT := Zd hT
 have HAT := Zd hat
 have HF0 := Zd (hsr.box.alloc (.cells #[.int .i64 s.at_, .slice s.RA s.rn s.rc, .slice s.LA s.ln s.lc] 57))
 have HPA := Zd (show s.at_ = (NS.length : Int) by rw [hst.at_, hat, hsr.nts.len])
 have hnf := hsr.nts.few
 clear hsr hst hT htr hn hat
 obtain ⟨at_, RA, rn, rc, LA, ln, lc⟩ := s
 simp only [Str.cells] at HS0 HB0 HF0 HPA
 obtain rfl := HPA.out
 clear HPA
 unfold strV
 simp only
 generalize hnn : NS.length = nn at *
 clear hnn
 go_enter Tryz.func16, Tryz.ntmps16
 go_upto_region 1 with fail
 generalize (w.alloc (.cells #[.int .i64 (nn : Int), .slice RA rn rc, .slice LA ln lc] 57)) = W0 at *
 have y0 := HS0.out.cell (i := 0) rfl
 have f11 := HF0.out.cell (i := 11) rfl
 go_region_held3 (fun w' => w'.cell? ⟨w.heap.size, 0, none⟩ = some (.int .i64 nn) /\ w'.cell? ⟨gF, 11, none⟩ = some (.slice NA nn nc)) (go_keep) (fail)
 go_wp2_with fail
 go_ret
 refine ⟨true, T, rfl, ⟨fun _ => .done p HAT.out, fun _ => rfl⟩, ?_, fun h => absurd h (by decide), ?_⟩
 . have h := (HT.out.below HB0.out.drew).mono (Nat.le_add_right n (nN PS p))
   exact h
 . exact grown_below HB0.out.drew
end
section
open Go.RowKit Go.Sort Go.Maps Go.WideMaps
attribute [local go_sem ↓] Go.wp_at_zero Go.wp_at_succ
theorem ways_len {c : Cfg} {ns : List NtP} {p : StP} : (waysS c ns p).length <= 1 + p.l.length := by
 have h := effK_len c p p.l.length
 unfold waysS
 simp only
 split
 . simp
 . split
   . simp
   . rw [List.length_append]
     split <;> simp <;> omega
theorem from_ways (c : Cfg) (gF : Nat) (NA : Option Addr) (nc mb : Nat) (NS : List Nte) (PS : List NtP) (p : StP) (hok : ObjOk c) (hthr : ThrOk c NS) (h6 : c.threads <= 6) (hn60 : NS.length <= 60)
  (hso : StOk c PS p) (hat : p.at_ < PS.length) (ih : ∀ q, StOk c PS q -> leftM PS q < leftM PS p -> FromOk c gF NA nc mb NS PS q) : FromOk c gF NA nc mb NS PS p := by
 intro s w n T hsr hst hT htr hn
 have hlen := hsr.nts.len
 have hatN : p.at_ < NS.length := by omega
 obtain ⟨cs, hcs, hcl, hps⟩ := hsr.nts.is_ p.at_ hatN
 obtain ⟨ht0, ht1⟩ := hthr p.at_ hatN
 have hpth : (PS.getD p.at_ NtP.none).thread = (NS.getD p.at_ Nte.none).thread := by rw [hps]; rfl
 have htl : (PS.getD p.at_ NtP.none).thread.toNat < p.l.length := by rw [hpth, hso.len]; omega
 obtain ⟨t, ht⟩ : ∃ t : Nat, (NS.getD p.at_ Nte.none).thread = t := ⟨_, (Int.toNat_of_nonneg ht0).symm⟩
 have htsl : t < s.ln := by rw [<- hst.ln, hso.len]; omega
 have hsum := ways_sum (c := c) (ns := PS) (p := p) (by omega) hat htl (by rw [hso.len]; omega)
 have hnl : (stateNameS p).length <= maxLen := by
  have h1 := nameL_len p (by omega) hst.big p.l.length (Nat.le_refl _)
  have h2 := hst.rb
  rw [hst.rn] at h1
  have h3 := hso.len
  unfold stateNameS maxLen
  omega
 have hww : ∀ q ∈ waysS c PS p, StOk c PS q /\ FromOk c gF NA nc mb NS PS q /\ leftM PS q < leftM PS p := fun q hq => by
  have h1 := hso.ways hat htl hq
  have h2 := ways_less hat htl hq
  exact ⟨h1, ih q h1 h2, h2⟩
 have HEX := Zd (expl_ways (c := c) hat)
 have hnon : ∀ x ∈ p.rec_, 0 <= x := fun x hx => (hst.big x hx).1
 have HSM := Zd (fun q (h1 : StOk c PS q) (h2 : ∀ x ∈ q.rec_, 0 <= x) (h3 : stateNameS q = stateNameS p) => StOk.same h1 hso h2 hnon h3)
 have HWL := Zd (show (waysS c PS p).length <= 4096 by have := ways_len (c := c) (ns := PS) (p := p); rw [hso.len] at this; omega)
 have HSR := Zd hsr
 have HST := Zd hst
 have HT := Zd hT
 have HTR := Zd htr
 have HN := Zd hn
 have HSO := Zd hso
 have HNON := Zd hnon
 have HSUM := Zd hsum
 have HWW := Zd hww
 have HNL := Zd hnl
 have HL1 : Hid (1 <= leftM PS p) := Zd (by unfold leftM; omega)
 have HWY := Zd (fun W (h1 : SrAt c gF NA nc mb NS PS W) (h2 : StAt W s p) => hWays_any c gF NA nc mb NS PS s p t W hok h1.cfg h1.box h1.nts h2 hatN ht htsl)
 have HNM := Zd (fun W (h1 : SrAt c gF NA nc mb NS PS W) (h2 : StAt W s p) => hName_any s p W h2 h1.tz (by have := h1.nts.few; omega))
 have HS0 := Zd (Blk.new w 57 s.cells)
 have HB0 := Zd ((Below.refl w.heap.size w).alloc (Nat.le_refl _) (.cells #[.int .i64 s.at_, .slice s.RA s.rn s.rc, .slice s.LA s.ln s.lc] 57))
 have HF0 := Zd (hsr.box.alloc (.cells #[.int .i64 s.at_, .slice s.RA s.rn s.rc, .slice s.LA s.ln s.lc] 57))
 have HPA := Zd hst.at_
 clear hcs hcl hps hpth ht0 ht1 htl hsum hww hnl hnon hsr hst hT htr hn hso ih hthr hok ht htsl
 obtain ⟨at_, RA, rn, rc, LA, ln, lc⟩ := s
 simp only [Str.cells] at HS0 HB0 HF0 HPA
 obtain rfl := HPA.out
 clear HPA
 unfold strV at HWY HNM ⊢
 simp only at HWY HNM ⊢
 have hne : ((p.at_ : Int) == (NS.length : Int)) = false := by simp; omega
 generalize hnn : NS.length = nn at *
 have HNN := Zd hnn
 clear hnn hlen h6 hn60
 generalize hR : waysS c PS p = R at *
 have HR := Zd hR
 clear hR
 generalize hnm : stateNameS p = nm at *
 have HNAME := Zd hnm
 clear hnm
 have HTR3 : Hid (T nm = false -> Tried c PS (fun u => if u = nm then true else T u) (leftM PS p - 1)) := Zd (fun hf q h1 h2 h3 => by
  by_cases e : stateNameS q = nm
  . right
    rw [HSM.out q h1 h2 e]
    have := HL1.out
    omega
  . simp only [if_neg e] at h3
    rcases HTR.out q h1 h2 h3 with h | h
    . exact .inl h
    . right; omega)
 have HN3 : Hid (n + 1 + (R.map (nN PS)).sum < maxLen) := Zd (by have := HN.out; have := HSUM.out; omega)
 cases hTn : T nm
 . have HTN := Zd hTn
   go_enter Tryz.func16, Tryz.ntmps16
   go_upto_region 1 with fail
   generalize (w.alloc (.cells #[.int .i64 (p.at_ : Int), .slice RA rn rc, .slice LA ln lc] 57)) = W0 at *
   have y0 := HS0.out.cell (i := 0) rfl
   have y1 := HS0.out.cell (i := 1) rfl
   have y2 := HS0.out.cell (i := 2) rfl
   have f11 := HF0.out.cell (i := 11) rfl
   go_region_held3 (fun w' => w'.cell? ⟨w.heap.size, 0, none⟩ = some (.int .i64 p.at_) /\ w'.cell? ⟨gF, 11, none⟩ = some (.slice NA nn nc)) (go_keep) (fail)
   have HMB := Zd HT.out.map
   go_wp2_with (first
    | (go_at_call 34
       refine (HNM.out _ (HSR.out.below HB0.out.drew) (HST.out.below HB0.out.drew)).mono ?_
       rintro er w2 ⟨rfl, hb2⟩
       have HB2 := Zd (HB0.out.drew.trans (hb2.mono HB0.out.drew.size))
       have hlook := (HT.out.below HB2.out).look nm HNL.out
       rw [hTn] at hlook
       have f12 := (HSR.out.box.below HB2.out HSR.out.box.lt).cell (i := 12) rfl
       obtain ⟨w3, hput, ht3, hg3⟩ := (HT.out.below HB2.out).put nm HNL.out (by have := HN.out; have := HSUM.out; omega)
       have HT3 := Zd ht3
       have HG3 := Zd hg3
       have HM2 := Zd (HT.out.below HB2.out).map
       have HSR3 := Zd ((HSR.out.below HB2.out).keptM HM2.out hg3)
       have HST3 := Zd ((HST.out.below HB2.out).keptM HM2.out hg3)
       have HS2 := Zd ((HS0.out.drew.below hb2 HS0.out.drew.lt).keptM HM2.out hg3)
       clear y0 y1 y2
       have y0 := HS2.out.cell (i := 0) rfl
       have y1 := HS2.out.cell (i := 1) rfl
       have y2 := HS2.out.cell (i := 2) rfl
       clear hb2 ht3 hg3)
    | (go_at_call 36
       refine (HWY.out _ HSR3.out HST3.out).mono ?_
       rintro er w4 ⟨A4, c4, S4, rfl, hl4, hr4, hs4, hb4⟩
       have HL4 := Zd hl4
       have HR4 := Zd hr4
       have HS4 := Zd hs4
       have HB4 := Zd hb4
       clear hl4 hr4 hs4 hb4)
    | (go_at_call 35
       refine (ContainsSt_any c gF NA nc mb NS PS A4 c4 S4 R w4 (n + 1) (leftM PS p - 1) _ (HSR3.out.below HB4.out) HL4.out HWL.out HR4.out HS4.out (HT3.out.below HB4.out) (fun q hq => ⟨(HWW.out q hq).2.1, Nat.le_sub_one_of_lt (HWW.out q hq).2.2⟩) (HTR3.out HTN.out) HN3.out).mono ?_
       rintro er w5 ⟨r, T5, rfl, hr5, ht5, hob5, hg5⟩
       have HR5 := Zd hr5
       have HT5 := Zd ht5
       have HOB5 := Zd hob5
       have HG5 := Zd hg5
       clear hr5 ht5 hob5 hg5)
    | fail)
   go_ret
   refine ⟨r, T5, rfl, HR5.out.trans HEX.out.symm, HT5.out.mono (by have := HSUM.out; omega), fun hr q h1 h2 h3 => ?_, (((grown_below HB2.out).trans HG3.out).trans (grown_below HB4.out)).trans HG5.out⟩
   rcases HOB5.out hr q h1 h2 h3 with h4 | h4
   . by_cases e : stateNameS q = nm
     . right
       rw [HSM.out q h1 h2 e]
       intro he
       have := (HR5.out.trans HEX.out.symm).2 he
       rw [hr] at this
       cases this
     . left
       simpa [e] using h4
   . exact .inr h4
 . go_enter Tryz.func16, Tryz.ntmps16
   go_upto_region 1 with fail
   generalize (w.alloc (.cells #[.int .i64 (p.at_ : Int), .slice RA rn rc, .slice LA ln lc] 57)) = W0 at *
   have y0 := HS0.out.cell (i := 0) rfl
   have y1 := HS0.out.cell (i := 1) rfl
   have y2 := HS0.out.cell (i := 2) rfl
   have f11 := HF0.out.cell (i := 11) rfl
   go_region_held3 (fun w' => w'.cell? ⟨w.heap.size, 0, none⟩ = some (.int .i64 p.at_) /\ w'.cell? ⟨gF, 11, none⟩ = some (.slice NA nn nc)) (go_keep) (fail)
   go_wp2_with (first
    | (go_at_call 34
       refine (HNM.out _ (HSR.out.below HB0.out.drew) (HST.out.below HB0.out.drew)).mono ?_
       rintro er w2 ⟨rfl, hb2⟩
       have HB2 := Zd (HB0.out.drew.trans (hb2.mono HB0.out.drew.size))
       have hlook := (HT.out.below HB2.out).look nm HNL.out
       rw [hTn] at hlook
       have f12 := (HSR.out.box.below HB2.out HSR.out.box.lt).cell (i := 12) rfl
       clear hb2)
    | fail)
   go_ret
   refine ⟨false, T, rfl, ⟨fun h => absurd h (by decide), fun he => ?_⟩, (HT.out.below HB2.out).mono (Nat.le_add_right _ _), fun _ => OnlyBad.refl _ _ _, grown_below HB2.out⟩
   rcases HTR.out p HSO.out HNON.out (by rw [HNAME.out]; exact hTn) with h | h
   . exact absurd he h
   . omega
end
section
open Go.RowKit Go.Sort Go.Maps
theorem from_any (c : Cfg) (gF : Nat) (NA : Option Addr) (nc mb : Nat) (NS : List Nte) (PS : List NtP) (hok : ObjOk c) (hthr : ThrOk c NS) (h6 : c.threads <= 6) (hn60 : NS.length <= 60) :
  ∀ (m : Nat) (p : StP), leftM PS p <= m -> StOk c PS p -> FromOk c gF NA nc mb NS PS p := by
 intro m
 induction m with
 | zero =>
   intro p hm hso
   by_cases hat : p.at_ = PS.length
   . exact from_done c gF NA nc mb NS PS p hat
   . have := hso.at_
     unfold leftM at hm
     omega
 | succ m ih =>
   intro p hm hso
   by_cases hat : p.at_ = PS.length
   . exact from_done c gF NA nc mb NS PS p hat
   . exact from_ways c gF NA nc mb NS PS p hok hthr h6 hn60 hso (by have := hso.at_; omega) (fun q h1 h2 => ih q (by omega) h1)
end
theorem knowK_len {th : Nat} {ns : List NtP} : ∀ (k : Nat) (K : List KnP), knowK th ns k = some K -> K.length = th
 | 0, K, h => by
   simp only [knowK, Option.some.injEq] at h
   rw [<- h]; simp
 | k + 1, K, h => by
   rw [knowK] at h
   cases h2 : knowK th ns k with
   | none => rw [h2] at h; cases h
   | some K2 =>
     rw [h2] at h
     simp only at h
     split at h
     . injection h with h
       rw [<- h]
       have := knowK_len k K2 h2
       simp [nextK, this]
     . cases h
theorem know_all {th : Nat} {ns : List NtP} {K : List KnP} (h : knowK th ns ns.length = some K) {k : Nat} (hk : k < ns.length) : ∃ K', K'.length = th /\ noteOk K' (ns.getD k NtP.none) = true := by
 obtain ⟨K1, h1⟩ := knowK_some (threads := th) (ns := ns) (ns.length - k) k K (by rw [show k + (ns.length - k) = ns.length by omega]; exact h)
 obtain ⟨K2, h2⟩ := knowK_some (threads := th) (ns := ns) (ns.length - (k + 1)) (k + 1) K (by rw [show k + 1 + (ns.length - (k + 1)) = ns.length by omega]; exact h)
 exact ⟨K1, knowK_len k K1 h1, (know_step h1 ⟨K2, h2⟩).1⟩
theorem check_at {c : Cfg} {ns : List NtP} (h : checkS c ns = 0) {k : Nat} (hk : k < ns.length) : 0 <= (ns.getD k NtP.none).thread /\ (ns.getD k NtP.none).thread < c.threads /\ ((ns.getD k NtP.none).kind = 1 -> (ns.getD k NtP.none).req.cs.length <= 3) := by
 obtain ⟨h1, ⟨K, h2⟩, _⟩ := checkS_ok h
 obtain ⟨K', h3, h4⟩ := know_all h2 hk
 simp only [noteOk, Bool.and_eq_true, decide_eq_true_eq] at h4
 obtain ⟨⟨h5, _⟩, h6⟩ := h4
 have hb := chk_kind h1
 unfold inL at h5
 refine ⟨by omega, by omega, fun h7 => ?_⟩
 unfold followsB at h6
 rw [if_pos h7] at h6
 simp only [Bool.and_eq_true, fitsQ, decide_eq_true_eq] at h6
 exact h6.2.1.2
theorem NtsIn.at_ {w : World} {NA : Option Addr} {NS : List Nte} {PS : List NtP} (h : NtsIn w NA NS PS) {c : Cfg} (hc : checkS c PS = 0) : NtsAt w NA NS PS :=
 ⟨h.rd, h.len, h.few, fun k hk => by
  obtain ⟨cs, h1, h2⟩ := h.is_ k hk
  refine ⟨cs, h1, fun h3 => ?_, h2⟩
  have h4 := (check_at hc (k := k) (by rw [h.len]; exact hk)).2.2
  rw [h2] at h4
  have h5 : cs.length <= 3 := h4 h3
  omega⟩
theorem NtsIn.thr {w : World} {NA : Option Addr} {NS : List Nte} {PS : List NtP} (h : NtsIn w NA NS PS) {c : Cfg} (hc : checkS c PS = 0) : ThrOk c NS := fun k hk => by
 obtain ⟨cs, h1, h2⟩ := h.is_ k hk
 have h4 := check_at hc (k := k) (by rw [h.len]; exact hk)
 rw [h2] at h4
 exact ⟨h4.1, h4.2.1⟩
def stS (c : Cfg) : StP := ⟨0, startO c, List.replicate c.threads.toNat OpP.none⟩
theorem nN_start {c : Cfg} {PS : List NtP} (h60 : PS.length <= 60) (hc : checkS c PS = 0) : nN PS (stS c) < maxLen := by
 obtain ⟨_, _, h8⟩ := checkS_ok hc
 have h1 : fLeft PS (stS c) <= 8 := by
  unfold fLeft stS
  simp only
  have : (List.replicate c.threads.toNat OpP.none).countP pendB = 0 := by
   rw [List.countP_eq_zero]
   intro x hx
   rw [(List.mem_replicate.1 hx).2]
   decide
  rw [this]
  have : callsK PS 0 = 0 := rfl
  omega
 have h2 : ∀ d a f, a + d <= 60 -> namesN a f <= namesN (a + d) f := by
  intro d
  induction d with
  | zero => intro a f _; exact Nat.le_refl _
  | succ d ih =>
    intro a f h
    have h3 := ih a f (by omega)
    have h4 := namesN_step (a := a + d) (f := f) (by omega)
    rw [show a + (d + 1) = a + d + 1 by omega]
    omega
 have h3 := h2 (60 - PS.length) PS.length (fLeft PS (stS c)) (by omega)
 rw [show PS.length + (60 - PS.length) = 60 by omega] at h3
 have h4 := namesN_le (a := 60) (Nat.le_refl _) h1
 have h5 := namesN_top
 have e : nN PS (stS c) = namesN PS.length (fLeft PS (stS c)) := by unfold nN stS; rfl
 rw [e]
 unfold maxLen
 omega
theorem StAt_start {c : Cfg} {w : World} {A LA : Option Addr} {n c0 t lc : Nat} (ht : c.threads = (t : Int)) (hn : (startO c).length = n) (hn1 : n <= 1048576) (hc0 : n <= c0) (ht1 : t <= 4096) (hrd : Rd w A (words (startO c))) (hbig : ∀ x ∈ startO c, 0 <= x /\ x < 18446744073709551616) (hl : Rd w LA (rows (List.replicate t Opr.none))) :
  StAt w ⟨0, A, n, c0, LA, t, lc⟩ (stS c) := by
 refine ⟨rfl, hn, hc0, hn1, hrd, hbig, ?_, ht1, List.replicate t Opr.none, by simp, hl, fun k hk => ?_⟩
 . show (List.replicate c.threads.toNat OpP.none).length = t
   rw [List.length_replicate, ht]; simp
 . have e1 : (List.replicate t Opr.none).getD k Opr.none = Opr.none := by
    simp only [List.getD_eq_getElem?_getD, List.getElem?_replicate]; split <;> rfl
   have e2 : (stS c).l.getD k OpP.none = OpP.none := by
    show (List.replicate c.threads.toNat OpP.none).getD k OpP.none = _
    simp only [List.getD_eq_getElem?_getD, List.getElem?_replicate]; split <;> rfl
   rw [e1, e2]
   exact oprIs_none w 0
section
open Go.RowKit Go.Sort Go.Maps Go.WideMaps
attribute [local go_sem ↓] Go.wp_at_zero Go.wp_at_succ
def RetLegal (c : Cfg) (PS : List NtP) (w : World) (e : Ending) (w' : World) : Prop :=
 ∃ b : Bool, e = .returned (.tuple #[.bool b, .int .i64 (checkS c PS)]) /\ (b = true ↔ checkS c PS = 0 /\ legalB c PS) /\ Below w.heap.size w w'
theorem hCheck_any (c : Cfg) (NA : Option Addr) (nc : Nat) (NS : List Nte) (PS : List NtP) (w : World) (hc : CfgIn w c) (hN : NtsIn w NA NS PS) :
  Calls Tryz.prog 9 #[cfgV c, .slice NA NS.length nc] w fun e w' => e = .returned (.int .i64 (checkS c PS)) /\ Below w.heap.size w w' := by
 cases h : chkB c
 . have e : checkS c PS = 1 := by unfold checkS; rw [if_pos h]
   rw [e]
   exact hCheck_no c _ w hc h
 . exact hCheck_yes c NA nc NS PS w hc h hN
theorem hLegal_any (c : Cfg) (NA : Option Addr) (nc : Nat) (NS : List Nte) (PS : List NtP) (w : World) (hok : ObjOk c) (hc : CfgIn w c) (hN : NtsIn w NA NS PS) (h6 : c.threads <= 6) (h60 : NS.length <= 60) (hz : Tz16 w) (hfw : (startO c).length <= 1048576) :
  Calls Tryz.prog 7 #[cfgV c, .slice NA NS.length nc] w (RetLegal c PS w) := by
 have HCF := Zd hc
 have HN := Zd hN
 have HCK := Zd (fun W (hb : Below w.heap.size w W) => hCheck_any c NA nc NS PS W (hc.below hb) (hN.below hb))
 have HZ := Zd hz
 have HOK := Zd hok
 by_cases hck : checkS c PS = 0
 . rw [hck] at HCK
   have hnat := hN.at_ hck
   have hthr := hN.thr hck
   have hnn0 := nN_start (c := c) (PS := PS) (by rw [hN.len]; exact h60) hck
   have HFR := Zd (fun (gF mb : Nat) (s : Str) (W : World) (h1 : SrAt c gF NA nc mb NS PS W) (h2 : StAt W s (stS c)) (h3 : TrAt W mb 0 (fun _ => false)) => from_any c gF NA nc mb NS PS hok hthr h6 h60 (leftM PS (stS c)) (stS c) (Nat.le_refl _) (stOk_start c PS) s W 0 (fun _ => false) h1 h2 h3 (fun _ _ _ h => by cases h) (by omega))
   have HNA := Zd hnat
   have HCE := Zd hck
   have hcb := (checkS_ok hck).1
   have hth := chk_kind hcb
   obtain ⟨t, ht⟩ : ∃ t : Nat, c.threads = t := ⟨_, (Int.toNat_of_nonneg (by omega)).symm⟩
   have HTT := Zd ht
   have t2 : t <= 64 := by omega
   have hmk := fun W => make_open t (by omega) W
   have HMW := Zd (fun W => blk_new (w := W) (g := W.heap.size) (cs := rows (List.replicate t Opr.none)) (t := 63) rfl)
   have HST := Zd (fun W (hW : CfgIn W c) => hok.start W hW)
   have HBIG := Zd hok.big0
   have HSL := Zd hfw
   have hmm := @run_makeMap Tryz.prog
   clear hnn0 hnat hthr hcb hth ht hc hN hz hok hck h6 hfw
   unfold cfgV at HCK HST ⊢
   simp only [HTT.out] at HST
   go_enter Tryz.func7, Tryz.ntmps7
   go_upto_region 4 with (go_at_call 9
                          refine (HCK.out _ ((Below.refl w.heap.size w).alloc (Nat.le_refl _) _)).mono ?_
                          rintro e w1 ⟨rfl, hb1⟩
                          obtain ⟨c0, c1, c2, c3, c4, c5, c6, c7, c8, c9, c10⟩ := ((BoxC.new w c).below hb1).all
                          rw [HTT.out] at c1
                          have HBX := Zd ((BoxC.new w c).below hb1)
                          have HB1 := Zd (((Below.refl w.heap.size w).alloc (Nat.le_refl _) _).trans (hb1.mono (by simp)))
                          have HL1 := Zd (show w.heap.size < w1.heap.size by have := hb1.size; simp at this; omega)
                          clear hb1)
   go_upto_region 5 with (fail)
   have HBB : Hid (Below w1.heap.size w1 ((w1.alloc (.map #[] 0)).alloc (.cells #[.int .i64 c.kind, .int .i64 t, .int .i64 c.chans, .int .i64 c.cap, .int .i64 c.nodes, .int .i64 c.retire, .int .i64 c.patience, .int .i64 c.tags, .int .i64 c.seqs, .int .i64 c.gens, .slice c.sa c.start.length c.sc, .slice NA NS.length nc, .map (some w1.heap.size)] 51))) := Zd (below_two w1 _ _)
   have HSB : Hid (Blk ((w1.alloc (.map #[] 0)).alloc (.cells #[.int .i64 c.kind, .int .i64 t, .int .i64 c.chans, .int .i64 c.cap, .int .i64 c.nodes, .int .i64 c.retire, .int .i64 c.patience, .int .i64 c.tags, .int .i64 c.seqs, .int .i64 c.gens, .slice c.sa c.start.length c.sc, .slice NA NS.length nc, .map (some w1.heap.size)] 51)) (w1.heap.size + 1) 51 (srchCells c NA NS.length nc w1.heap.size)) := Zd (by
    have h := Blk.new (w1.alloc (.map #[] 0)) 51 (srchCells c NA NS.length nc w1.heap.size)
    rw [show (w1.alloc (.map #[] 0)).heap.size = w1.heap.size + 1 by simp] at h
    unfold srchCells cfgCells at h ⊢
    simp only [HTT.out] at h ⊢
    exact h)
   have HTR : Hid (TrAt ((w1.alloc (.map #[] 0)).alloc (.cells #[.int .i64 c.kind, .int .i64 t, .int .i64 c.chans, .int .i64 c.cap, .int .i64 c.nodes, .int .i64 c.retire, .int .i64 c.patience, .int .i64 c.tags, .int .i64 c.seqs, .int .i64 c.gens, .slice c.sa c.start.length c.sc, .slice NA NS.length nc, .map (some w1.heap.size)] 51)) w1.heap.size 0 (fun _ => false)) := Zd ⟨.map [], (World.ownsMap_made w1 Tryz.prog _ _).alloc _, namesIs_empty⟩
   have HGT : Hid (w1.heap.size + 1 < ((w1.alloc (.map #[] 0)).alloc (.cells #[.int .i64 c.kind, .int .i64 t, .int .i64 c.chans, .int .i64 c.cap, .int .i64 c.nodes, .int .i64 c.retire, .int .i64 c.patience, .int .i64 c.tags, .int .i64 c.seqs, .int .i64 c.gens, .slice c.sa c.start.length c.sc, .slice NA NS.length nc, .map (some w1.heap.size)] 51)).heap.size) := Zd (by simp)
   clear c0 c1 c2 c3 c4 c5 c6 c7 c8 c9 c10 hmm
   generalize ((w1.alloc (.map #[] 0)).alloc (.cells #[.int .i64 c.kind, .int .i64 t, .int .i64 c.chans, .int .i64 c.cap, .int .i64 c.nodes, .int .i64 c.retire, .int .i64 c.patience, .int .i64 c.tags, .int .i64 c.seqs, .int .i64 c.gens, .slice c.sa c.start.length c.sc, .slice NA NS.length nc, .map (some w1.heap.size)] 51)) = W0 at *
   have HSR := Zd (show SrAt c (w1.heap.size + 1) NA nc w1.heap.size NS PS W0 from ⟨HCF.out.below (HB1.out.trans (HBB.out.mono HB1.out.size)), HSB.out, HNA.out.below (HB1.out.trans (HBB.out.mono HB1.out.size)), HZ.out.below (HB1.out.trans (HBB.out.mono HB1.out.size))⟩)
   obtain ⟨c0, c1, c2, c3, c4, c5, c6, c7, c8, c9, c10⟩ := (HBX.out.below HBB.out).all
   rw [HTT.out] at c1
   have hw0 : w.heap.size < W0.heap.size := by have := HL1.out; have := HGT.out; omega
   have HSC : Hid (∀ W', Below W0.heap.size W0 W' -> (fun w' => w'.cell? ⟨w.heap.size, 0, none⟩ = some (.int .i64 c.kind) /\ w'.cell? ⟨w.heap.size, 1, none⟩ = some (.int .i64 (t : Int)) /\ w'.cell? ⟨w.heap.size, 2, none⟩ = some (.int .i64 c.chans) /\ w'.cell? ⟨w.heap.size, 3, none⟩ = some (.int .i64 c.cap) /\ w'.cell? ⟨w.heap.size, 4, none⟩ = some (.int .i64 c.nodes) /\ w'.cell? ⟨w.heap.size, 5, none⟩ = some (.int .i64 c.retire) /\ w'.cell? ⟨w.heap.size, 6, none⟩ = some (.int .i64 c.patience) /\ w'.cell? ⟨w.heap.size, 7, none⟩ = some (.int .i64 c.tags) /\ w'.cell? ⟨w.heap.size, 8, none⟩ = some (.int .i64 c.seqs) /\ w'.cell? ⟨w.heap.size, 9, none⟩ = some (.int .i64 c.gens) /\ w'.cell? ⟨w.heap.size, 10, none⟩ = some (.slice c.sa c.start.length c.sc)) W') := Zd (fun W' hb => ⟨(hb.cell (p := ⟨w.heap.size, 0, none⟩) hw0).trans c0, (hb.cell (p := ⟨w.heap.size, 1, none⟩) hw0).trans c1, (hb.cell (p := ⟨w.heap.size, 2, none⟩) hw0).trans c2, (hb.cell (p := ⟨w.heap.size, 3, none⟩) hw0).trans c3, (hb.cell (p := ⟨w.heap.size, 4, none⟩) hw0).trans c4, (hb.cell (p := ⟨w.heap.size, 5, none⟩) hw0).trans c5, (hb.cell (p := ⟨w.heap.size, 6, none⟩) hw0).trans c6, (hb.cell (p := ⟨w.heap.size, 7, none⟩) hw0).trans c7, (hb.cell (p := ⟨w.heap.size, 8, none⟩) hw0).trans c8, (hb.cell (p := ⟨w.heap.size, 9, none⟩) hw0).trans c9, (hb.cell (p := ⟨w.heap.size, 10, none⟩) hw0).trans c10⟩)
   refine wp_region_held_drew (S := fun w' => w'.cell? ⟨w.heap.size, 0, none⟩ = some (.int .i64 c.kind) /\ w'.cell? ⟨w.heap.size, 1, none⟩ = some (.int .i64 (t : Int)) /\ w'.cell? ⟨w.heap.size, 2, none⟩ = some (.int .i64 c.chans) /\ w'.cell? ⟨w.heap.size, 3, none⟩ = some (.int .i64 c.cap) /\ w'.cell? ⟨w.heap.size, 4, none⟩ = some (.int .i64 c.nodes) /\ w'.cell? ⟨w.heap.size, 5, none⟩ = some (.int .i64 c.retire) /\ w'.cell? ⟨w.heap.size, 6, none⟩ = some (.int .i64 c.patience) /\ w'.cell? ⟨w.heap.size, 7, none⟩ = some (.int .i64 c.tags) /\ w'.cell? ⟨w.heap.size, 8, none⟩ = some (.int .i64 c.seqs) /\ w'.cell? ⟨w.heap.size, 9, none⟩ = some (.int .i64 c.gens) /\ w'.cell? ⟨w.heap.size, 10, none⟩ = some (.slice c.sa c.start.length c.sc)) (by kernel_rfl) (HSC.out _ (Below.refl W0.heap.size W0).drew) (fun hHeld => ?_)
   refine tkHp 0 (.pointer (some ⟨w1.heap.size + 1, 0, none⟩)) rfl hHeld ?_
   refine tkH 1 (.agg #[.int .i64 c.kind, .int .i64 (t : Int), .int .i64 c.chans, .int .i64 c.cap, .int .i64 c.nodes, .int .i64 c.retire, .int .i64 c.patience, .int .i64 c.tags, .int .i64 c.seqs, .int .i64 c.gens, .slice c.sa c.start.length c.sc]) rfl (Or.inl ⟨by rfl, fun w hSw => by obtain ⟨h0, h1, h2, h3, h4, h5, h6, h7, h8, h9, h10⟩ := hSw; go_simp⟩) hHeld ?_
   refine tkHp 3 (.pointer (some ⟨w.heap.size, 1, none⟩)) rfl hHeld ?_
   refine tkH 4 (.int .i64 (t : Int)) rfl (Or.inl ⟨by rfl, fun w hSw => by obtain ⟨h0, h1, h2, h3, h4, h5, h6, h7, h8, h9, h10⟩ := hSw; go_simp⟩) hHeld ?_
   try simp only [Nrq, Nrs]
   refine wpAnyH_ready (rs := [2, 5]) (by kernel_rfl) (by simp) ?_
   refine AllReadyH.cons rfl (fun K hK => ?_) (AllReadyH.cons rfl (fun K hK => ?_) AllReadyH.nil)
   . rw [if_pos (by rfl)]
     simp only [Nrq]
     go_simp
     refine (HST.out W0.drew HSR.out.cfg).mono ?_
     rintro er w2 ⟨A, cc, rfl, ho2, hb2'⟩
     have hb2 : Below W0.heap.size W0 w2 := ⟨hb2'.os, hb2'.tape, hb2'.output, hb2'.size, hb2'.block⟩
     have HCC := Zd (own_le ho2)
     have HO2 := Zd (own_rd ho2)
     have HB2 := Zd hb2
     have hsc := HSC.out _ hb2
     clear ho2 hb2' hb2
     go_wp2_with fail
     refine hK.out _ _ hsc (fun hHeld => ?_)
     clear hK K hsc
     try simp only [Nrq, Nrs]
     refine wpAnyH_ready (rs := [5]) (by kernel_rfl) (by simp) ?_
     refine AllReadyH.cons rfl (fun K hK => ?_) AllReadyH.nil
     rw [if_pos (by rfl)]
     simp only [Nrq]
     go_simp
     have HA3 := Zd ((Below.refl w2.heap.size w2).alloc (Nat.le_refl _) (.cells (rows (List.replicate t Opr.none)).toArray 63))
     have HR3 := Zd (HMW.out w2).rd
     refine hK.out _ _ (HSC.out _ (HB2.out.trans (HA3.out.mono HB2.out.size))) (fun hHeld => ?_)
     clear hK K
     try simp only [Nrq, Nrs]
     have HB3 := Zd ((HB1.out.trans (HBB.out.mono HB1.out.size)).trans ((HB2.out.trans (HA3.out.mono HB2.out.size)).mono (HB1.out.trans (HBB.out.mono HB1.out.size)).size))
     have HG3 := Zd (HB2.out.trans (HA3.out.mono HB2.out.size))
     generalize (w2.alloc (.cells (rows (List.replicate t Opr.none)).toArray 63)) = W3 at *
     have HSF : Hid (∀ W', W3.grownBy W' (some w1.heap.size) -> (fun w' => w'.cell? ⟨w.heap.size, 0, none⟩ = some (.int .i64 c.kind) /\ w'.cell? ⟨w.heap.size, 1, none⟩ = some (.int .i64 (t : Int)) /\ w'.cell? ⟨w.heap.size, 2, none⟩ = some (.int .i64 c.chans) /\ w'.cell? ⟨w.heap.size, 3, none⟩ = some (.int .i64 c.cap) /\ w'.cell? ⟨w.heap.size, 4, none⟩ = some (.int .i64 c.nodes) /\ w'.cell? ⟨w.heap.size, 5, none⟩ = some (.int .i64 c.retire) /\ w'.cell? ⟨w.heap.size, 6, none⟩ = some (.int .i64 c.patience) /\ w'.cell? ⟨w.heap.size, 7, none⟩ = some (.int .i64 c.tags) /\ w'.cell? ⟨w.heap.size, 8, none⟩ = some (.int .i64 c.seqs) /\ w'.cell? ⟨w.heap.size, 9, none⟩ = some (.int .i64 c.gens) /\ w'.cell? ⟨w.heap.size, 10, none⟩ = some (.slice c.sa c.start.length c.sc)) W') := Zd (fun W' hg => by
      have hx := HSC.out _ HG3.out
      have hlt : w.heap.size < W3.heap.size := Nat.lt_of_lt_of_le hw0 HG3.out.size
      have hne : some w.heap.size ≠ some w1.heap.size := by intro e; injection e with e; have := HL1.out; omega
      simp only [grown_cell hg (p := ⟨w.heap.size, _, none⟩) hlt hne]
      exact hx)
     refine tkHp 6 (.agg #[.int .i64 0, .slice A (startO c).length cc, .slice (some ⟨w2.heap.size, 0, none⟩) t t]) rfl hHeld ?_
     try simp only [Nrq, Nrs]
     refine wpAnyH_ready (rs := [7]) (by kernel_rfl) (by simp) ?_
     refine AllReadyH.cons rfl (fun K hK => ?_) AllReadyH.nil
     clear hHeld
     rw [if_pos (by rfl)]
     simp only [Nrq]
     go_simp
     refine (HFR.out (w1.heap.size + 1) w1.heap.size ⟨0, A, (startO c).length, cc, some ⟨w2.heap.size, 0, none⟩, t, t⟩ _ (HSR.out.below HG3.out) (StAt_start HTT.out rfl HSL.out HCC.out (by omega) (HO2.out.below HA3.out) HBIG.out (HR3.out)) (HTR.out.below HG3.out)).mono ?_
     rintro er w5 ⟨r, T', rfl, hr5, _, _, hg5⟩
     have hbf := HB3.out.trans ((Below.refl w.heap.size _).grown hg5 HB3.out.size (fun k hk => by injection hk with hk; have := HL1.out; omega))
     have hsc := HSF.out _ hg5
     go_wp2_with fail
     refine hK.out _ _ hsc (fun hHeld => ?_)
     clear hK K
     try simp only [Nrq, Nrs]
     refine tkHp 8 (.bool r) rfl hHeld ?_
     refine tkHp 9 (.int .i64 0) rfl hHeld ?_
     try simp only [Nrq, Nrs]
     clear hHeld
     refine wpAnyH_done (by kernel_rfl) ?_ _
     go_wp2_with fail
     go_ret2
     exact ⟨r, by rw [HCE.out]; rfl, hr5.trans ⟨fun h => ⟨HCE.out, h⟩, fun h => h.2⟩, hbf⟩
   . rw [if_pos (by rfl)]
     simp only [Nrq]
     go_simp
     have HA1 := Zd ((Below.refl W0.heap.size W0).alloc (Nat.le_refl _) (.cells (rows (List.replicate t Opr.none)).toArray 63))
     have HR1 := Zd (HMW.out W0)
     refine hK.out _ _ (HSC.out _ HA1.out.drew) (fun hHeld => ?_)
     clear hK K
     try simp only [Nrq, Nrs]
     refine wpAnyH_ready (rs := [2]) (by kernel_rfl) (by simp) ?_
     refine AllReadyH.cons rfl (fun K hK => ?_) AllReadyH.nil
     rw [if_pos (by rfl)]
     simp only [Nrq]
     go_simp
     refine (HST.out (W0.alloc (.cells (rows (List.replicate t Opr.none)).toArray 63)).drew (HSR.out.cfg.below HA1.out.drew)).mono ?_
     rintro er W3 ⟨A, cc, rfl, ho2, hb2'⟩
     have hb2 : Below (W0.alloc (.cells (rows (List.replicate t Opr.none)).toArray 63)).heap.size (W0.alloc (.cells (rows (List.replicate t Opr.none)).toArray 63)) W3 := ⟨hb2'.os, hb2'.tape, hb2'.output, hb2'.size, hb2'.block⟩
     have HCC := Zd (own_le ho2)
     have HO2 := Zd (own_rd ho2)
     have HR3 := Zd ((HR1.out.below hb2 HR1.out.lt).rd)
     have HG3 := Zd (btr HA1.out hb2)
     clear ho2 hb2' hb2
     go_wp2_with fail
     refine hK.out _ _ (HSC.out _ HG3.out) (fun hHeld => ?_)
     clear hK K
     try simp only [Nrq, Nrs]
     have HB3 := Zd ((HB1.out.trans (HBB.out.mono HB1.out.size)).trans (HG3.out.mono (HB1.out.trans (HBB.out.mono HB1.out.size)).size))
     have HSF : Hid (∀ W', W3.grownBy W' (some w1.heap.size) -> (fun w' => w'.cell? ⟨w.heap.size, 0, none⟩ = some (.int .i64 c.kind) /\ w'.cell? ⟨w.heap.size, 1, none⟩ = some (.int .i64 (t : Int)) /\ w'.cell? ⟨w.heap.size, 2, none⟩ = some (.int .i64 c.chans) /\ w'.cell? ⟨w.heap.size, 3, none⟩ = some (.int .i64 c.cap) /\ w'.cell? ⟨w.heap.size, 4, none⟩ = some (.int .i64 c.nodes) /\ w'.cell? ⟨w.heap.size, 5, none⟩ = some (.int .i64 c.retire) /\ w'.cell? ⟨w.heap.size, 6, none⟩ = some (.int .i64 c.patience) /\ w'.cell? ⟨w.heap.size, 7, none⟩ = some (.int .i64 c.tags) /\ w'.cell? ⟨w.heap.size, 8, none⟩ = some (.int .i64 c.seqs) /\ w'.cell? ⟨w.heap.size, 9, none⟩ = some (.int .i64 c.gens) /\ w'.cell? ⟨w.heap.size, 10, none⟩ = some (.slice c.sa c.start.length c.sc)) W') := Zd (fun W' hg => by
      have hx := HSC.out _ HG3.out
      have hlt : w.heap.size < W3.heap.size := Nat.lt_of_lt_of_le hw0 HG3.out.size
      have hne : some w.heap.size ≠ some w1.heap.size := by intro e; injection e with e; have := HL1.out; omega
      simp only [grown_cell hg (p := ⟨w.heap.size, _, none⟩) hlt hne]
      exact hx)
     refine tkHp 6 (.agg #[.int .i64 0, .slice A (startO c).length cc, .slice (some ⟨W0.heap.size, 0, none⟩) t t]) rfl hHeld ?_
     try simp only [Nrq, Nrs]
     refine wpAnyH_ready (rs := [7]) (by kernel_rfl) (by simp) ?_
     refine AllReadyH.cons rfl (fun K hK => ?_) AllReadyH.nil
     clear hHeld
     rw [if_pos (by rfl)]
     simp only [Nrq]
     go_simp
     refine (HFR.out (w1.heap.size + 1) w1.heap.size ⟨0, A, (startO c).length, cc, some ⟨W0.heap.size, 0, none⟩, t, t⟩ _ (HSR.out.below HG3.out) (StAt_start HTT.out rfl HSL.out HCC.out (by omega) (HO2.out) HBIG.out (HR3.out)) (HTR.out.below HG3.out)).mono ?_
     rintro er w5 ⟨r, T', rfl, hr5, _, _, hg5⟩
     have hbf := HB3.out.trans ((Below.refl w.heap.size _).grown hg5 HB3.out.size (fun k hk => by injection hk with hk; have := HL1.out; omega))
     have hsc := HSF.out _ hg5
     go_wp2_with fail
     refine hK.out _ _ hsc (fun hHeld => ?_)
     clear hK K
     try simp only [Nrq, Nrs]
     refine tkHp 8 (.bool r) rfl hHeld ?_
     refine tkHp 9 (.int .i64 0) rfl hHeld ?_
     try simp only [Nrq, Nrs]
     clear hHeld
     refine wpAnyH_done (by kernel_rfl) ?_ _
     go_wp2_with fail
     go_ret2
     exact ⟨r, by rw [HCE.out]; rfl, hr5.trans ⟨fun h => ⟨HCE.out, h⟩, fun h => h.2⟩, hbf⟩
 . have HE := Zd hck
   have hne : (checkS c PS == 0) = false := by simpa using hck
   generalize hE : checkS c PS = E at *
   clear hc hN hz hok hck
   unfold cfgV at HCK ⊢
   go_enter Tryz.func7, Tryz.ntmps7
   go_wp2_with (refine (HCK.out _ ?_).mono ?_
                . exact (Below.refl w.heap.size w).alloc (Nat.le_refl _) _
                rintro e w1 ⟨rfl, hb1⟩
                have HB1 := Zd (((Below.refl w.heap.size w).alloc (Nat.le_refl _) _).trans (hb1.mono (by simp)))
                clear hb1)
   go_ret2
   exact ⟨false, by rw [hE]; rfl, ⟨fun h => absurd h (by decide), fun h => absurd (hE.symm.trans h.1) HE.out⟩, HB1.out⟩
end
end Go.Proofs.YtieglgahfeecbaaGreatDoor

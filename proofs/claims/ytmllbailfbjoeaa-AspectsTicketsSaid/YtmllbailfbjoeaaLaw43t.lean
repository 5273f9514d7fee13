/- The law AspectsTickets, walked. -/
import Derived.Test.YtmllbailfbjoeaaTk8
namespace Go.Proofs.Ytmllbailfbjoeaa
open Go.RowKit Go.Sort

/-- Something that is done. -/
structure Actr where
  (kind thread x : Int)
def Actr.cells (a : Actr) : List Value := [.int .i64 a.kind, .int .i64 a.thread, .int .i64 a.x]
def Actr.none : Actr := ⟨0, 0, 0⟩
instance : Cellful Actr where
  cells := Actr.cells
  s := 3
  dflt := Actr.none
  len := fun _ => rfl
  one := fun a u hu => by
    simp only [Actr.cells, List.mem_cons, List.not_mem_nil, or_false] at hu
    rcases hu with rfl | rfl | rfl <;> rfl

theorem actr_cells {w : World} {b o : Nat} {l : List Actr} (hc : ∀ k v, (rows l)[k]? = some v → w.cell? ⟨b, o + k, none⟩ = some v) {k : Nat} (hk : k < l.length) {x : Actr} (hx : l.getD k Actr.none = x) :
    w.cell? ⟨b, o + k * 3, none⟩ = some (.int .i64 x.kind) ∧ w.cell? ⟨b, o + k * 3 + 1, none⟩ = some (.int .i64 x.thread) ∧ w.cell? ⟨b, o + k * 3 + 2, none⟩ = some (.int .i64 x.x) := by
  have h := rec_cell hc hk hx
  exact ⟨h 0 _ rfl, h 1 _ rfl, h 2 _ rfl⟩

/-- The queue behind the first k. -/
def qAt (sz th tr : Nat) (l : List Actr) : Nat → TQ
  | 0 => TQ.new sz th
  | k + 1 => (qAt sz th tr l k).act sz tr (l.getD k Actr.none).kind (l.getD k Actr.none).thread (l.getD k Actr.none).x

def NsOk (q : TQ) : Prop := ∀ a ∈ q.ns, 0 ≤ a.thread ∧ a.thread < 64

section
variable {q : TQ} {t : Nat}
theorem NsOk.note (h : NsOk q) (ht : t < 64) (kind s c v : Int) : NsOk (q.note kind t s c v) := by
  intro a ha
  simp only [TQ.note, List.mem_append, List.mem_singleton] at ha
  rcases ha with ha | rfl
  · exact h a ha
  · simp only [nteQ]; omega
theorem NsOk.ends (h : NsOk q) (ht : t < 64) (c v : Int) : NsOk (q.ends t c v) := h.note ht 3 _ _ _
theorem NsOk.act (h : NsOk q) (sz tr : Nat) (hl : q.l.length ≤ 64) (kind t x : Int) : NsOk (q.act sz tr kind t x) := by
  have hb : ∀ (t : Nat) pc v, t < 64 → NsOk (q.begin t pc v) := fun t pc v ht => by
    unfold TQ.begin
    split
    · exact h
    · exact NsOk.note (q := (q.setM t _).tic) h ht 1 0 0 0
  have ht : ∀ (q : TQ) (t : Nat) w n, NsOk q → t < 64 → NsOk (q.ticket sz t w n) := fun q t w n h ht => by
    unfold TQ.ticket
    split
    · exact NsOk.ends (q := q.setW w _) h ht 6 0
    · exact h
  have ha : ∀ (q : TQ) (t : Nat) p, NsOk q → t < 64 → NsOk (q.again tr t p) := fun q t p h ht => by
    unfold TQ.again
    split
    · exact NsOk.ends (q := q.setM t _) h ht 6 0
    · exact h
  unfold TQ.act
  split
  · exact h
  · rename_i hn
    have ht64 : t.toNat < 64 := by omega
    split
    · split
      · exact h
      · exact hb _ _ _ ht64
    · split
      · exact hb _ _ _ ht64
      · have h' : NsOk q.tic := h
        unfold TQ.step
        repeat' split
        all_goals first
          | exact ht _ _ _ _ h' ht64
          | exact ha _ _ _ h' ht64
          | exact NsOk.ends (q := q.tic.setW _ _) h' ht64 _ _
          | exact NsOk.ends h' ht64 _ _
          | exact h'
end

structure QInv (sz th tr : Nat) (k : Nat) (q : TQ) : Prop where
  fine : Fine sz q
  qb : QB (2 * k) sz tr q
  len : q.l.length = th
  nok : NsOk q

theorem qAt_inv (sz th tr : Nat) (hsz : 1 ≤ sz) (htr : 1 ≤ tr) (hth : th ≤ 64) (l : List Actr) : ∀ k, QInv sz th tr k (qAt sz th tr l k)
  | 0 => ⟨fine_new sz th, qb_new sz th tr hsz htr, by simp [qAt, TQ.new], by intro a ha; simp [qAt, TQ.new] at ha⟩
  | k + 1 => by
    have ih := qAt_inv sz th tr hsz htr hth l k
    exact ⟨ih.fine.act _ _ _, ih.qb.act hsz htr _ _ _, (act_len _ _ _ _ _ _).trans ih.len, ih.nok.act _ _ (by rw [ih.len]; exact hth) _ _ _⟩

theorem act_put {sz tr : Nat} {q : TQ} {kind t x : Int} (h : kind % 8 = 0) : q.act sz tr kind t x = if x < 0 ∨ 4294967295 < x then q else q.beginI t 1 x := by
  unfold TQ.act TQ.beginI
  by_cases h1 : t < 0 ∨ (q.l.length : Int) ≤ t
  · rw [if_pos h1, if_pos h1, ite_self]
  · rw [if_neg h1, if_neg h1, if_pos h]
theorem act_take {sz tr : Nat} {q : TQ} {kind t x : Int} (h : kind % 8 = 1) : q.act sz tr kind t x = q.beginI t 3 0 := by
  unfold TQ.act TQ.beginI
  by_cases h1 : t < 0 ∨ (q.l.length : Int) ≤ t
  · rw [if_pos h1, if_pos h1]
  · rw [if_neg h1, if_neg h1, if_neg (by omega), if_pos h]
theorem act_pick {sz tr : Nat} {q : TQ} {kind t x : Int} (h0 : kind % 8 ≠ 0) (h : kind % 8 ≠ 1) : q.act sz tr kind t x = q.pickI sz tr t := by
  unfold TQ.act TQ.pickI
  by_cases h1 : t < 0 ∨ (q.l.length : Int) ≤ t
  · rw [if_pos h1, if_pos h1]
  · rw [if_neg h1, if_neg h1, if_neg h0, if_neg h]

theorem threads_ok {q : TQ} (h : NsOk q) : ThreadsOk q.ns := by
  intro a ha
  have := h a ha
  exact WalkArith.wf_i64 (by omega)

theorem kind_mod (z : Int) : (IntKind.u64.wrap z).tmod 8 = z % 8 := by
  rw [IntKind.wrap_u64, Int.tmod_eq_emod_of_nonneg (by omega)]
  omega

set_option maxHeartbeats 8000000 in
set_option maxRecDepth 100000 in
theorem LawT_big (A : Option Addr) (c : Nat) (sz th tr : Nat) (n : Nat) (w : World) (hn : 400 < n) (hN : NewOk sz th tr) :
    Calls Try.prog 9 #[.int .i64 sz, .int .i64 th, .int .i64 tr, .slice A n c] w fun e w' => e = .returned (.bool true) ∧ Below w.heap.size w w' := by
  have HN := Lib.hid (New_any sz th tr w hN)
  have g : (400 : Int) < (n : Int) := by omega
  clear hN
  go_enter Try.func9, Try.ntmps9
  go_wp2_with fail
  refine HN.out.mono ?_
  rintro e w1 ⟨gw, gm, gl, gq, B, rfl, hQ, hb1⟩
  have HB := Lib.hid hb1
  clear hQ hb1
  go_wp2_with fail
  refine (awake43_any _).mono ?_
  rintro er w2 ⟨rfl, hb2⟩
  go_wp2
  go_ret
  exact ⟨rfl, HB.out.trans (hb2.mono HB.out.size)⟩

set_option maxHeartbeats 8000000 in
set_option maxRecDepth 100000 in
theorem LawT_bad (A : Option Addr) (c : Nat) (sz th tr : Int) (n : Nat) (w : World) (hN : ¬ NewOk sz th tr) :
    Calls Try.prog 9 #[.int .i64 sz, .int .i64 th, .int .i64 tr, .slice A n c] w fun e w' => e = .returned (.bool true) ∧ Below w.heap.size w w' := by
  have HN := Lib.hid (New_bad sz th tr w hN)
  clear hN
  go_enter Try.func9, Try.ntmps9
  go_wp2_with fail
  refine HN.out.mono ?_
  rintro e w1 ⟨rfl, hb1⟩
  have HB := Lib.hid hb1
  clear hb1
  go_wp2_with fail
  refine (awake43_any _).mono ?_
  rintro er w2 ⟨rfl, hb2⟩
  go_wp2
  go_ret
  exact ⟨rfl, HB.out.trans (hb2.mono HB.out.size)⟩

set_option maxHeartbeats 8000000 in
set_option maxRecDepth 100000 in
theorem LawT_ok (A : Option Addr) (c : Nat) (sz th tr : Nat) (l : List Actr) (w : World) (hn : l.length ≤ 400) (hN : NewOk sz th tr) (hR : Rd w A (rows l)) :
    Calls Try.prog 9 #[.int .i64 sz, .int .i64 th, .int .i64 tr, .slice A l.length c] w fun e w' => e = .returned (.bool true) ∧ Below w.heap.size w w' := by
  have HN := Lib.hid (New_any sz th tr w hN)
  have HNO := Lib.hid hN
  have HR := Lib.hid hR
  have HINV := Lib.hid (fun k => qAt_inv sz th tr (by have := hN.1; omega) (by have := hN.2.2.2.2.1; omega) (by have := hN.2.2.2.1; omega) l k)
  have g : ¬ (400 : Int) < (l.length : Int) := by omega
  clear hN hR
  generalize hln : l.length = n at *
  have HLN := Lib.hid hln
  clear hln
  go_enter Try.func9, Try.ntmps9
  go_wp2_with fail
  refine HN.out.mono ?_
  rintro e w1 ⟨gw, gm, gl, gq, B, rfl, hQ, hb1⟩
  have HQ1 := Lib.hid hQ
  have HB1 := Lib.hid hb1
  clear hQ hb1
  go_wp2
  go_loopg [43] n (fun g i wr => ∃ (k : Nat), k ≤ n ∧ g = n - k ∧ i = .int .i64 k ∧ QIs gw gm gl gq B w.heap.size sz tr (qAt sz th tr l k) wr ∧ Below w.heap.size w wr)
  case atStart => exact ⟨0, Nat.zero_le _, rfl, rfl, HQ1.out, HB1.out⟩
  case round =>
    obtain ⟨k, hk, hg, rfl, hQk, hBk⟩ := hrel
    have HG := Lib.hid hg
    have HQK := Lib.hid hQk
    have HBK := Lib.hid hBk
    clear hg hQk hBk
    by_cases hlt : k < n
    · have hkl : k < l.length := by rw [HLN.out]; exact hlt
      obtain ⟨b, o, rfl, hbl, hc⟩ := HR.out.at_ (by rw [rows_length]; exact Nat.mul_pos (by omega) (by decide))
      have hcr : ∀ j v, (rows l)[j]? = some v → wr.cell? ⟨b, o + j, none⟩ = some v := fun j v hj => by
        rw [HBK.out.cell (p := ⟨b, o + j, none⟩) hbl]; exact hc j v hj
      generalize hx : l.getD k Actr.none = x
      obtain ⟨c0, c1, c2⟩ := actr_cells hcr hkl hx
      have HX := Lib.hid hx
      have HST : RowKit.Hid (qAt sz th tr l (k + 1) = (qAt sz th tr l k).act sz tr x.kind x.thread x.x) := Lib.hid (by rw [qAt, hx])
      clear hcr hc hx hkl
      have q1 : (0 : Int) ≤ (k : Int) := by omega
      have q2 : (k : Int) < (n : Int) := by omega
      have HI := Lib.hid (HINV.out k)
      have HQA := Lib.hid (show QIs gw gm gl gq B w.heap.size sz tr (qAt sz th tr l k) (wr.alloc (.cells #[.int .i64 x.kind, .int .i64 x.thread, .int .i64 x.x] 65)) by
        obtain ⟨cb, cs, AC, cc, AN, cn, hq⟩ := HQK.out
        exact (hq.alloc _).toIs)
      have HBA := Lib.hid (show Below w.heap.size w (wr.alloc (.cells #[.int .i64 x.kind, .int .i64 x.thread, .int .i64 x.x] 65)) from HBK.out.alloc HBK.out.size _)
      have hkm := kind_mod x.kind
      have HSQ := Lib.hid (show ∀ t, t < (qAt sz th tr l k).l.length → 0 ≤ ((qAt sz th tr l k).man t).seq ∧ ((qAt sz th tr l k).man t).seq ≤ 1048576 from fun t _ => by
        have h := HI.out.qb.man t
        unfold ManOk at h; omega)
      have HNS := Lib.hid (show (qAt sz th tr l k).ns.length ≤ 4096 by have := HI.out.qb.ns; omega)
      have HTM := Lib.hid (show 0 ≤ (qAt sz th tr l k).time ∧ (qAt sz th tr l k).time ≤ 1048576 by have := HI.out.qb.time; omega)
      have HSO := Lib.hid (show ∀ t, t < (qAt sz th tr l k).l.length → SOk sz (qAt sz th tr l k).tic t from fun t ht => HI.out.qb.sok HI.out.fine (by omega) (by have := HNO.out.2.1; omega) (by have := HNO.out.2.2.2.2.2; omega) (by rw [HI.out.len]; have := HNO.out.2.2.2.1; omega) ht)
      generalize qAt sz th tr l k = qk at *
      by_cases k0 : x.kind % 8 = 0
      · rw [act_put k0] at HST
        rw [k0] at hkm
        have b0 : ((IntKind.u64.wrap x.kind).tmod 8 == 0) = true := by rw [hkm]; rfl
        go_wp2_with fail
        refine (Put_any gw gm gl gq B w.heap.size sz tr qk x.thread x.x _ HNS.out HSQ.out HTM.out.1 HTM.out.2 HQA.out).mono ?_
        rintro e w2 ⟨⟨cv, rfl⟩, hP⟩
        have HP := Lib.hid hP
        clear hP
        go_wp2
        go_roundg (n - (k + 1))
        case measure => rw [HG.out]; omega
        case rel => exact ⟨k + 1, by omega, rfl, by go_num, by rw [HST.out]; exact HP.out.1, HBA.out.trans HP.out.2⟩
      · have b0 : ((IntKind.u64.wrap x.kind).tmod 8 == 0) = false := by rw [hkm]; simpa using k0
        by_cases k1 : x.kind % 8 = 1
        · rw [act_take k1] at HST
          rw [k1] at hkm
          have b1 : ((IntKind.u64.wrap x.kind).tmod 8 == 1) = true := by rw [hkm]; rfl
          go_wp2_with fail
          refine (Take_any gw gm gl gq B w.heap.size sz tr qk x.thread _ HNS.out HSQ.out HTM.out.1 HTM.out.2 HQA.out).mono ?_
          rintro e w2 ⟨⟨cv, rfl⟩, hP⟩
          have HP := Lib.hid hP
          clear hP
          go_wp2
          go_roundg (n - (k + 1))
          case measure => rw [HG.out]; omega
          case rel => exact ⟨k + 1, by omega, rfl, by go_num, by rw [HST.out]; exact HP.out.1, HBA.out.trans HP.out.2⟩
        · rw [act_pick k0 k1] at HST
          have b1 : ((IntKind.u64.wrap x.kind).tmod 8 == 1) = false := by rw [hkm]; simpa using k1
          go_wp2_with fail
          refine (Pick_any gw gm gl gq B w.heap.size sz tr qk x.thread _ HSO.out HTM.out.1 HTM.out.2 HQA.out).mono ?_
          rintro e w2 ⟨⟨cv, rfl⟩, hP⟩
          have HP := Lib.hid hP
          clear hP
          go_wp2
          go_roundg (n - (k + 1))
          case measure => rw [HG.out]; omega
          case rel => exact ⟨k + 1, by omega, rfl, by go_num, by rw [HST.out]; exact HP.out.1, HBA.out.trans HP.out.2⟩
    · obtain rfl : k = n := by omega
      have HI := Lib.hid (HINV.out k)
      generalize qAt sz th tr l k = qk at *
      have hnl : qk.ns.length ≤ 1024 := by have := HI.out.qb.ns; omega
      have HNT := Lib.hid (Notes_any gw gm gl gq B w.heap.size sz tr qk wr (by omega) HQK.out)
      have HWR := Lib.hid (fun A c W h => Wrong_any A c qk.ns W hnl (threads_ok HI.out.nok) h)
      rw [HI.out.fine.right] at HWR
      generalize qk.ns.length = nn at *
      go_wp2_with fail
      refine HNT.out.mono ?_
      rintro e w2 ⟨A2, c2, rfl, ho2, hb2⟩
      have HO2 := Lib.hid ho2
      have HB2 := Lib.hid (HBK.out.trans (hb2.mono HBK.out.size))
      clear ho2 hb2
      go_wp2_with fail
      refine (HWR.out _ _ _ (own_rd HO2.out)).mono ?_
      rintro e w3 ⟨rfl, hb3⟩
      have HB3 := Lib.hid (HB2.out.trans (hb3.mono HB2.out.size))
      clear hb3
      go_wp2_with fail
      refine (awake43_any _).mono ?_
      rintro e w4 ⟨rfl, hb4⟩
      have HB4 := Lib.hid (HB3.out.trans (hb4.mono HB3.out.size))
      clear hb4
      go_wp2
      go_ret
      exact ⟨rfl, HB4.out⟩

theorem LawT_any (A : Option Addr) (c : Nat) (sz th tr : Int) (l : List Actr) (w : World) (hR : Rd w A (rows l)) :
    Calls Try.prog 9 #[.int .i64 sz, .int .i64 th, .int .i64 tr, .slice A l.length c] w fun e w' => e = .returned (.bool true) ∧ Below w.heap.size w w' := by
  by_cases hN : NewOk sz th tr
  · have hh := hN
    unfold NewOk at hh
    obtain ⟨a, rfl⟩ := Int.eq_ofNat_of_zero_le (show 0 ≤ sz by omega)
    obtain ⟨b, rfl⟩ := Int.eq_ofNat_of_zero_le (show 0 ≤ th by omega)
    obtain ⟨d, rfl⟩ := Int.eq_ofNat_of_zero_le (show 0 ≤ tr by omega)
    by_cases hn : l.length ≤ 400
    · exact LawT_ok A c a b d l w hn hN hR
    · exact LawT_big A c a b d l.length w (by omega) hN
  · exact LawT_bad A c sz th tr l.length w hN

end Go.Proofs.Ytmllbailfbjoeaa

/- csp: what Answer answers, whatever came; the example that each law of csp ends with. -/
import Derived.Test.YtknlhkkpheahlaaDoorCsp4
namespace Go.Proofs.YtknlhkkpheahlaaDoor
open Go.RowKit Go.Sort Go.Extern.Stop Go.Stop Go.Extern

/-- Told without an error. -/
def ansQ (q : Reqr) (l : List Cse) (r : Resr) : Bool := r.code == 0 || (r.code == 10 && q.kind == 3) || (r.code == 9 && recvB l r.case_)
/-- Told with the call's handles. -/
def ansT (l : List Cse) (r : Resr) : Bool := (r.code == 9 && !recvB l r.case_) || r.code == 11 || r.code == 8
def ansV (q : Reqr) (l : List Cse) (r : Resr) : Int := if ansQ q l r then r.value else 0
def ansC (q : Reqr) (l : List Cse) (r : Resr) : Int := if ansQ q l r || ansT l r then r.case_ else 0
def ansCh (t : Int) (q : Reqr) (l : List Cse) (r : Resr) : List (ByteArray × Int) := [(thrS, t), (if ansT l r then textS q l else nameS q l, r.seq)]

def AnsPost (t : Int) (q : Reqr) (l : List Cse) (r : Resr) (w : World) (e : Ending) (w' : World) : Prop :=
  ∃ err, e = .returned (outV (ansV q l r) (ansC q l r) (r.code == 0) err) ∧ (ansQ q l r = true → err = .nilIface) ∧ (ansQ q l r = false → Chain w.heap.size w' err (ansCh t q l r) r.code) ∧ Below w.heap.size w w'

theorem Answer_any (t : Int) (q : Reqr) (l : List Cse) (r : Resr) (w : World) (h : ReqAt w q l) (hl : HandlesOk l) (hn : l.length ≤ 1099511627776000) (ht : TabT w) :
    Calls Tryd.prog 6 #[.int .i64 t, reqV q, rsV r] w (AnsPost t q l r w) := by
  by_cases h0 : r.code = 0
  · have hQ : ansQ q l r = true := by simp [ansQ, h0]
    refine (Answer_ok t q r w h0).mono fun e w' ⟨he, hb⟩ => ⟨.nilIface, ?_, fun _ => rfl, fun h => (by rw [hQ] at h; cases h), hb⟩
    rw [he, ansV, ansC, hQ, h0]; rfl
  · have e0 : (r.code == 0) = false := by simpa using h0
    by_cases h1 : r.code = 10 ∧ q.kind = 3
    · have hQ : ansQ q l r = true := by simp [ansQ, h1.1, h1.2]
      refine (Answer_dflt t q r w h1.1 h1.2).mono fun e w' ⟨he, hb⟩ => ⟨.nilIface, ?_, fun _ => rfl, fun h => (by rw [hQ] at h; cases h), hb⟩
      rw [he, ansV, ansC, hQ, e0]; rfl
    · by_cases h2 : r.code = 9 ∧ recvB l r.case_ = true
      · have hQ : ansQ q l r = true := by simp [ansQ, h2.1, h2.2]
        refine (Answer_recv t q l r w h h2.1 h2.2).mono fun e w' ⟨he, hb⟩ => ⟨.nilIface, ?_, fun _ => rfl, fun h => (by rw [hQ] at h; cases h), hb⟩
        rw [he, ansV, ansC, hQ, e0]; rfl
      · have hQ : ansQ q l r = false := by
          simp only [ansQ, e0, Bool.false_or, Bool.or_eq_false_iff, Bool.and_eq_false_iff, beq_eq_false_iff_ne]
          constructor
          · by_cases h : r.code = 10
            · exact .inr fun hk => h1 ⟨h, hk⟩
            · exact .inl h
          · by_cases h : r.code = 9
            · right; cases hr : recvB l r.case_ with
              | true => exact absurd ⟨h, hr⟩ h2
              | false => rfl
            · exact .inl h
        by_cases h3 : textB l r
        · have hT : ansT l r = true := by
            unfold textB at h3
            rcases h3 with ⟨a, b⟩ | a | a <;> simp [ansT, a]
            simp [b]
          refine (Answer_text t q l r w h hl hn ht h3).mono fun e w' ⟨⟨v, he, hc⟩, hb⟩ => ⟨v, ?_, fun h => (by rw [hQ] at h; cases h), fun _ => ?_, hb⟩
          · rw [he, ansV, ansC, hQ, hT, e0]; rfl
          · rw [ansCh, hT]; exact hc
        · have hT : ansT l r = false := by
            unfold textB at h3
            simp only [not_or, not_and] at h3
            simp only [ansT, Bool.or_eq_false_iff, Bool.and_eq_false_iff, beq_eq_false_iff_ne]
            refine ⟨⟨?_, h3.2.1⟩, h3.2.2⟩
            by_cases h : r.code = 9
            · right; have := h3.1 h; simp at this; simp [this]
            · exact .inl h
          have hB : bareB q r := by
            refine ⟨h0, h1, fun h9 => ?_, fun h11 => h3 (.inr (.inl h11)), fun h8 => h3 (.inr (.inr h8))⟩
            cases hr : recvB l r.case_ with
            | true => exact h2 ⟨h9, hr⟩
            | false => exact h3 (.inl ⟨h9, hr⟩)
          refine (Answer_bare t q l r w h hB).mono fun e w' ⟨⟨v, he, hc⟩, hb⟩ => ⟨v, ?_, fun h => (by rw [hQ] at h; cases h), fun _ => ?_, hb⟩
          · rw [he, ansV, ansC, hQ, hT, e0]; rfl
          · rw [ansCh, hT]; exact hc

theorem ex_name (A : Option Addr) (c : Nat) : nameS ⟨3, 0, 0, false, A, 1, c⟩ [⟨1, 8, 5⟩] = ⟨#[115, 101, 110, 100]⟩ := by
  unfold nameS namedS; rw [if_pos rfl, if_pos rfl, if_pos (by decide)]; exact (by decide +kernel : tryS false ++ ⟨#[115, 101, 110, 100]⟩ = (⟨#[115, 101, 110, 100]⟩ : ByteArray))
theorem ex_text (A : Option Addr) (c : Nat) : textS ⟨3, 0, 0, false, A, 1, c⟩ [⟨1, 8, 5⟩] = ⟨#[115, 101, 110, 100, 32, 56]⟩ := by
  unfold textS; rw [ex_name]; decide +kernel
theorem ex_chain : chainS [(thrS, 2), (⟨#[115, 101, 110, 100, 32, 56]⟩, 3)] 9 = ⟨#[116, 104, 114, 101, 97, 100, 32, 50, 58, 32, 115, 101, 110, 100, 32, 56, 32, 51, 58, 32, 101, 114, 114, 111, 114, 32, 57]⟩ := by decide +kernel
theorem ex_tryrecv (A : Option Addr) (c : Nat) : nameS ⟨3, 0, 0, true, A, 1, c⟩ [⟨2, 8, 0⟩] = ⟨#[116, 114, 121, 114, 101, 99, 118]⟩ := by
  unfold nameS namedS; rw [if_pos rfl, if_pos rfl, if_neg (by decide), if_pos (by decide)]; exact (by decide +kernel : tryS true ++ ⟨#[114, 101, 99, 118]⟩ = (⟨#[116, 114, 121, 114, 101, 99, 118]⟩ : ByteArray))

theorem ex_recvF : recvB [⟨1, 8, 5⟩] 0 = false := by decide
theorem ex_recvT : recvB [⟨2, 8, 0⟩] 0 = true := by decide

set_option maxHeartbeats 4000000 in
set_option maxRecDepth 100000 in
theorem awake23_any (w : World) (ht : TabT w) : Calls Tryd.prog 8 #[] w fun e w' => e = .returned (.bool true) ∧ Below w.heap.size w w' := by
  have HT := Lib.hid ht
  clear ht
  go_enter Tryd.func8, Tryd.ntmps8
  go_wp2_with fail
  refine (Send_any 8 5 w).mono ?_
  rintro e w1 ⟨A1, n1, c1, rfl, hq1, rfl, _, hb1⟩
  have HQ1 := Lib.hid hq1
  have HB1 := Lib.hid hb1
  clear hq1 hb1
  simp only [List.length_cons, List.length_nil] at HQ1 ⊢
  have HA1 := Lib.hid (Answer_text 2 ⟨3, 0, 0, false, A1, 1, c1⟩ [⟨1, 8, 5⟩] ⟨3, 0, 9, 0⟩ w1 HQ1.out (by intro a ha; simp at ha; subst ha; exact ⟨by decide, by decide⟩) (by simp) (HT.out.below HB1.out) (.inl ⟨rfl, ex_recvF⟩))
  rw [ex_text] at HA1
  go_wp2_with fail
  refine HA1.out.mono ?_
  rintro e w2 ⟨⟨v2, rfl, hc2⟩, hb2⟩
  have HB2 := Lib.hid (HB1.out.trans (hb2.mono HB1.out.size))
  obtain ⟨g2, v2', rfl, hg2, hblk2, hr2⟩ := hc2
  have HC2 := Lib.hid (show Chain w1.heap.size w2 (faultV g2) [(thrS, 2), (⟨#[115, 101, 110, 100, 32, 56]⟩, 3)] 9 from ⟨g2, v2', rfl, hg2, hblk2, hr2⟩)
  clear hb2 hblk2 hr2 hg2 HA1 HQ1 HB1
  go_wp2_with fail
  refine (Recv_any 8 _).mono ?_
  rintro e w3 ⟨A3, n3, c3, rfl, hq3, rfl, _, hb3⟩
  have hb23 : Below w2.heap.size w2 w3 := ((Below.refl _ _).alloc (Nat.le_refl _) _).trans (hb3.mono (by simp))
  have HX3 := Lib.hid ((Blk.new w2 31 (outC 0 0 false (faultV g2))).below hb3 (by simp))
  have HQ3 := Lib.hid hq3
  have HB3 := Lib.hid (HB2.out.trans (hb23.mono HB2.out.size))
  have HC3 := Lib.hid (HC2.out.below hb23)
  clear hq3 hb3 hb23 HB2 HC2
  simp only [List.length_cons, List.length_nil] at HQ3 ⊢
  have HA3 := Lib.hid (Answer_recv 2 ⟨3, 0, 0, false, A3, 1, c3⟩ [⟨2, 8, 0⟩] ⟨3, 0, 9, 0⟩ w3 HQ3.out rfl ex_recvT)
  go_wp2_with fail
  refine HA3.out.mono ?_
  rintro e w4 ⟨rfl, hb4⟩
  have HX4 := Lib.hid (HX3.out.below hb4 HX3.out.lt)
  have HB4 := Lib.hid (HB3.out.trans (hb4.mono HB3.out.size))
  have HC4 := Lib.hid (HC3.out.below hb4)
  have x3 : w4.cell? ⟨w2.heap.size, 3, none⟩ = some (faultV g2) := HX4.out.cell rfl
  have hx3 := HX4.out.lt
  clear hb4 HA3 HQ3 HX3 HB3 HC3
  have mF := mErrorF
  have HB5 := Lib.hid (show Below w.heap.size w (w4.alloc (.cells #[.int .i64 0, .int .i64 0, .bool false, .nilIface] 31)) from HB4.out.alloc HB4.out.size _)
  have HC5 := Lib.hid (show Chain w1.heap.size (w4.alloc (.cells #[.int .i64 0, .int .i64 0, .bool false, .nilIface] 31)) (faultV g2) [(thrS, 2), (⟨#[115, 101, 110, 100, 32, 56]⟩, 3)] 9 from HC4.out.below ((Below.refl _ _).alloc (Nat.le_refl _) _))
  have HER := Lib.hid (ErrorF_any w1.heap.size [(thrS, 2), (⟨#[115, 101, 110, 100, 32, 56]⟩, 3)] 9 g2 _ (by simp) HC5.out (by intro a ha; simp at ha; rcases ha with rfl | rfl <;> exact ⟨by decide, by decide⟩) ⟨by decide, by decide⟩ (by rw [ex_chain]; decide) (HT.out.below HB5.out))
  rw [ex_chain] at HER
  go_wp2_with fail
  refine HER.out.mono ?_
  rintro e w6 ⟨rfl, hb6⟩
  have hb46 : Below w4.heap.size w4 w6 := ((Below.refl _ _).alloc (Nat.le_refl _) _).trans (hb6.mono (by simp))
  have HX6 := Lib.hid (HX4.out.below hb46 HX4.out.lt)
  have HY6 := Lib.hid ((Blk.new w4 31 (outC 0 0 false .nilIface)).below hb6 (by simp))
  have HB6 := Lib.hid (HB5.out.trans (hb6.mono HB5.out.size))
  have HC6 := Lib.hid (HC5.out.below hb6)
  have z3 : w6.cell? ⟨w2.heap.size, 3, none⟩ = some (faultV g2) := HX6.out.cell rfl
  have y2 : w6.cell? ⟨w4.heap.size, 2, none⟩ = some (.bool false) := HY6.out.cell rfl
  have y3 : w6.cell? ⟨w4.heap.size, 3, none⟩ = some .nilIface := HY6.out.cell rfl
  clear hb6 hb46 x3 hx3 HER HC5 HB5 HB4 HC4 HX4
  go_wp2_with fail
  refine (FIs_any _ _ _ _ 9 _ HC6.out).mono ?_
  rintro e w7 ⟨rfl, rfl⟩
  go_wp2_with fail
  refine (TryRecv_any 8 _).mono ?_
  rintro e w8 ⟨A8, n8, c8, rfl, hq8, rfl, _, hb8⟩
  simp only [List.length_cons, List.length_nil] at hq8 ⊢
  have HB8 := Lib.hid (HB6.out.trans (hb8.mono HB6.out.size))
  have HN := Lib.hid (Name_any _ _ _ hq8)
  rw [ex_tryrecv] at HN
  clear hq8 hb8 HB6 HC6 HX6 HY6 y2 y3 z3
  go_wp2_with fail
  refine HN.out.mono ?_
  rintro e w9 ⟨rfl, hb9⟩
  have HB9 := Lib.hid (HB8.out.trans (hb9.mono HB8.out.size))
  clear hb9 HN HB8
  go_wp2_with fail
  refine (Send_any 8 5 _).mono ?_
  rintro e wa ⟨Aa, na, ca, rfl, _, rfl, _, hba⟩
  have HBa := Lib.hid (HB9.out.trans (hba.mono HB9.out.size))
  clear hba HB9
  simp only [List.length_cons, List.length_nil]
  go_wp2_with fail
  refine (Waits_any ⟨3, 0, 0, false, Aa, 1, ca⟩ _).mono ?_
  rintro e wb ⟨rfl, hbb⟩
  have HBb := Lib.hid (HBa.out.trans (hbb.mono HBa.out.size))
  clear hbb HBa
  go_wp2_with fail
  refine (TrySend_any 8 5 _).mono ?_
  rintro e wc ⟨Ac, nc, cc, rfl, _, rfl, _, hbc⟩
  have HBc := Lib.hid (HBb.out.trans (hbc.mono HBb.out.size))
  clear hbc HBb
  simp only [List.length_cons, List.length_nil]
  go_wp2_with fail
  refine (Waits_any ⟨3, 0, 0, true, Ac, 1, cc⟩ _).mono ?_
  rintro e wd ⟨rfl, hbd⟩
  have HBd := Lib.hid (HBc.out.trans (hbd.mono HBc.out.size))
  clear hbd HBc
  go_wp2
  go_ret
  exact ⟨rfl, HBd.out⟩

end Go.Proofs.YtknlhkkpheahlaaDoor

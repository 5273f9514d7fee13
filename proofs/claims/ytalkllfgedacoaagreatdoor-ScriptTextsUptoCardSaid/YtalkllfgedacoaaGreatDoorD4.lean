/- Plain: events as lines of text, and read from lines: definitions, and numbers. -/
import Derived.Test.YtalkllfgedacoaaGreatDoorD3
import Derived.Test.YtalkllfgedacoaaGreatDoorD2
import Derived.Lib.ItoaMem
namespace Go.Proofs.YtalkllfgedacoaaGreatDoor
open Go.RowKit Go.Sort

theorem kaseS_size {x : Cse} (h1 : In64 x.handle) (h2 : In64 x.value) : (kaseS x).size ≤ 48 := by
  have e1 := itoaS_size h1
  have e2 := itoaS_size h2
  unfold kaseS
  split
  · simp only [ByteArray.size_append]; have : w_sendS.size = 4 := rfl; have : (⟨#[58]⟩ : ByteArray).size = 1 := rfl; omega
  · simp only [ByteArray.size_append]; have : w_recvS.size = 4 := rfl; have : (⟨#[58]⟩ : ByteArray).size = 1 := rfl; omega

set_option maxHeartbeats 4000000 in
set_option maxRecDepth 100000 in
theorem kase24_any (x : Cse) (w : World) (h1 : In64 x.handle) (h2 : In64 x.value) (ht : TabT w) :
    Calls Tryz.prog 64 #[cseV x] w fun e w' => e = .returned (.string (kaseS x)) ∧ Below w.heap.size w w' := by
  obtain ⟨d, h, v⟩ := x
  show Calls Tryz.prog 64 #[.agg #[.int .i64 d, .int .i64 h, .int .i64 v]] w (fun e w' => e = .returned (.string (kaseS ⟨d, h, v⟩)) ∧ Below w.heap.size w w')
  have z1 := itoaS_size h1
  have z2 := itoaS_size h2
  have HT := Lib.hid ht
  have HI1 := Lib.hid (fun W => Itoa_any h h1 W)
  have HI2 := Lib.hid (fun W => Itoa_any v h2 W)
  have HK : RowKit.Hid (kaseS ⟨d, h, v⟩ = if d = 1 then w_sendS ++ ⟨#[58]⟩ ++ itoaS h ++ ⟨#[58]⟩ ++ itoaS v else w_recvS ++ ⟨#[58]⟩ ++ itoaS h) := Lib.hid rfl
  have HX := Lib.hid (Blk.new w 110 [.int .i64 d, .int .i64 h, .int .i64 v])
  have B0 := Lib.hid ((Below.refl w.heap.size w).alloc (Nat.le_refl _) (.cells [Value.int .i64 d, .int .i64 h, .int .i64 v].toArray 110))
  clear h1 h2 ht
  simp only at z1 z2
  generalize kaseS ⟨d, h, v⟩ = K at *
  generalize itoaS h = ih at *
  generalize itoaS v = iv at *
  have y0 := HX.out.cell (i := 0) rfl
  have y1 := HX.out.cell (i := 1) rfl
  have y2 := HX.out.cell (i := 2) rfl
  have hwl := HX.out.lt
  by_cases hd : d = 1
  · have q1 : (d == 1) = true := by simpa using hd
    have HKV : RowKit.Hid (K = ⟨#[115, 101, 110, 100, 58]⟩ ++ ih ++ ⟨#[58]⟩ ++ iv) := Lib.hid (by rw [HK.out, if_pos hd]; rfl)
    clear hd HK
    go_enter Tryz.func64, Tryz.ntmps64
    go_upto_region 2 with (fail)
    have HTW := Lib.hid (HT.out.below B0.out)
    have hW : RowKit.Hid (w.alloc (.cells [Value.int .i64 d, .int .i64 h, .int .i64 v].toArray 110) = w.alloc (.cells #[Value.int .i64 d, .int .i64 h, .int .i64 v] 110)) := Lib.hid rfl
    rw [hW.out] at HX B0 y0 y1 y2 hwl HTW
    clear hW
    generalize w.alloc (.cells #[Value.int .i64 d, .int .i64 h, .int .i64 v] 110) = W at *
    have HTD : RowKit.Hid (TabT W.drew) := Lib.hid (HTW.out.below (Below.drewN' (Below.refl _ _) 1))
    have d1 : ¬ 9223372036854775807 < 5 + ih.size := by omega
    have d2 : ¬ 9223372036854775807 < 5 + ih.size + 1 := by omega
    have d3 : ¬ 9223372036854775807 < 5 + ih.size + 1 + iv.size := by omega
    go_region_held3 (fun w' => w'.cell? ⟨w.heap.size, 1, none⟩ = some (.int .i64 h) ∧ w'.cell? ⟨w.heap.size, 2, none⟩ = some (.int .i64 v)) (first | go_keep | (simp only [hk1, hk2]; go_keep)) (first
      | (go_at_call 65; (with_reducible refine (HI1.out W.drew HTD.out).mono ?_); rintro er w1 ⟨rfl, hb1⟩; have hB1 : Below W.heap.size W w1 := ⟨hb1.os, hb1.tape, hb1.output, hb1.size, hb1.block⟩; have HT1 := Lib.hid (HTW.out.below hB1); have hk1 := fun o => hB1.cell (p := ⟨w.heap.size, o, none⟩) hwl)
      | (go_at_call 65; (with_reducible refine (HI2.out w1 HT1.out).mono ?_); rintro er w2 ⟨rfl, hb2⟩; have hB2 : Below W.heap.size W w2 := hB1.trans (hb2.mono hB1.size); have hk2 := fun o => hB2.cell (p := ⟨w.heap.size, o, none⟩) hwl))
    have HB2 := Lib.hid hB2
    go_wp2
    go_ret
    refine ⟨by rw [HKV.out]; rfl, ?_⟩
    exact B0.out.trans (HB2.out.mono B0.out.size)
  · have q1 : (d == 1) = false := by simpa using hd
    have HKV : RowKit.Hid (K = ⟨#[114, 101, 99, 118, 58]⟩ ++ ih) := Lib.hid (by rw [HK.out, if_neg hd]; rfl)
    clear hd HK
    go_enter Tryz.func64, Tryz.ntmps64
    have d1 : ¬ 9223372036854775807 < 5 + ih.size := by omega
    go_upto_region 3 with (fail)
    have hW : RowKit.Hid (w.alloc (.cells [Value.int .i64 d, .int .i64 h, .int .i64 v].toArray 110) = w.alloc (.cells #[Value.int .i64 d, .int .i64 h, .int .i64 v] 110)) := Lib.hid rfl
    rw [hW.out] at HX B0 y0 y1 y2 hwl
    clear hW
    have HT1 := HT.out.below B0.out
    generalize w.alloc (.cells #[Value.int .i64 d, .int .i64 h, .int .i64 v] 110) = W at *
    go_wp2_with (go_at_call 65; refine (HI1.out W HT1).mono ?_; rintro er w1 ⟨rfl, hb1⟩)
    go_ret
    refine ⟨by rw [HKV.out]; rfl, ?_⟩
    exact B0.out.trans (hb1.mono B0.out.size)

end Go.Proofs.YtalkllfgedacoaaGreatDoor

namespace Go.Proofs.YtalkllfgedacoaaGreatDoor
open Go.RowKit Go.Sort

theorem itoaS_no (c : UInt8) (hc : c ≠ 45) (hd : c.toNat < 48 ∨ 57 < c.toNat) (n : Int) : c ∉ (itoaS n).data.toList := by
  intro h
  have h' : c ∈ Lib.itoa n := by simpa [itoaS] using h
  have hdd : ∀ k, c ∉ Lib.decDigits k := fun k hk => by have := dec_digit k c hk; omega
  unfold Lib.itoa at h'
  split at h'
  · rcases List.mem_cons.1 h' with h1 | h1
    · exact hc h1
    · exact hdd _ h1
  · exact hdd _ h'
theorem bytes_app (a b : ByteArray) : (a ++ b).data.toList = a.data.toList ++ b.data.toList := by simp
theorem kaseS_no (x : Cse) : (32 : UInt8) ∉ (kaseS x).data.toList := by
  have h1 := itoaS_no 32 (by decide) (.inl (by decide)) x.handle
  have h2 := itoaS_no 32 (by decide) (.inl (by decide)) x.value
  unfold kaseS
  split
  · simp only [bytes_app, List.mem_append, not_or]
    exact ⟨⟨⟨⟨by decide, by decide⟩, h1⟩, by decide⟩, h2⟩
  · simp only [bytes_app, List.mem_append, not_or]
    exact ⟨⟨by decide, by decide⟩, h1⟩

/-- Which calls there are. -/
theorem name_ways (q : Reqr) (cs : List Cse) : nameS q cs = ⟨#[]⟩
    ∨ (nameS q cs = selS ∧ argsS q cs = (if q.dflt = true then [w_defS] else []) ++ cs.map kaseS ∧ q.kind = 3)
    ∨ (q.kind = 3 ∧ q.n = 1 ∧ (cs.getD 0 Cse.none).dir = 1 ∧ (nameS q cs = w_sendS ∨ nameS q cs = w_trysendS) ∧ argsS q cs = [itoaS (cs.getD 0 Cse.none).handle, itoaS (cs.getD 0 Cse.none).value])
    ∨ (q.kind = 3 ∧ q.n = 1 ∧ (cs.getD 0 Cse.none).dir ≠ 1 ∧ (nameS q cs = w_recvS ∨ nameS q cs = w_tryrecvS) ∧ argsS q cs = [itoaS (cs.getD 0 Cse.none).handle])
    ∨ (q.kind = 7 ∧ nameS q cs = w_cancelS ∧ argsS q cs = [itoaS q.arg, itoaS q.value])
    ∨ (q.kind = 8 ∧ nameS q cs = w_putS ∧ argsS q cs = [itoaS q.value])
    ∨ (q.kind = 9 ∧ nameS q cs = w_takeS ∧ argsS q cs = [])
    ∨ ((q.kind ≠ 3 ∧ q.kind ≠ 7 ∧ q.kind ≠ 8 ∧ q.kind ≠ 9) ∧ (nameS q cs = w_makeS ∨ nameS q cs = w_freeS ∨ nameS q cs = w_closeS ∨ nameS q cs = w_lenS ∨ nameS q cs = w_capS) ∧ argsS q cs = [itoaS q.arg]) := by
  by_cases h3 : q.kind = 3
  · have e : nameS q cs = namedS q cs := by unfold nameS; rw [if_pos h3]
    have ea : argsS q cs = (if nameS q cs = selS then (if q.dflt = true then [w_defS] else []) ++ cs.map kaseS
     else if (cs.getD 0 Cse.none).dir = 1 then [itoaS (cs.getD 0 Cse.none).handle, itoaS (cs.getD 0 Cse.none).value] else [itoaS (cs.getD 0 Cse.none).handle]) := by unfold argsS; rw [if_pos h3]
    by_cases hn : q.n = 1
    · by_cases h1 : (cs.getD 0 Cse.none).dir = 1
      · have e2 : namedS q cs = tryS q.dflt ++ ⟨#[115, 101, 110, 100]⟩ := by unfold namedS; rw [if_pos hn, if_pos h1]
        have hc : nameS q cs = w_sendS ∨ nameS q cs = w_trysendS := by rw [e, e2]; cases q.dflt; (left; decide +kernel); (right; decide +kernel)
        refine .inr (.inr (.inl ⟨h3, hn, h1, hc, ?_⟩))
        rw [ea, if_neg (by rcases hc with h | h <;> rw [h] <;> decide +kernel), if_pos h1]
      · by_cases h2 : (cs.getD 0 Cse.none).dir = 2
        · have e2 : namedS q cs = tryS q.dflt ++ ⟨#[114, 101, 99, 118]⟩ := by unfold namedS; rw [if_pos hn, if_neg h1, if_pos h2]
          have hc : nameS q cs = w_recvS ∨ nameS q cs = w_tryrecvS := by rw [e, e2]; cases q.dflt; (left; decide +kernel); (right; decide +kernel)
          refine .inr (.inr (.inr (.inl ⟨h3, hn, h1, hc, ?_⟩)))
          rw [ea, if_neg (by rcases hc with h | h <;> rw [h] <;> decide +kernel), if_neg h1]
        · have e2 : nameS q cs = selS := by rw [e]; unfold namedS; rw [if_pos hn, if_neg h1, if_neg h2]
          exact .inr (.inl ⟨e2, by rw [ea, if_pos e2], h3⟩)
    · have e2 : nameS q cs = selS := by rw [e]; unfold namedS; rw [if_neg hn]
      exact .inr (.inl ⟨e2, by rw [ea, if_pos e2], h3⟩)
  · have ea : argsS q cs = (if q.kind = 7 then [itoaS q.arg, itoaS q.value]
      else if q.kind = 8 then [itoaS q.value]
      else if q.kind = 9 then []
      else [itoaS q.arg]) := by unfold argsS; rw [if_neg h3]
    by_cases h1 : q.kind = 1
    · have e : nameS q cs = w_makeS := by unfold nameS; rw [if_neg h3, if_pos h1]; rfl
      exact .inr <| .inr <| .inr <| .inr <| .inr <| .inr <| .inr ⟨by omega, .inl e, by rw [ea, if_neg (by omega), if_neg (by omega), if_neg (by omega)]⟩
    by_cases h2 : q.kind = 2
    · have e : nameS q cs = w_freeS := by unfold nameS; rw [if_neg h3, if_neg h1, if_pos h2]; rfl
      exact .inr <| .inr <| .inr <| .inr <| .inr <| .inr <| .inr ⟨by omega, .inr <| .inl e, by rw [ea, if_neg (by omega), if_neg (by omega), if_neg (by omega)]⟩
    by_cases h4 : q.kind = 4
    · have e : nameS q cs = w_closeS := by unfold nameS; rw [if_neg h3, if_neg h1, if_neg h2, if_pos h4]; rfl
      exact .inr <| .inr <| .inr <| .inr <| .inr <| .inr <| .inr ⟨by omega, .inr <| .inr <| .inl e, by rw [ea, if_neg (by omega), if_neg (by omega), if_neg (by omega)]⟩
    by_cases h5 : q.kind = 5
    · have e : nameS q cs = w_lenS := by unfold nameS; rw [if_neg h3, if_neg h1, if_neg h2, if_neg h4, if_pos h5]; rfl
      exact .inr <| .inr <| .inr <| .inr <| .inr <| .inr <| .inr ⟨by omega, .inr <| .inr <| .inr <| .inl e, by rw [ea, if_neg (by omega), if_neg (by omega), if_neg (by omega)]⟩
    by_cases h6 : q.kind = 6
    · have e : nameS q cs = w_capS := by unfold nameS; rw [if_neg h3, if_neg h1, if_neg h2, if_neg h4, if_neg h5, if_pos h6]; rfl
      exact .inr <| .inr <| .inr <| .inr <| .inr <| .inr <| .inr ⟨by omega, .inr <| .inr <| .inr <| .inr e, by rw [ea, if_neg (by omega), if_neg (by omega), if_neg (by omega)]⟩
    by_cases h7 : q.kind = 7
    · have e : nameS q cs = w_cancelS := by unfold nameS; rw [if_neg h3, if_neg h1, if_neg h2, if_neg h4, if_neg h5, if_neg h6, if_pos h7]; rfl
      exact .inr <| .inr <| .inr <| .inr <| .inl ⟨h7, e, by rw [ea, if_pos h7]⟩
    by_cases h8 : q.kind = 8
    · have e : nameS q cs = w_putS := by unfold nameS; rw [if_neg h3, if_neg h1, if_neg h2, if_neg h4, if_neg h5, if_neg h6, if_neg h7, if_pos h8]; rfl
      exact .inr <| .inr <| .inr <| .inr <| .inr <| .inl ⟨h8, e, by rw [ea, if_neg h7, if_pos h8]⟩
    by_cases h9 : q.kind = 9
    · have e : nameS q cs = w_takeS := by unfold nameS; rw [if_neg h3, if_neg h1, if_neg h2, if_neg h4, if_neg h5, if_neg h6, if_neg h7, if_neg h8, if_pos h9]; rfl
      exact .inr <| .inr <| .inr <| .inr <| .inr <| .inr <| .inl ⟨h9, e, by rw [ea, if_neg h7, if_neg h8, if_pos h9]⟩
    exact .inl (by unfold nameS; rw [if_neg h3, if_neg h1, if_neg h2, if_neg h4, if_neg h5, if_neg h6, if_neg h7, if_neg h8, if_neg h9])

/-- A call's values are 64 bits. -/
def CallIn (q : Reqr) (cs : List Cse) : Prop := In64 q.arg ∧ In64 q.value ∧ ∀ x ∈ cs, In64 x.handle ∧ In64 x.value
theorem CallIn.one {q : Reqr} {cs : List Cse} (h : CallIn q cs) : In64 (cs.getD 0 Cse.none).handle ∧ In64 (cs.getD 0 Cse.none).value := by
  cases cs with
  | nil => exact ⟨⟨by decide, by decide⟩, ⟨by decide, by decide⟩⟩
  | cons x r => exact h.2.2 x (List.mem_cons_self ..)

theorem args_ok {q : Reqr} {cs : List Cse} (h : CallIn q cs) : ∀ x ∈ argsS q cs, x.size ≤ 48 ∧ (32 : UInt8) ∉ x.data.toList := by
  have hi : ∀ n, In64 n → (itoaS n).size ≤ 48 ∧ (32 : UInt8) ∉ (itoaS n).data.toList := fun n hn => ⟨by have := itoaS_size hn; omega, itoaS_no 32 (by decide) (.inl (by decide)) n⟩
  have h1 := hi _ h.1
  have h2 := hi _ h.2.1
  have h3 := hi _ h.one.1
  have h4 := hi _ h.one.2
  have hk : ∀ x ∈ (if q.dflt = true then [w_defS] else []) ++ cs.map kaseS, x.size ≤ 48 ∧ (32 : UInt8) ∉ x.data.toList := by
    intro x hx
    rcases List.mem_append.1 hx with hx | hx
    · split at hx
      · rw [List.mem_singleton] at hx; subst hx; exact ⟨by decide, by decide⟩
      · cases hx
    · obtain ⟨y, hy, rfl⟩ := List.mem_map.1 hx
      have := h.2.2 y hy
      exact ⟨kaseS_size this.1 this.2, kaseS_no y⟩
  intro x hx
  unfold argsS at hx
  split at hx
  · split at hx
    · exact hk x hx
    · split at hx
      · simp only [List.mem_cons, List.not_mem_nil, or_false] at hx; rcases hx with rfl | rfl; exact h3; exact h4
      · simp only [List.mem_cons, List.not_mem_nil, or_false] at hx; subst hx; exact h3
  · split at hx
    · simp only [List.mem_cons, List.not_mem_nil, or_false] at hx; rcases hx with rfl | rfl; exact h1; exact h2
    · split at hx
      · simp only [List.mem_cons, List.not_mem_nil, or_false] at hx; subst hx; exact h2
      · split at hx
        · cases hx
        · simp only [List.mem_cons, List.not_mem_nil, or_false] at hx; subst hx; exact h1

theorem args_len (q : Reqr) (cs : List Cse) : (argsS q cs).length ≤ cs.length + 2 := by
  unfold argsS
  split
  · split
    · rw [List.length_append, List.length_map]
      have : (if q.dflt = true then [w_defS] else []).length ≤ 1 := by split <;> decide
      omega
    · split <;> simp
  · split
    · simp
    · split
      · simp
      · split <;> simp

theorem name_ok (q : Reqr) (cs : List Cse) : (nameS q cs).size ≤ 8 ∧ (32 : UInt8) ∉ (nameS q cs).data.toList := by
  rcases name_ways q cs with h | ⟨h, _⟩ | ⟨_, _, _, h | h, _⟩ | ⟨_, _, _, h | h, _⟩ | ⟨_, h, _⟩ | ⟨_, h, _⟩ | ⟨_, h, _⟩ | ⟨_, h | h | h | h | h, _⟩ <;>
  · rw [h]; exact ⟨by decide, by decide⟩

theorem lens_le : ∀ (r : List ByteArray), (∀ x ∈ r, x.size ≤ 48) → Lib.lens (r.map (·.data.toList)) ≤ 48 * r.length
  | [], _ => by simp [Lib.lens]
  | x :: r, h => by
    have h1 := lens_le r (fun y hy => h y (List.mem_cons_of_mem _ hy))
    have h2 := h x (List.mem_cons_self ..)
    have h3 : x.data.toList.length = x.size := rfl
    simp only [Lib.lens, List.map_cons, List.sum_cons, List.length_cons] at h1 ⊢
    omega

theorem say_size {q : Reqr} {cs : List Cse} (h : CallIn q cs) : (sayS q cs).size ≤ 8 + 49 * (cs.length + 2) := by
  have h1 := (name_ok q cs).1
  have h2 := lens_le (argsS q cs) (fun x hx => (args_ok h x hx).1)
  have h3 := args_len q cs
  have h4 : (sayS q cs).size = (nameS q cs).size + (Lib.joinTail [32] ((argsS q cs).map (·.data.toList))).length := by
    unfold sayS
    show ((_ ++ _ : List UInt8).toArray).size = _
    rw [List.size_toArray, List.length_append]
    rfl
  rw [h4, Lib.joinTail_length, List.length_map]
  simp only [List.length_cons, List.length_nil]
  omega

theorem say_words {q : Reqr} {cs : List Cse} (h : CallIn q cs) : wordsC 32 (sayS q cs) = nameS q cs :: argsS q cs := by
  unfold sayS
  rw [wordsC_join 32 (nameS q cs).data.toList ((argsS q cs).map (·.data.toList))]
  · rw [List.map_cons, List.map_map]
    have e1 : (⟨(nameS q cs).data.toList.toArray⟩ : ByteArray) = nameS q cs := by simp
    rw [e1]
    congr 1
    have : ((fun y : List UInt8 => (⟨y.toArray⟩ : ByteArray)) ∘ fun x : ByteArray => x.data.toList) = id := by funext x; simp
    rw [this, List.map_id]
  · intro y hy
    rcases List.mem_cons.1 hy with rfl | hy
    · exact (name_ok q cs).2
    · obtain ⟨x, hx, rfl⟩ := List.mem_map.1 hy
      exact (args_ok h x hx).2

theorem callS_eq {q : Reqr} {cs : List Cse} (h : CallIn q cs) : callS q cs = if nameS q cs = ⟨#[]⟩ then ⟨#[]⟩ else match callQ (nameS q cs :: argsS q cs) with
  | none => ⟨#[]⟩
  | some r => if sameQ q cs r = true then sayS q cs else ⟨#[]⟩ := by
  unfold callS
  rw [say_words h]
  by_cases h0 : nameS q cs = ⟨#[]⟩
  · rw [if_pos h0, if_pos h0]
  · rw [if_neg h0, if_neg h0]
    cases callQ (nameS q cs :: argsS q cs) <;> rfl

theorem callS_size {q : Reqr} {cs : List Cse} (h : CallIn q cs) : (callS q cs).size ≤ 8 + 49 * (cs.length + 2) := by
  have h1 := say_size h
  have h0 : (⟨#[]⟩ : ByteArray).size = 0 := rfl
  unfold callS
  split
  · omega
  · split
    · omega
    · split <;> omega

end Go.Proofs.YtalkllfgedacoaaGreatDoor

namespace Go.Proofs.YtalkllfgedacoaaGreatDoor
open Go.RowKit Go.Sort

def sayL (nm : ByteArray) (l : List ByteArray) : ByteArray := ⟨(nm.data.toList ++ Lib.joinTail [32] (l.map (·.data.toList))).toArray⟩
theorem sayS_eq (q : Reqr) (cs : List Cse) : sayS q cs = sayL (nameS q cs) (argsS q cs) := rfl
theorem sayL_nil (nm : ByteArray) : sayL nm [] = nm := by
  unfold sayL
  simp [Lib.joinTail]
theorem joinTail_app (a b : List (List UInt8)) : Lib.joinTail [32] (a ++ b) = Lib.joinTail [32] a ++ Lib.joinTail [32] b := by
  induction a with
  | nil => simp [Lib.joinTail]
  | cons x r ih => simp [Lib.joinTail] at ih ⊢
theorem bytes_eq2 {a b : ByteArray} (h : a.data.toList = b.data.toList) : a = b := by
  cases a; cases b
  simp only at h
  congr 1
  exact Array.toList_inj.1 h
theorem sayL_snoc (nm : ByteArray) (l : List ByteArray) (x : ByteArray) : sayL nm (l ++ [x]) = sayL nm l ++ ⟨#[32]⟩ ++ x := by
  apply bytes_eq2
  unfold sayL
  rw [List.map_append, joinTail_app, bytes_app, bytes_app]
  simp [Lib.joinTail]
theorem sayL_size {nm : ByteArray} {l : List ByteArray} (hn : nm.size ≤ 8) (hl : ∀ x ∈ l, x.size ≤ 48) : (sayL nm l).size ≤ 8 + 49 * l.length := by
  have h2 := lens_le l hl
  have h4 : (sayL nm l).size = nm.size + (Lib.joinTail [32] (l.map (·.data.toList))).length := by
    unfold sayL
    show ((_ ++ _ : List UInt8).toArray).size = _
    rw [List.size_toArray, List.length_append]
    rfl
  rw [h4, Lib.joinTail_length, List.length_map]
  simp only [List.length_cons, List.length_nil]
  omega
theorem kase_send (s : ByteArray) {k : Cse} (h : k.dir = 1) : s ++ ⟨#[32, 115, 101, 110, 100, 58]⟩ ++ itoaS k.handle ++ ⟨#[58]⟩ ++ itoaS k.value = s ++ ⟨#[32]⟩ ++ kaseS k := by
  apply bytes_eq2
  unfold kaseS
  rw [if_pos h]
  simp only [bytes_app]
  simp [w_sendS]
theorem kase_recv (s : ByteArray) {k : Cse} (h : k.dir ≠ 1) : s ++ ⟨#[32, 114, 101, 99, 118, 58]⟩ ++ itoaS k.handle = s ++ ⟨#[32]⟩ ++ kaseS k := by
  apply bytes_eq2
  unfold kaseS
  rw [if_neg h]
  simp only [bytes_app]
  simp [w_recvS]

end Go.Proofs.YtalkllfgedacoaaGreatDoor

namespace Go.Proofs.YtalkllfgedacoaaGreatDoor
open Go.RowKit Go.Sort

/-! Numbers, spelled and read. -/
def digV : List UInt8 → Nat → Nat
  | [], x => x
  | b :: r, x => digV r (10 * x + (b.toNat - 48))
theorem digV_append : ∀ (l r : List UInt8) (x : Nat), digV (l ++ r) x = digV r (digV l x)
  | [], _, _ => rfl
  | _ :: l, r, _ => digV_append l r _
theorem digV_dec : ∀ n, digV (Lib.decDigits n) 0 = n := by
  intro n
  induction n using Nat.strongRecOn with
  | _ n ih =>
    by_cases h : n < 10
    · have e : (UInt8.ofNat (48 + n)).toNat = 48 + n := by simp; omega
      rw [dec_small h, digV, digV, e]
      omega
    · have e : (UInt8.ofNat (48 + n % 10)).toNat = 48 + n % 10 := by simp; omega
      rw [Lib.decDigits, dif_neg h, digV_append, ih (n / 10) (by omega), digV, digV, e]
      omega
theorem dec_inj {a b : Nat} (h : Lib.decDigits a = Lib.decDigits b) : a = b := by
  have := congrArg (fun l => digV l 0) h
  simpa only [digV_dec] using this
theorem udecS_list (n : Nat) : (udecS n).data.toList = Lib.decDigits n := by unfold udecS; simp
theorem itoaS_list (n : Int) : (itoaS n).data.toList = Lib.itoa n := by unfold itoaS; simp
theorem itoaS_nat (n : Nat) : itoaS (n : Int) = udecS n := by unfold itoaS udecS; rw [Lib.itoa_nonneg]
theorem numQ_itoa {most : Nat} (hm : most ≤ 4294967295) (x : Int) (n : Nat) : numQ most (itoaS x) = some n ↔ x = n ∧ n ≤ most := by
  rw [numQ_iff hm]
  constructor
  · rintro ⟨h1, h2⟩
    refine ⟨?_, h1⟩
    have h3 := congrArg (fun b : ByteArray => b.data.toList) h2
    simp only [itoaS_list, udecS_list] at h3
    by_cases hx : 0 ≤ x
    · obtain ⟨k, rfl⟩ := Int.eq_ofNat_of_zero_le hx
      rw [Lib.itoa_nonneg] at h3
      rw [dec_inj h3]
    · exfalso
      obtain ⟨k, rfl⟩ : ∃ k : Nat, x = -(k : Int) := ⟨x.natAbs, by omega⟩
      rw [Lib.itoa_neg k (by omega)] at h3
      have := dec_digit n 45 (by rw [← h3]; exact List.mem_cons_self ..)
      revert this
      decide
  · rintro ⟨rfl, h⟩
    exact ⟨h, itoaS_nat n⟩
theorem numQ_itoa_none {most : Nat} (hm : most ≤ 4294967295) {x : Int} (h : ¬ (0 ≤ x ∧ x ≤ most)) : numQ most (itoaS x) = none := by
  cases hq : numQ most (itoaS x) with
  | none => rfl
  | some n =>
    have := (numQ_itoa hm x n).1 hq
    omega
theorem numsQ_itoa {most : Nat} (hm : most ≤ 4294967295) : ∀ (l : List Int) (ns : List Nat), numsQ most (l.map itoaS) = some ns ↔ l = ns.map Int.ofNat ∧ ∀ n ∈ ns, n ≤ most
  | [], ns => by
    rw [List.map_nil, numsQ]
    constructor
    · intro h; injection h with h; subst h; exact ⟨rfl, by simp⟩
    · rintro ⟨h, _⟩
      cases ns with
      | nil => rfl
      | cons a r => cases h
  | x :: l, ns => by
    rw [List.map_cons, numsQ]
    constructor
    · intro h
      cases hq : numQ most (itoaS x) with
      | none => rw [hq] at h; cases h
      | some n =>
        rw [hq] at h
        simp only at h
        cases hr : numsQ most (l.map itoaS) with
        | none => rw [hr] at h; cases h
        | some y =>
          rw [hr] at h
          injection h with h
          subst h
          obtain ⟨h1, h2⟩ := (numsQ_itoa hm l y).1 hr
          obtain ⟨h3, h4⟩ := (numQ_itoa hm x n).1 hq
          refine ⟨by rw [List.map_cons, ← h1, h3]; rfl, ?_⟩
          intro m hmm
          rcases List.mem_cons.1 hmm with rfl | hmm
          · exact h4
          · exact h2 m hmm
    · rintro ⟨h, hle⟩
      cases ns with
      | nil => cases h
      | cons n y =>
        rw [List.map_cons] at h
        injection h with h1 h2
        have hq := (numQ_itoa hm x n).2 ⟨h1, hle n (List.mem_cons_self ..)⟩
        have hr := (numsQ_itoa hm l y).2 ⟨h2, fun m hm' => hle m (List.mem_cons_of_mem _ hm')⟩
        rw [hq]
        simp only
        rw [hr]
        rfl

/-- An event, plain. -/
structure Ev where
  (kind thread : Int)
  (rq : Rq)
  (inn : Int)
  (outs : List Int)
deriving DecidableEq
def rqNone : Rq := ⟨0, 0, 0, false, []⟩
def evPick (t : Int) : Ev := ⟨1, t, rqNone, 0, []⟩
def evCall (t : Int) (r : Rq) : Ev := ⟨2, t, r, 0, []⟩
def evPump (t i : Int) (o : List Int) : Ev := ⟨3, t, rqNone, i, o⟩
def w_pickS : ByteArray := ⟨#[112, 105, 99, 107]⟩
def w_callS : ByteArray := ⟨#[99, 97, 108, 108]⟩
def w_pumpS : ByteArray := ⟨#[112, 117, 109, 112]⟩

def handQ (h : Int) : Bool := decide (8 ≤ h ∧ h ≤ 32767)
/-- May a pump be? -/
def startQ (i : Int) (o : List Int) : Bool := handQ i && decide (1 ≤ o.length ∧ o.length ≤ 8) && o.all handQ && decide (i :: o).Nodup

/-! A line's events. -/
def pickQ (t : Nat) (l : List ByteArray) : Option (List Ev) :=
  if l.length = 2 then some [evPick t]
  else if l.length = 3 then (match numQ 1000 (l.getD 2 ⟨#[]⟩) with
    | none => none
    | some n => if n = 0 then none else some (List.replicate n (evPick t)))
  else none
def pumpN (t : Nat) (n : List Nat) : Option (List Ev) :=
  if startQ (n.getD 0 0 : Nat) (n.tail.map Int.ofNat) = true then some [evPump t (n.getD 0 0 : Nat) (n.tail.map Int.ofNat)] else none
def pumpQ (t : Nat) (l : List ByteArray) : Option (List Ev) :=
  if l.length ≤ 3 then none else match numsQ 65535 (l.drop 2) with
  | none => none
  | some n => pumpN t n
def callEv (t : Nat) (l : List ByteArray) : Option (List Ev) := match callQ (l.drop 2) with
  | none => none
  | some r => some [evCall t r]
def lineT (t : Nat) (l : List ByteArray) : Option (List Ev) :=
  if l.getD 0 ⟨#[]⟩ = w_pickS then pickQ t l
  else if l.getD 0 ⟨#[]⟩ = w_callS then callEv t l
  else if l.getD 0 ⟨#[]⟩ = w_pumpS then pumpQ t l
  else none
def lineW (l : List ByteArray) : Option (List Ev) :=
  if l.length < 2 then none else match numQ 63 (l.getD 1 ⟨#[]⟩) with
  | none => none
  | some t => lineT t l
def lineQ (s : ByteArray) : Option (List Ev) := lineW (wordsC 32 s)

/-! A text's events. -/
inductive Red where
  | wrong (line code : Nat)
  | right (l : List Ev)
deriving DecidableEq
def skipQ (s : ByteArray) : Bool := decide (s.size = 0) || decide (s.data.toList.getD 0 0 = 35)
/-- What a line is, behind so many events. -/
def lineC (s : ByteArray) (m : Nat) : Option Nat := match lineQ s with
  | none => some (if 120 < s.size then 4 else 17)
  | some l => if 120 < s.size ∨ 16384 < m + l.length then some 4 else none
def readL : Nat → List ByteArray → List Ev → Red
  | _, [], out => .right out
  | i, s :: r, out => if skipQ s = true then readL (i + 1) r out else match lineC s out.length with
    | some c => .wrong (i + 1) c
    | none => readL (i + 1) r (out ++ (lineQ s).getD [])
def readQ (s : ByteArray) : Red := if 65536 < s.size then .wrong 0 4 else readL 0 (wordsC 10 s) []

/-! Events as text. -/
def Rq.req (r : Rq) : Reqr := ⟨r.kind, r.arg, r.value, r.dflt, none, r.cs.length, r.cs.length⟩
def sayR (r : Rq) : ByteArray := callS r.req r.cs
theorem sayR_eq (q : Reqr) (cs : List Cse) (h : q.n = cs.length) : callS q cs = sayR ⟨q.kind, q.arg, q.value, q.dflt, cs⟩ := by
  obtain ⟨k, a, v, d, A, n, c⟩ := q
  simp only at h
  subst h
  rfl
def evH (e : Ev) : ByteArray := if e.kind = 1 then w_pickS else if e.kind = 2 then w_callS else w_pumpS
def callW (r : Rq) : List ByteArray := if sayR r = ⟨#[]⟩ then [⟨#[]⟩] else nameS r.req r.cs :: argsS r.req r.cs
def evW (e : Ev) (n : Nat) : List ByteArray :=
  if e.kind = 1 then [itoaS e.thread] ++ (if 1 < n then [itoaS n] else [])
  else if e.kind = 2 then itoaS e.thread :: callW e.rq
  else itoaS e.thread :: itoaS e.inn :: e.outs.map itoaS
def evS (e : Ev) (n : Nat) : ByteArray := sayL (evH e) (evW e n)

/-- How many like picks stand behind one. -/
def runQ (e : Ev) : Nat → List Ev → Nat
  | 0, _ => 0
  | _ + 1, [] => 0
  | f + 1, x :: r => if x = e then runQ e f r + 1 else 0
def grpQ : List Ev → Nat
  | [] => 0
  | e :: r => if e.kind = 1 then runQ e 999 r + 1 else 1
def textF : Nat → List Ev → ByteArray
  | 0, _ => ⟨#[]⟩
  | _ + 1, [] => ⟨#[]⟩
  | f + 1, e :: r => evS e (grpQ (e :: r)) ++ ⟨#[10]⟩ ++ textF f ((e :: r).drop (grpQ (e :: r)))
def textG (l : List Ev) : ByteArray := textF l.length l
/-- May an event be said? -/
def okE (e : Ev) : Bool :=
  decide (0 ≤ e.thread ∧ e.thread ≤ 63) &&
  (if e.kind = 1 then decide (e = evPick e.thread)
   else if e.kind = 2 then decide (sayR e.rq ≠ ⟨#[]⟩ ∧ e = evCall e.thread e.rq)
   else if e.kind = 3 then startQ e.inn e.outs && decide (e = evPump e.thread e.inn e.outs)
   else false)
def okF : Nat → List Ev → Bool
  | 0, _ => true
  | _ + 1, [] => true
  | f + 1, e :: r => okE e && decide ((evS e (grpQ (e :: r))).size ≤ 120) && okF f ((e :: r).drop (grpQ (e :: r)))
def okG (l : List Ev) : Bool := okF l.length l
/-- The program's way: what is read again is what was said. -/
def textP (l : List Ev) : Option ByteArray := if (textG l).size ≤ 65536 ∧ readQ (textG l) = .right l then some (textG l) else none
/-- The document's way. -/
def textD (l : List Ev) : Option ByteArray := if okG l = true ∧ (textG l).size ≤ 65536 ∧ l.length ≤ 16384 then some (textG l) else none

end Go.Proofs.YtalkllfgedacoaaGreatDoor

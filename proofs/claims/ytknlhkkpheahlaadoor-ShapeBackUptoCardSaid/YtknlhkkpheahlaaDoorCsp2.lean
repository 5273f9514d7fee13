/- csp: text, walked. -/
import Derived.Test.YtknlhkkpheahlaaDoorCsp1
import Derived.Test.YtknlhkkpheahlaaDoorE2
namespace Go.Proofs.YtknlhkkpheahlaaDoor
open Go.RowKit Go.Sort

/-- A call with its first k handles. -/
def textTo (s : ByteArray) (l : List Cse) : Nat → ByteArray
  | 0 => s
  | k + 1 => textTo s l k ++ (⟨#[32]⟩ ++ itoaS (l.getD k Cse.none).handle)
def textS (q : Reqr) (l : List Cse) : ByteArray := textTo (nameS q l) l l.length
def HandlesOk (l : List Cse) : Prop := ∀ a ∈ l, In64 a.handle

theorem nameS_size (q : Reqr) (l : List Cse) : (nameS q l).size ≤ 7 := by
  have h1 : ∀ d, (tryS d).size ≤ 3 := by intro d; cases d <;> decide
  have h2 : (namedS q l).size ≤ 7 := by
    unfold namedS
    split
    · split
      · rw [ByteArray.size_append]; have := h1 q.dflt; show _ + 4 ≤ _; omega
      · split
        · rw [ByteArray.size_append]; have := h1 q.dflt; show _ + 4 ≤ _; omega
        · decide
    · decide
  unfold nameS
  repeat' split
  all_goals first | exact h2 | decide

theorem textTo_size {s : ByteArray} {l : List Cse} (hs : s.size ≤ 7) (hl : HandlesOk l) : ∀ k, k ≤ l.length → (textTo s l k).size ≤ 7 + 22 * k
  | 0, _ => by simpa [textTo] using hs
  | k + 1, hk => by
    have ih := textTo_size hs hl k (by omega)
    have h1 : (⟨#[32]⟩ : ByteArray).size = 1 := rfl
    have h2 : (itoaS (l.getD k Cse.none).handle).size ≤ 21 := itoaS_size (hl _ (by simp [List.getD, show k < l.length by omega]))
    rw [textTo, ByteArray.size_append, ByteArray.size_append, h1]
    omega

set_option maxHeartbeats 4000000 in
set_option maxRecDepth 100000 in
theorem text_any (q : Reqr) (l : List Cse) (w : World) (h : ReqAt w q l) (hl : HandlesOk l) (hn : l.length ≤ 1099511627776000) (ht : TabT w) :
    Calls Tryd.prog 31 #[reqV q] w fun e w' => e = .returned (.string (textS q l)) ∧ Below w.heap.size w w' := by
  obtain ⟨kind, arg, value, dflt, A, n, c⟩ := q
  have HM := Lib.hid (fun W h => Name_any ⟨kind, arg, value, dflt, A, n, c⟩ l W h)
  have HR := Lib.hid h
  have HT := Lib.hid ht
  have HLO := Lib.hid hl
  have HSZ := Lib.hid (textTo_size (nameS_size ⟨kind, arg, value, dflt, A, n, c⟩ l) hl)
  have HTX : RowKit.Hid (textS ⟨kind, arg, value, dflt, A, n, c⟩ l = textTo (nameS ⟨kind, arg, value, dflt, A, n, c⟩ l) l l.length) := Lib.hid rfl
  have hlen : l.length = n := h.len
  unfold reqV at HM ⊢
  clear h ht hl
  generalize nameS ⟨kind, arg, value, dflt, A, n, c⟩ l = nm at *
  have HQ : RowKit.Hid ((⟨kind, arg, value, dflt, A, n, c⟩ : Reqr) = ⟨kind, arg, value, dflt, A, n, c⟩) := Lib.hid rfl
  simp only at HM ⊢
  go_enter Tryd.func31, Tryd.ntmps31
  go_wp2_with fail
  refine (HM.out _ (HR.out.below ((Below.refl _ _).alloc (Nat.le_refl _) _))).mono ?_
  rintro e w1 ⟨rfl, hb1⟩
  have hB1 : Below w.heap.size w w1 := ((Below.refl _ _).alloc (Nat.le_refl _) _).trans (hb1.mono (by simp))
  have HB1 := Lib.hid hB1
  have hbx : Blk w1 w.heap.size 24 (Reqr.cells ⟨kind, arg, value, dflt, A, n, c⟩) := (Blk.new w 24 (Reqr.cells ⟨kind, arg, value, dflt, A, n, c⟩)).below hb1 (by simp)
  obtain ⟨_, _, _, _, x4⟩ := reqBox hbx
  clear hb1 hB1 hbx
  simp only at x4
  have HLN := Lib.hid hlen
  rw [hlen] at HTX hn HSZ
  clear hlen HQ
  go_wp2
  go_loopg [3, 11] n (fun g s i wr => ∃ (k : Nat), k ≤ n ∧ g = n - k ∧ i = .int .i64 k ∧ s = .string (textTo nm l k) ∧ Below w.heap.size w wr)
  case atStart => exact ⟨0, Nat.zero_le _, rfl, rfl, rfl, HB1.out⟩
  case round =>
    obtain ⟨k, hk, hg, rfl, rfl, hb⟩ := hrel
    have HG := Lib.hid hg
    have HB := Lib.hid hb
    clear hg hb
    by_cases hlt : k < n
    · have hkl : k < l.length := by rw [HLN.out]; exact hlt
      obtain ⟨b, o, hA, hbl, hc⟩ := HR.out.rd.at_ (by rw [rows_length]; exact Nat.mul_pos (by omega) (by decide))
      simp only at hA
      subst hA
      have hcr : ∀ j v, (rows l)[j]? = some v → wr.cell? ⟨b, o + j, none⟩ = some v := fun j v hj => by
        rw [HB.out.cell (p := ⟨b, o + j, none⟩) hbl]; exact hc j v hj
      obtain ⟨c0, c1, c2⟩ := cse_cells hcr hkl rfl
      have hin : In64 (l.getD k Cse.none).handle := HLO.out _ (by simp [List.getD, hkl])
      have HSTEP : RowKit.Hid (textTo nm l (k + 1) = textTo nm l k ++ (⟨#[32]⟩ ++ itoaS (l.getD k Cse.none).handle)) := Lib.hid rfl
      have hz := itoaS_size hin
      have HI := Lib.hid (fun W h => Itoa_any _ hin W h)
      have hsz := HSZ.out k (by omega)
      generalize l.getD k Cse.none = x at *
      generalize textTo nm l k = tk at *
      generalize itoaS x.handle = z at *
      clear hc hcr hkl hin
      have q1 : (0 : Int) ≤ (k : Int) := by omega
      have q2 : (k : Int) < (n : Int) := by omega
      have d1 : ¬ 9223372036854775807 < 1 + z.size := by omega
      have d2 : ¬ 9223372036854775807 < tk.size + (1 + z.size) := by omega
      have HB2 := Lib.hid (show Below w.heap.size w (wr.alloc (.cells #[.int .i64 x.dir, .int .i64 x.handle, .int .i64 x.value] 66)) from HB.out.alloc HB.out.size _)
      go_wp2_with (first | (go_at_call 65; refine (HI.out _ (HT.out.below HB2.out)).mono ?_; rintro e w2 ⟨rfl, hb2⟩; have HB3 := Lib.hid (HB2.out.trans (hb2.mono HB2.out.size)); clear hb2))
      go_roundg (n - (k + 1))
      case measure => rw [HG.out]; omega
      case rel => exact ⟨k + 1, by omega, rfl, by go_num, by rw [HSTEP.out], HB3.out⟩
    · obtain rfl : k = n := by omega
      go_wp2
      go_ret
      exact ⟨by rw [HTX.out]; rfl, HB.out⟩

end Go.Proofs.YtknlhkkpheahlaaDoor

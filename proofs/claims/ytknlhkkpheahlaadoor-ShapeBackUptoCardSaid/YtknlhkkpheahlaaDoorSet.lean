/- shape.set, walked: a word of a line, laid into a shape. -/
import Derived.Test.YtknlhkkpheahlaaDoorShp0
import Derived.Test.YtknlhkkpheahlaaDoorShelf
namespace Go.Proofs.YtknlhkkpheahlaaDoor
open Go.RowKit Go.Sort

/-- The library's variable that strings.Cut and strings.Split read. -/
def MLT (w : World) : Prop := 2 < w.heap.size ∧ ∃ m, w.cell? ⟨2, 0, none⟩ = some (.int .i64 m)
theorem MLT.below {w w' : World} (h : MLT w) (hb : Below w.heap.size w w') : MLT w' := by
  obtain ⟨h1, m, h2⟩ := h
  exact ⟨Nat.lt_of_lt_of_le h1 hb.size, m, (hb.cell (p := ⟨2, 0, none⟩) h1).trans h2⟩

theorem Contains_any (A : Option Addr) (n c : Nat) (l : List ByteArray) (x : ByteArray) (w : World) (hn : l.length = n) (hR : Rd w A (rows l)) (hl : n ≤ 1099511627776) :
    Calls Tryd.prog 88 #[.slice A n c, .string x] w fun e w' => e = .returned (.bool (Lib.containsS l x)) ∧ w' = w := by
  subst hn
  by_cases h : l = []
  · subst h
    refine (Tryd.slices_Contains_string_empty A c x w).mono fun e w' ⟨he, hw⟩ => ⟨by rw [he]; rfl, hw⟩
  · obtain ⟨b, o, rfl, hb, hc⟩ := strs_cell hR h
    refine (Tryd.slices_Contains_string b o l.length c l x w (Nat.le_refl _) (by omega) (fun j hj => ?_)).mono fun e w' ⟨he, hw⟩ => ⟨?_, hw⟩
    · exact hc j _ (by rw [List.getD, List.getElem?_eq_getElem hj]; rfl)
    · rw [he, List.take_length]

theorem Cut_any (word : ByteArray) (w : World) (hs : word.size < 4294967281) (hm : MLT w) :
    Calls Tryd.prog 86 #[.string word, .string ⟨#[61]⟩] w fun e w' => ∃ b, e = .returned (.tuple #[.string (cutN word), .string (cutV word), .bool b]) ∧ Below w.heap.size w w' := by
  obtain ⟨_, m, hm⟩ := hm
  refine (Tryd.strings_Cut word ⟨#[61]⟩ m w hs hm).mono ?_
  rintro e w' ⟨rfl, n, rfl⟩
  exact ⟨_, rfl, Below.drewN' (Below.refl _ _) _⟩

theorem own_blk_ne {w : World} {base g : Nat} {e t : TypeId} {s n : Nat} {v : Value} {xs cs : List Value} (h : w.ownsRow base e s v n xs) (hg : Blk w g t cs) (hne : e ≠ t) : some g ≠ v.ownBlock := by
  rcases h.2 with ⟨rfl, _⟩ | ⟨g', cap, cur, rfl, _, hh, _⟩
  · simp [Value.ownBlock]
  · intro he
    have : g = g' := by simpa [Value.ownBlock] using he
    subst this
    unfold Blk at hg
    rw [hg] at hh
    injection hh with hh
    injection hh with _ ht
    exact hne ht.symm

theorem blk_app {w w' : World} {base g : Nat} {e t : TypeId} {s n : Nat} {v : Value} {xs cs : List Value} {o : Obj} (hO : w.ownsRow base e s v n xs) (hG : Blk w g t cs) (hne : e ≠ t) (hg : (w.alloc o).grownBy w' v.ownBlock) : Blk w' g t cs :=
  blk_grown (hG.alloc o) hg (own_blk_ne (own_below hO ((Below.refl _ _).alloc (Nat.le_refl _) o)) (hG.alloc o) hne)

def SetNo (seen : List ByteArray) (word : ByteArray) (w : World) (e : Ending) (w' : World) : Prop :=
  setS seen word = none ∧ e = .returned (.tuple #[.string ⟨#[]⟩, .bool false]) ∧ Below w.heap.size w w'
def SetStart (seen : List ByteArray) (word : ByteArray) (g B : Nat) (d : Cfg) (w : World) (e : Ending) (w' : World) : Prop :=
  ∃ (n : Nat) (A' : Option Addr) (c' : Nat), setS seen word = some (startS, none, n) ∧ e = .returned (.tuple #[.string startS, .bool true]) ∧
    Blk w' g 45 (cfgCells { d with start := d.start ++ [(n : Int)], sa := A', sc := c' }) ∧
    w'.ownsRow B 3 1 (.slice A' (d.start.length + 1) c') (d.start.length + 1) (ints (d.start ++ [(n : Int)])) ∧
    Keep (fun k => k = g ∨ Value.ownBlock (.slice d.sa d.start.length d.sc) = some k) w w'
def SetPut (seen : List ByteArray) (word : ByteArray) (g : Nat) (d : Cfg) (w : World) (e : Ending) (w' : World) : Prop :=
  ∃ (name : ByteArray) (i n : Nat), setS seen word = some (name, some i, n) ∧ i < 9 ∧ e = .returned (.tuple #[.string name, .bool true]) ∧
    Blk w' g 45 (cfgCells (d.put i n)) ∧ Keep (fun k => k = g) w w'
def SetPost (seen : List ByteArray) (word : ByteArray) (g B : Nat) (d : Cfg) (w : World) (e : Ending) (w' : World) : Prop :=
  SetNo seen word w e w' ∨ SetStart seen word g B d w e w' ∨ SetPut seen word g d w e w'

set_option maxHeartbeats 8000000 in
set_option maxRecDepth 100000 in
theorem set_any (g B : Nat) (d : Cfg) (A : Option Addr) (c : Nat) (seen : List ByteArray) (word : ByteArray) (w : World) (hg : Blk w g 45 (cfgCells d)) (ho : w.ownsRow B 3 1 (.slice d.sa d.start.length d.sc) d.start.length (ints d.start)) (hB : B ≤ w.heap.size)
    (hS : Rd w A (rows seen)) (hsl : seen.length ≤ 1048576) (hdl : d.start.length ≤ 1048576) (hws : word.size ≤ 1048576) (ht : TabT w) (he : ErrT w) (hm : MLT w) :
    Calls Tryd.prog 61 #[.pointer (some ⟨g, 0, none⟩), .string word, .slice A seen.length c] w (SetPost seen word g B d w) := by
  have HCU := Lib.hid (Cut_any word w (by omega) hm)
  have hcs := cut_sizes word
  obtain ⟨hcs1, hcs2⟩ := hcs
  have HNB := Lib.hid (fun W h1 h2 => number_any (cutV word) W (by omega) h1 h2)
  have HSV : RowKit.Hid (setS seen word = match numS (cutV word) with
    | none => none
    | some n => if cutN word = startS then some (startS, none, n) else match fldIdx (cutN word) with
      | none => none
      | some i => if Lib.containsS seen (cutN word) = true then none else some (cutN word, some i, n)) := Lib.hid rfl
  have HG := Lib.hid hg
  have HO := Lib.hid ho
  have HSE := Lib.hid hS
  have HT := Lib.hid ht
  have HE := Lib.hid he
  have HHB := Lib.hid hB
  clear hg ho hS ht he hm hB
  generalize cutN word = name at *
  generalize cutV word = val at *
  generalize hsn : seen.length = sn at *
  have HSN := Lib.hid hsn
  clear hsn
  cases hnum : numS val with
  | none =>
    have HV := Lib.hid (show setS seen word = none by rw [HSV.out, hnum])
    rw [hnum] at HNB
    clear hnum HSV
    go_enter Tryd.func61, Tryd.ntmps61
    go_wp2_with fail
    refine HCU.out.mono ?_
    rintro e w1 ⟨b, rfl, hb1⟩
    have HB1 := Lib.hid hb1
    clear hb1
    go_wp2_with fail
    refine (HNB.out _ (HE.out.below HB1.out) (HT.out.below HB1.out)).mono ?_
    rintro e w2 ⟨rfl, hb2⟩
    simp only [Option.isSome_none, Option.getD_none]
    go_wp2
    go_ret2
    exact .inl ⟨HV.out, rfl, HB1.out.trans (hb2.mono HB1.out.size)⟩
  | some n =>
    have hn64 := num_le hnum
    rw [hnum] at HNB HSV
    simp only at HSV
    clear hnum
    have q0 : (0 : Int) ≤ (n : Int) := by omega
    have hgl := HG.out.lt
    by_cases hst : name = startS
    · have HV := Lib.hid (show setS seen word = some (startS, none, n) by rw [HSV.out, if_pos hst])
      have e1 : (name.toList == [115, 116, 97, 114, 116]) = true := by rw [hst]; decide +kernel
      have HST := Lib.hid hst
      clear hst HSV
      generalize hdn : d.start.length = dn at *
      have HDN := Lib.hid hdn
      clear hdn
      go_enter Tryd.func61, Tryd.ntmps61
      go_wp2_with fail
      refine HCU.out.mono ?_
      rintro e w1 ⟨b, rfl, hb1⟩
      have HB1 := Lib.hid hb1
      clear hb1
      go_wp2_with fail
      refine (HNB.out _ (HE.out.below HB1.out) (HT.out.below HB1.out)).mono ?_
      rintro e w2 ⟨rfl, hb2⟩
      have HB2 := Lib.hid (HB1.out.trans (hb2.mono HB1.out.size))
      clear hb2
      simp only [Option.isSome_some, Option.getD_some]
      have HG2 := Lib.hid (HG.out.below HB2.out HG.out.lt)
      have HO2 := Lib.hid (own_below HO.out HB2.out)
      have x10 := HG2.out.cell (i := 10) rfl
      rw [HDN.out] at x10
      have HK2 := Lib.hid (Keep.of_below (S := fun k => k = g ∨ Value.ownBlock (.slice d.sa dn d.sc) = some k) HB2.out)
      have hg2 := HG2.out.lt
      have HNE : RowKit.Hid (3 ≠ 45) := Lib.hid (by decide)
      go_wp2_with (at_builtin; (refine wpList_app rfl (.tmp 36) (.tmp 38) 43 3 rfl B (.int .i64 0) 1 8 Tryd.underlying43 int_info rfl (by decide) d.sa dn d.sc (ints d.start) rfl (own_below HO2.out ((Below.refl _ _).alloc (Nat.le_refl _) _)) (some ⟨w2.heap.size, 0, none⟩) 1 1 (ints [(n : Int)]) rfl (by simp) rfl (blk_new rfl).rd (ints_one _) (dn + 1) rfl (ints (d.start ++ [(n : Int)])) (by simp [ints]) (by unfold maxLen; omega) (by omega) (by have := HHB.out; have := HB2.out.size; simp; omega) ?_); intro V3 cv3 w3 hown3 hg3 hb3; have HG3 := Lib.hid (blk_app HO2.out HG2.out HNE.out hg3); have x3 := HG3.out.frozen 10; have y3 := HG3.out.cell (i := 10) rfl)
      go_ret2
      have hds := HDN.out
      subst hds
      have hne := own_blk_ne hown3 HG3.out HNE.out
      have hk1 : Keep (fun k => k = g) w3 (w3.setCell ⟨g, 10, none⟩ (.slice V3 (d.start.length + 1) cv3)) := (Keep.refl _ _).set_ _ _ _ (.inr rfl)
      refine .inr (.inl ⟨n, V3, cv3, HV.out, (by rw [HST.out]; rfl), ?_, ?_, ?_⟩)
      · have e : cfgCells { d with start := d.start ++ [(n : Int)], sa := V3, sc := cv3 } = (cfgCells d).set 10 (.slice V3 (d.start.length + 1) cv3) := by
          unfold cfgCells
          simp only [List.length_append, List.length_singleton]
          rfl
        rw [e]
        exact HG3.out.set_ 10 _
      · exact hk1.own hown3 (fun k hk hkg => hne (by rw [hk, hkg]))
      · exact ((HK2.out.alloc _).trans (.of_grown hg3 (fun k hk => .inr hk))).trans' hk1 (fun j _ hj => .inl hj)
    · have HSV2 : RowKit.Hid (setS seen word = match fldIdx name with
        | none => none
        | some i => if Lib.containsS seen name = true then none else some (name, some i, n)) := Lib.hid (by rw [HSV.out, if_neg hst])
      have e1 : (name.toList == [115, 116, 97, 114, 116]) = false := by
        have := bytes_eqF hst
        rw [show startS.toList = [115, 116, 97, 114, 116] by decide +kernel] at this
        exact this
      have HCO := Lib.hid (fun W h => Contains_any A sn c seen name W HSN.out h (by omega))
      clear hst HSV
      generalize hcc : Lib.containsS seen name = cc at *
      clear hcc
      have HSET : RowKit.Hid (∀ i, fldIdx name = some i → cc = false → setS seen word = some (name, some i, n)) := Lib.hid (fun i h1 h2 => by rw [HSV2.out, h1, h2]; rfl)
      have HNX : RowKit.Hid ((∀ i, fldIdx name = some i → cc = true) → setS seen word = none) := Lib.hid (fun h => by
        rw [HSV2.out]
        cases hf : fldIdx name with
        | none => rfl
        | some i => rw [h i hf]; rfl)
      clear HSV2
      go_enter Tryd.func61, Tryd.ntmps61
      go_wp2_with fail
      refine HCU.out.mono ?_
      rintro e w1 ⟨b, rfl, hb1⟩
      have HB1 := Lib.hid hb1
      clear hb1
      go_wp2_with fail
      refine (HNB.out _ (HE.out.below HB1.out) (HT.out.below HB1.out)).mono ?_
      rintro e w2 ⟨rfl, hb2⟩
      have HB2 := Lib.hid (HB1.out.trans (hb2.mono HB1.out.size))
      clear hb2
      simp only [Option.isSome_some, Option.getD_some]
      go_wp2_with (go_at_call 64; refine (fields_any g _).mono ?_; rintro e w3 ⟨rfl, hF, hb3⟩; have HB3 := Lib.hid (HB2.out.trans (hb3.mono HB2.out.size)); have HF := Lib.hid hF; have hF2 := HF.out.lt; clear hF hb3; generalize w2.heap.size = F at *)
      go_loopg [46] 9 (fun gg i wr => ∃ k : Nat, k ≤ 9 ∧ gg = 9 - k ∧ i = .int .i64 k ∧ Below w3.heap.size w3 wr ∧ ∀ j, fldIdx name = some j → j < k → cc = true)
      case atStart => exact ⟨0, Nat.zero_le _, rfl, rfl, Below.refl _ _, fun j _ h => absurd h (Nat.not_lt_zero _)⟩
      case round =>
        obtain ⟨k, hk9, hg, rfl, hb4, hno⟩ := hrel
        have HGK := Lib.hid hg
        have HNO := Lib.hid hno
        have HB4 := Lib.hid hb4
        clear hg hno hb4
        by_cases hk : k < 9
        · have q1 : (k : Int) < 9 := by omega
          have HFr := Lib.hid (HF.out.below HB4.out hF2)
          have x0 := HFr.out.cell (i := k * 2) (Nat.mul_comm 2 k ▸ fld_name g k hk)
          have x1 := HFr.out.cell (i := k * 2 + 1) (Nat.mul_comm 2 k ▸ fld_at g k hk)
          have hFr := HFr.out.lt
          have hix : RowKit.Hid (fldIdx (fldNames.getD k ⟨#[]⟩) = some k) := Lib.hid (names_fine k hk).2.2.2.2
          generalize hnm : fldNames.getD k ⟨#[]⟩ = nm at *
          have hnk := Lib.hid hnm.symm
          clear hnm
          by_cases hs : nm = name
          · subst hs
            have e2 : (nm.toList == nm.toList) = true := bytes_eqT nm
            have HSEr := Lib.hid (HSE.out.below (HB3.out.trans (HB4.out.mono HB3.out.size)))
            cases cc with
            | true =>
              go_wp2_with (go_at_call 88; refine (HCO.out _ (HSEr.out.alloc _)).mono ?_; rintro e w5 ⟨rfl, rfl⟩)
              go_roundg (9 - (k + 1))
              case measure => rw [HGK.out]; omega
              case rel => exact ⟨k + 1, by omega, rfl, by go_num, HB4.out.alloc (HB4.out.size) _, fun _ _ _ => trivial⟩
            | false =>
              have HGr := Lib.hid (HG.out.below (HB3.out.trans (HB4.out.mono HB3.out.size)) hgl)
              obtain ⟨z, hz⟩ := cfg_old d k hk
              have x2 := HGr.out.cell hz
              have y2 := HGr.out.frozen (k + 1)
              have hgr := HGr.out.lt
              go_wp2_with (go_at_call 88; refine (HCO.out _ (HSEr.out.alloc _)).mono ?_; rintro e w5 ⟨rfl, rfl⟩)
              go_ret2
              refine .inr (.inr ⟨nm, k, n, HSET.out k hix.out trivial, hk, rfl, ?_, ?_⟩)
              · rw [← cfg_put d n k hk]
                exact (HGr.out.set_ (k + 1) _).alloc _
              · exact ((Keep.of_below (S := fun k => k = g) (HB3.out.trans (HB4.out.mono HB3.out.size))).set_ g _ _ (.inr rfl)).alloc _
          · have e2 : (nm.toList == name.toList) = false := bytes_eqF hs
            have HS := Lib.hid (show fldIdx name ≠ some k from fun h => hs ((hnk.out).trans (fld_some h).2.1))
            clear hs
            go_wp2
            go_roundg (9 - (k + 1))
            case measure => rw [HGK.out]; omega
            case rel => exact ⟨k + 1, by omega, rfl, by go_num, HB4.out.alloc (HB4.out.size) _, fun j h1 h2 => HNO.out j h1 (by
              have : j ≠ k := fun e => HS.out (by rw [h1, e])
              omega)⟩
        · have q1 : ¬ (k : Int) < 9 := by omega
          go_wp2
          go_ret2
          refine .inl ⟨HNX.out (fun i hi => HNO.out i hi ?_), rfl, HB3.out.trans (HB4.out.mono HB3.out.size)⟩
          have := (fld_some hi).1
          omega

end Go.Proofs.YtknlhkkpheahlaaDoor

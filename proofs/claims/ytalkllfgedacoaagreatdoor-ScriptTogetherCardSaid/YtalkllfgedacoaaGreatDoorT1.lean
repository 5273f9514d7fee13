/- Two scripts one after the other: the statement ScriptTogether, whole: for every input the call returns true, and what came in reads as before. Conditions: none but what the row lists: the library's tables, tied to the program's text. -/
import Derived.Test.YtalkllfgedacoaaGreatDoorR29
import Derived.Test.YtalkllfgedacoaaGreatDoorR10
import Derived.Test.YtalkllfgedacoaaGreatDoorCards
import Derived.Test.YtalkllfgedacoaaGreatDoorTie
import Derived.Deep.DeepHandedRow
import Derived.LaidMore
import Derived.Stop.LaidErr
namespace Go.Proofs.YtalkllfgedacoaaGreatDoor
open Go.RowKit Go.Sort

theorem wpList_on {P : Program} {ops : Array Oper} {Q : Exit → Act → World → Prop} {a : Act} {w : World} {rest : List Oper} {o : Oper} (hg : Region.wanted o (yielded ops a.tmps) = true)
    (h : ∀ K : Act → World → Prop, (∀ a w, wpList P ops Q rest a w → K a w) → o.wp P a w K Q) : wpList P ops Q (o :: rest) a w :=
  wpList_step fun K hK => by rw [if_pos hg]; exact h K hK

theorem join_list (a b : ByteArray) : (⟨(Lib.join ([a, b].map (·.data.toList)) (⟨#[10]⟩ : ByteArray).data.toList).toArray⟩ : ByteArray) = a ++ ⟨#[10]⟩ ++ b := by
  refine bext ?_
  simp [Lib.join]
theorem join_two {a b : ByteArray} {g : Nat} {W : World} (h : Blk W g 9 [.string a, .string b]) (hz : a.size + b.size ≤ 60000) :
    Calls Tryz.prog 33 #[.slice (some ⟨g, 0, none⟩) 2 2, .string ⟨#[10]⟩] W fun e w' => e = .returned (.string (a ++ ⟨#[10]⟩ ++ b)) ∧ Below W.heap.size W w' := by
  have hR : Rd W (some ⟨g, 0, none⟩) (rows [a, b]) := h.rd
  obtain ⟨b1, o1, hA, hb, hc⟩ := strs_cell hR (by simp)
  injection hA with hA
  injection hA with h1 h2
  subst h1 h2
  have e1 : a.data.toList.length = a.size := rfl
  have e2 : b.data.toList.length = b.size := rfl
  have hJ := Tryz.strings_Join g 0 2 [a, b] ⟨#[10]⟩ W hc hb (by simp) (by simp) (by
    rw [show Lib.join ([a, b].map (·.data.toList)) (⟨#[10]⟩ : ByteArray).data.toList = (a ++ ⟨#[10]⟩ ++ b : ByteArray).data.toList by rw [← join_list]]
    have e3 : (a ++ ⟨#[10]⟩ ++ b : ByteArray).data.toList.length = (a ++ ⟨#[10]⟩ ++ b).size := rfl
    have e4 : (⟨#[10]⟩ : ByteArray).size = 1 := rfl
    rw [e3, ByteArray.size_append, ByteArray.size_append, e4]
    omega)
  rw [join_list] at hJ
  exact hJ

theorem wpList_app2on {ops : Array Oper} {rest : List Oper} {o : Oper} {a : Act} {w : World} {Q : Exit → Act → World → Prop} (hgd : Region.wanted o (yielded ops a.tmps) = true) (s x : Operand) (t e : TypeId)
    (ho : o.op = .call { callee := .builtin .append, args := #[s, x], argTypes := #[t, t] })
    (base : Nat) (z : Value) (size bytes : Nat) (ht : Tryz.prog.underlying t = some (.slice e)) (hinfo : (Tryz.prog.info? e).map (fun i => (i.zero, i.size, i.bytes)) = some (some z, size, bytes)) (hzs : z.cells.size = size) (hsz : 0 < size)
    (A : Option Addr) (n c : Nat) (xs : List Value) (hs : a.eval s = .slice A n c) (hown : w.ownsRow base e size (.slice A n c) n xs)
    (B : Option Addr) (m d : Nat) (news : List Value) (hx : a.eval x = .slice B m d) (hd : B = none → m = 0 ∧ d = 0) (hl : news.length = m * size) (hR : Rd w B news) (h1 : ∀ u ∈ news, u.oneCell' = true)
    (N : Nat) (hN : n + m = N) (ys : List Value) (hys : xs ++ news = ys) (h63 : N ≤ maxLen) (hbytes : N * bytes ≤ 140737488355328) (hbase : base ≤ w.heap.size)
    (h : ∀ A' c' w', w'.ownsRow base e size (.slice A' N c') N ys → w.grownBy w' (Value.ownBlock (.slice A n c)) → Below base w w' → (∀ k, Value.ownBlock (.slice A' N c') = some k → Value.ownBlock (.slice A n c) = some k ∨ w.heap.size ≤ k) → wpList Tryz.prog ops Q rest (a.put o.dst (.slice A' N c')) w') : wpList Tryz.prog ops Q (o :: rest) a w :=
  wpList_on hgd fun _ hK => wp_app2 s x t e ho base z size bytes ht hinfo hzs hsz A n c xs hs hown B m d news hx hd hl hR h1 N hN ys hys h63 hbytes hbase fun A' c' w' h2 h3 h4 h5 => hK _ _ (h A' c' w' h2 h3 h4 h5)

set_option maxHeartbeats 8000000 in
set_option maxRecDepth 100000 in
theorem st_wwb (a b : ByteArray) (w : World) (hz : a.size + b.size ≤ 60000) (la ca lb cb lj cj : Nat)
    (hA : ∀ W, Below w.heap.size w W → Calls Tryz.prog 25 #[] W fun e w' => e = .returned (.bool true) ∧ Below W.heap.size W w')
    (ha : ∀ W, Below w.heap.size w W → Calls Tryz.prog 21 #[.string a] W (SReadB la ca W))
    (hb : ∀ W, Below w.heap.size w W → Calls Tryz.prog 21 #[.string b] W (SReadB lb cb W))
    (hj : ∀ W, Below w.heap.size w W → Calls Tryz.prog 21 #[.string (a ++ ⟨#[10]⟩ ++ b)] W (SReadB lj cj W)) :
    Calls Tryz.prog 8 #[.string a, .string b] w fun e w' => e = .returned (.bool true) ∧ Below w.heap.size w w' := by
  have HA := Lib.hid hA
  have HRA := Lib.hid ha
  have HRB := Lib.hid hb
  have HRJ := Lib.hid hj
  have HZ := Lib.hid hz
  have hJ := fun (W : World) (g : Nat) (h : Blk W g 9 [.string a, .string b]) => join_two h hz
  have HJ := Lib.hid hJ
  have q1 : ¬ (60000 : Int) < (a.size : Int) + (b.size : Int) := by omega
  have q2 : a.size ≤ 60000 := by omega
  have q3 : b.size ≤ 60000 := by omega
  clear hA ha hb hj hz hJ
  unfold SReadB at HRA
  unfold SReadB at HRB
  unfold SReadB at HRJ
  go_enter Tryz.func8, Tryz.ntmps8
  go_upto_region 4 with (go_at_call 21; refine (HRA.out _ (Below.refl w.heap.size w)).mono ?_; rintro er w1 ⟨_, vA, rfl, hchA, hbA⟩; have HB1 := Lib.hid (((Below.refl w.heap.size w)).trans (hbA.mono ((Below.refl w.heap.size w)).size)); have HCA := Lib.hid hchA; clear hbA hchA)
  obtain ⟨tiA, uiA, hvA⟩ := HCA.out.iface
  subst hvA
  go_upto_region 5 with (go_at_call 21; refine (HRB.out _ HB1.out).mono ?_; rintro er w2 ⟨_, vB, rfl, hchB, hbB⟩; have HB2 := Lib.hid ((HB1.out).trans (hbB.mono (HB1.out).size)); have HCB := Lib.hid hchB; clear hbB hchB)
  obtain ⟨tiB, uiB, hvB⟩ := HCB.out.iface
  subst hvB
  go_upto_region 6 with (first | (go_at_call 33; refine (HJ.out _ _ (blk_new rfl)).mono ?_; rintro er w3 ⟨rfl, hb3⟩; have HB3 := Lib.hid ((HB2.out.alloc HB2.out.size _).trans (hb3.mono (HB2.out.alloc HB2.out.size _).size)); have HBX3 := Lib.hid (((Below.refl _ _).alloc (Nat.le_refl _) _).trans (hb3.mono ((Below.refl _ _).alloc (Nat.le_refl _) _).size)); clear hb3) | (go_at_call 21; refine (HRJ.out _ HB3.out).mono ?_; rintro er w4 ⟨_, vJ, rfl, hchJ, hbJ⟩; have HBJ := Lib.hid ((HB3.out).trans (hbJ.mono (HB3.out).size)); have HCJ := Lib.hid hchJ; clear hbJ hchJ))
  obtain ⟨tiJ, uiJ, hvJ⟩ := HCJ.out.iface
  subst hvJ
  go_wp2_with (go_at_call 25; refine (HA.out _ HBJ.out).mono ?_; rintro er w6 ⟨rfl, hb6⟩; have HB6 := Lib.hid (HBJ.out.trans (hb6.mono HBJ.out.size)); clear hb6)
  go_ret
  exact ⟨by rfl, HB6.out⟩

set_option maxHeartbeats 8000000 in
set_option maxRecDepth 100000 in
theorem st_wr (a b : ByteArray) (w : World) (hz : a.size + b.size ≤ 60000) (la ca lj cj : Nat) (y : List Ev)
    (hA : ∀ W, Below w.heap.size w W → Calls Tryz.prog 25 #[] W fun e w' => e = .returned (.bool true) ∧ Below W.heap.size W w')
    (ha : ∀ W, Below w.heap.size w W → Calls Tryz.prog 21 #[.string a] W (SReadB la ca W))
    (hb : ∀ W, Below w.heap.size w W → Calls Tryz.prog 21 #[.string b] W (SReadG y W))
    (hj : ∀ W, Below w.heap.size w W → Calls Tryz.prog 21 #[.string (a ++ ⟨#[10]⟩ ++ b)] W (SReadB lj cj W)) :
    Calls Tryz.prog 8 #[.string a, .string b] w fun e w' => e = .returned (.bool true) ∧ Below w.heap.size w w' := by
  have HA := Lib.hid hA
  have HRA := Lib.hid ha
  have HRB := Lib.hid hb
  have HRJ := Lib.hid hj
  have HZ := Lib.hid hz
  have hJ := fun (W : World) (g : Nat) (h : Blk W g 9 [.string a, .string b]) => join_two h hz
  have HJ := Lib.hid hJ
  have q1 : ¬ (60000 : Int) < (a.size : Int) + (b.size : Int) := by omega
  have q2 : a.size ≤ 60000 := by omega
  have q3 : b.size ≤ 60000 := by omega
  clear hA ha hb hj hz hJ
  unfold SReadB at HRA
  unfold SReadG at HRB
  unfold SReadB at HRJ
  go_enter Tryz.func8, Tryz.ntmps8
  go_upto_region 4 with (go_at_call 21; refine (HRA.out _ (Below.refl w.heap.size w)).mono ?_; rintro er w1 ⟨_, vA, rfl, hchA, hbA⟩; have HB1 := Lib.hid (((Below.refl w.heap.size w)).trans (hbA.mono ((Below.refl w.heap.size w)).size)); have HCA := Lib.hid hchA; clear hbA hchA)
  obtain ⟨tiA, uiA, hvA⟩ := HCA.out.iface
  subst hvA
  go_upto_region 5 with (go_at_call 21; refine (HRB.out _ HB1.out).mono ?_; rintro er w2 ⟨AB, cB, rfl, hevB, hnilB, hccB, hlenB, hbB⟩; have HB2 := Lib.hid ((HB1.out).trans (hbB.mono (HB1.out).size)); have HEVB := Lib.hid hevB; have HNILB := Lib.hid hnilB; have HLEB := Lib.hid hlenB; have HBXB := Lib.hid hbB; clear hbB hevB hnilB hccB)
  go_upto_region 6 with (first | (go_at_call 33; refine (HJ.out _ _ (blk_new rfl)).mono ?_; rintro er w3 ⟨rfl, hb3⟩; have HB3 := Lib.hid ((HB2.out.alloc HB2.out.size _).trans (hb3.mono (HB2.out.alloc HB2.out.size _).size)); have HBX3 := Lib.hid (((Below.refl _ _).alloc (Nat.le_refl _) _).trans (hb3.mono ((Below.refl _ _).alloc (Nat.le_refl _) _).size)); clear hb3) | (go_at_call 21; refine (HRJ.out _ HB3.out).mono ?_; rintro er w4 ⟨_, vJ, rfl, hchJ, hbJ⟩; have HBJ := Lib.hid ((HB3.out).trans (hbJ.mono (HB3.out).size)); have HCJ := Lib.hid hchJ; clear hbJ hchJ))
  obtain ⟨tiJ, uiJ, hvJ⟩ := HCJ.out.iface
  subst hvJ
  go_wp2_with (go_at_call 25; refine (HA.out _ HBJ.out).mono ?_; rintro er w6 ⟨rfl, hb6⟩; have HB6 := Lib.hid (HBJ.out.trans (hb6.mono HBJ.out.size)); clear hb6)
  go_ret
  exact ⟨by rfl, HB6.out⟩

set_option maxHeartbeats 8000000 in
set_option maxRecDepth 100000 in
theorem st_rw (a b : ByteArray) (w : World) (hz : a.size + b.size ≤ 60000) (lb cb lj cj : Nat) (x : List Ev)
    (hA : ∀ W, Below w.heap.size w W → Calls Tryz.prog 25 #[] W fun e w' => e = .returned (.bool true) ∧ Below W.heap.size W w')
    (ha : ∀ W, Below w.heap.size w W → Calls Tryz.prog 21 #[.string a] W (SReadG x W))
    (hb : ∀ W, Below w.heap.size w W → Calls Tryz.prog 21 #[.string b] W (SReadB lb cb W))
    (hj : ∀ W, Below w.heap.size w W → Calls Tryz.prog 21 #[.string (a ++ ⟨#[10]⟩ ++ b)] W (SReadB lj cj W)) :
    Calls Tryz.prog 8 #[.string a, .string b] w fun e w' => e = .returned (.bool true) ∧ Below w.heap.size w w' := by
  have HA := Lib.hid hA
  have HRA := Lib.hid ha
  have HRB := Lib.hid hb
  have HRJ := Lib.hid hj
  have HZ := Lib.hid hz
  have hJ := fun (W : World) (g : Nat) (h : Blk W g 9 [.string a, .string b]) => join_two h hz
  have HJ := Lib.hid hJ
  have q1 : ¬ (60000 : Int) < (a.size : Int) + (b.size : Int) := by omega
  have q2 : a.size ≤ 60000 := by omega
  have q3 : b.size ≤ 60000 := by omega
  clear hA ha hb hj hz hJ
  unfold SReadG at HRA
  unfold SReadB at HRB
  unfold SReadB at HRJ
  go_enter Tryz.func8, Tryz.ntmps8
  go_upto_region 4 with (go_at_call 21; refine (HRA.out _ (Below.refl w.heap.size w)).mono ?_; rintro er w1 ⟨AA, cA, rfl, hevA, hnilA, hccA, hlenA, hbA⟩; have HB1 := Lib.hid (((Below.refl w.heap.size w)).trans (hbA.mono ((Below.refl w.heap.size w)).size)); have HEVA := Lib.hid hevA; have HNILA := Lib.hid hnilA; have HLEA := Lib.hid hlenA; have HBXA := Lib.hid hbA; clear hbA hevA hnilA hccA)
  go_upto_region 5 with (go_at_call 21; refine (HRB.out _ HB1.out).mono ?_; rintro er w2 ⟨_, vB, rfl, hchB, hbB⟩; have HB2 := Lib.hid ((HB1.out).trans (hbB.mono (HB1.out).size)); have HCB := Lib.hid hchB; clear hbB hchB)
  obtain ⟨tiB, uiB, hvB⟩ := HCB.out.iface
  subst hvB
  go_upto_region 6 with (first | (go_at_call 33; refine (HJ.out _ _ (blk_new rfl)).mono ?_; rintro er w3 ⟨rfl, hb3⟩; have HB3 := Lib.hid ((HB2.out.alloc HB2.out.size _).trans (hb3.mono (HB2.out.alloc HB2.out.size _).size)); have HBX3 := Lib.hid (((Below.refl _ _).alloc (Nat.le_refl _) _).trans (hb3.mono ((Below.refl _ _).alloc (Nat.le_refl _) _).size)); clear hb3) | (go_at_call 21; refine (HRJ.out _ HB3.out).mono ?_; rintro er w4 ⟨_, vJ, rfl, hchJ, hbJ⟩; have HBJ := Lib.hid ((HB3.out).trans (hbJ.mono (HB3.out).size)); have HCJ := Lib.hid hchJ; clear hbJ hchJ))
  obtain ⟨tiJ, uiJ, hvJ⟩ := HCJ.out.iface
  subst hvJ
  go_wp2_with (go_at_call 25; refine (HA.out _ HBJ.out).mono ?_; rintro er w6 ⟨rfl, hb6⟩; have HB6 := Lib.hid (HBJ.out.trans (hb6.mono HBJ.out.size)); clear hb6)
  go_ret
  exact ⟨by rfl, HB6.out⟩

set_option maxHeartbeats 8000000 in
set_option maxRecDepth 100000 in
theorem st_bigw (a b : ByteArray) (w : World) (hz : a.size + b.size ≤ 60000) (lj cj : Nat) (x y : List Ev) (hln : 16384 < x.length + y.length)
    (hA : ∀ W, Below w.heap.size w W → Calls Tryz.prog 25 #[] W fun e w' => e = .returned (.bool true) ∧ Below W.heap.size W w')
    (ha : ∀ W, Below w.heap.size w W → Calls Tryz.prog 21 #[.string a] W (SReadG x W))
    (hb : ∀ W, Below w.heap.size w W → Calls Tryz.prog 21 #[.string b] W (SReadG y W))
    (hj : ∀ W, Below w.heap.size w W → Calls Tryz.prog 21 #[.string (a ++ ⟨#[10]⟩ ++ b)] W (SReadB lj cj W)) :
    Calls Tryz.prog 8 #[.string a, .string b] w fun e w' => e = .returned (.bool true) ∧ Below w.heap.size w w' := by
  have HA := Lib.hid hA
  have HRA := Lib.hid ha
  have HRB := Lib.hid hb
  have HRJ := Lib.hid hj
  have HZ := Lib.hid hz
  have hJ := fun (W : World) (g : Nat) (h : Blk W g 9 [.string a, .string b]) => join_two h hz
  have HJ := Lib.hid hJ
  have q1 : ¬ (60000 : Int) < (a.size : Int) + (b.size : Int) := by omega
  have q2 : a.size ≤ 60000 := by omega
  have q3 : b.size ≤ 60000 := by omega
  clear hA ha hb hj hz hJ
  unfold SReadG at HRA
  unfold SReadG at HRB
  unfold SReadB at HRJ
  generalize hn1 : x.length = n1 at *
  generalize hn2 : y.length = n2 at *
  have q4 : (16384 : Int) < (n1 : Int) + (n2 : Int) := by omega
  have HN1 := Lib.hid hn1
  have HN2 := Lib.hid hn2
  have HLN := Lib.hid hln
  clear hn1 hn2 hln
  go_enter Tryz.func8, Tryz.ntmps8
  go_upto_region 4 with (go_at_call 21; refine (HRA.out _ (Below.refl w.heap.size w)).mono ?_; rintro er w1 ⟨AA, cA, rfl, hevA, hnilA, hccA, hlenA, hbA⟩; have HB1 := Lib.hid (((Below.refl w.heap.size w)).trans (hbA.mono ((Below.refl w.heap.size w)).size)); have HEVA := Lib.hid hevA; have HNILA := Lib.hid hnilA; have HLEA := Lib.hid hlenA; have HBXA := Lib.hid hbA; clear hbA hevA hnilA hccA)
  go_upto_region 5 with (go_at_call 21; refine (HRB.out _ HB1.out).mono ?_; rintro er w2 ⟨AB, cB, rfl, hevB, hnilB, hccB, hlenB, hbB⟩; have HB2 := Lib.hid ((HB1.out).trans (hbB.mono (HB1.out).size)); have HEVB := Lib.hid hevB; have HNILB := Lib.hid hnilB; have HLEB := Lib.hid hlenB; have HBXB := Lib.hid hbB; clear hbB hevB hnilB hccB)
  go_upto_region 6 with (first | (go_at_call 33; refine (HJ.out _ _ (blk_new rfl)).mono ?_; rintro er w3 ⟨rfl, hb3⟩; have HB3 := Lib.hid ((HB2.out.alloc HB2.out.size _).trans (hb3.mono (HB2.out.alloc HB2.out.size _).size)); have HBX3 := Lib.hid (((Below.refl _ _).alloc (Nat.le_refl _) _).trans (hb3.mono ((Below.refl _ _).alloc (Nat.le_refl _) _).size)); clear hb3) | (go_at_call 21; refine (HRJ.out _ HB3.out).mono ?_; rintro er w4 ⟨_, vJ, rfl, hchJ, hbJ⟩; have HBJ := Lib.hid ((HB3.out).trans (hbJ.mono (HB3.out).size)); have HCJ := Lib.hid hchJ; clear hbJ hchJ))
  obtain ⟨tiJ, uiJ, hvJ⟩ := HCJ.out.iface
  subst hvJ
  go_wp2_with (go_at_call 25; refine (HA.out _ HBJ.out).mono ?_; rintro er w6 ⟨rfl, hb6⟩; have HB6 := Lib.hid (HBJ.out.trans (hb6.mono HBJ.out.size)); clear hb6)
  go_ret
  exact ⟨by rfl, HB6.out⟩

set_option maxHeartbeats 8000000 in
set_option maxRecDepth 100000 in
theorem st_bigr (a b : ByteArray) (w : World) (hz : a.size + b.size ≤ 60000) (x y z : List Ev) (hln : 16384 < x.length + y.length)
    (hA : ∀ W, Below w.heap.size w W → Calls Tryz.prog 25 #[] W fun e w' => e = .returned (.bool true) ∧ Below W.heap.size W w')
    (ha : ∀ W, Below w.heap.size w W → Calls Tryz.prog 21 #[.string a] W (SReadG x W))
    (hb : ∀ W, Below w.heap.size w W → Calls Tryz.prog 21 #[.string b] W (SReadG y W))
    (hj : ∀ W, Below w.heap.size w W → Calls Tryz.prog 21 #[.string (a ++ ⟨#[10]⟩ ++ b)] W (SReadG z W)) :
    Calls Tryz.prog 8 #[.string a, .string b] w fun e w' => e = .returned (.bool true) ∧ Below w.heap.size w w' := by
  have HA := Lib.hid hA
  have HRA := Lib.hid ha
  have HRB := Lib.hid hb
  have HRJ := Lib.hid hj
  have HZ := Lib.hid hz
  have hJ := fun (W : World) (g : Nat) (h : Blk W g 9 [.string a, .string b]) => join_two h hz
  have HJ := Lib.hid hJ
  have q1 : ¬ (60000 : Int) < (a.size : Int) + (b.size : Int) := by omega
  have q2 : a.size ≤ 60000 := by omega
  have q3 : b.size ≤ 60000 := by omega
  clear hA ha hb hj hz hJ
  unfold SReadG at HRA
  unfold SReadG at HRB
  unfold SReadG at HRJ
  generalize hn1 : x.length = n1 at *
  generalize hn2 : y.length = n2 at *
  have q4 : (16384 : Int) < (n1 : Int) + (n2 : Int) := by omega
  have HN1 := Lib.hid hn1
  have HN2 := Lib.hid hn2
  have HLN := Lib.hid hln
  clear hn1 hn2 hln
  go_enter Tryz.func8, Tryz.ntmps8
  go_upto_region 4 with (go_at_call 21; refine (HRA.out _ (Below.refl w.heap.size w)).mono ?_; rintro er w1 ⟨AA, cA, rfl, hevA, hnilA, hccA, hlenA, hbA⟩; have HB1 := Lib.hid (((Below.refl w.heap.size w)).trans (hbA.mono ((Below.refl w.heap.size w)).size)); have HEVA := Lib.hid hevA; have HNILA := Lib.hid hnilA; have HLEA := Lib.hid hlenA; have HBXA := Lib.hid hbA; clear hbA hevA hnilA hccA)
  go_upto_region 5 with (go_at_call 21; refine (HRB.out _ HB1.out).mono ?_; rintro er w2 ⟨AB, cB, rfl, hevB, hnilB, hccB, hlenB, hbB⟩; have HB2 := Lib.hid ((HB1.out).trans (hbB.mono (HB1.out).size)); have HEVB := Lib.hid hevB; have HNILB := Lib.hid hnilB; have HLEB := Lib.hid hlenB; have HBXB := Lib.hid hbB; clear hbB hevB hnilB hccB)
  go_upto_region 6 with (first | (go_at_call 33; refine (HJ.out _ _ (blk_new rfl)).mono ?_; rintro er w3 ⟨rfl, hb3⟩; have HB3 := Lib.hid ((HB2.out.alloc HB2.out.size _).trans (hb3.mono (HB2.out.alloc HB2.out.size _).size)); have HBX3 := Lib.hid (((Below.refl _ _).alloc (Nat.le_refl _) _).trans (hb3.mono ((Below.refl _ _).alloc (Nat.le_refl _) _).size)); clear hb3) | (go_at_call 21; refine (HRJ.out _ HB3.out).mono ?_; rintro er w4 ⟨AJ, cJ, rfl, hevJ, hnilJ, hccJ, hlenJ, hbJ⟩; have HBJ := Lib.hid ((HB3.out).trans (hbJ.mono (HB3.out).size)); have HEVJ := Lib.hid hevJ; have HNILJ := Lib.hid hnilJ; have HLEJ := Lib.hid hlenJ; have HBXJ := Lib.hid hbJ; clear hbJ hevJ hnilJ hccJ))
  go_wp2_with (go_at_call 25; refine (HA.out _ HBJ.out).mono ?_; rintro er w6 ⟨rfl, hb6⟩; have HB6 := Lib.hid (HBJ.out.trans (hb6.mono HBJ.out.size)); clear hb6)
  go_ret
  exact ⟨by rfl, HB6.out⟩

set_option maxHeartbeats 8000000 in
set_option maxRecDepth 100000 in
theorem st_all (a b : ByteArray) (w : World) (hz : a.size + b.size ≤ 60000) (x y : List Ev) (hln : x.length + y.length ≤ 16384) (hs : ∀ e ∈ x ++ y, EvSm e)
    (hA : ∀ W, Below w.heap.size w W → Calls Tryz.prog 25 #[] W fun e w' => e = .returned (.bool true) ∧ Below W.heap.size W w')
    (ha : ∀ W, Below w.heap.size w W → Calls Tryz.prog 21 #[.string a] W (SReadG x W))
    (hb : ∀ W, Below w.heap.size w W → Calls Tryz.prog 21 #[.string b] W (SReadG y W))
    (hj : ∀ W, Below w.heap.size w W → Calls Tryz.prog 21 #[.string (a ++ ⟨#[10]⟩ ++ b)] W (SReadG (x ++ y) W)) :
    Calls Tryz.prog 8 #[.string a, .string b] w fun e w' => e = .returned (.bool true) ∧ Below w.heap.size w w' := by
  have HA := Lib.hid hA
  have HRA := Lib.hid ha
  have HRB := Lib.hid hb
  have HRJ := Lib.hid hj
  have HZ := Lib.hid hz
  have hJ := fun (W : World) (g : Nat) (h : Blk W g 9 [.string a, .string b]) => join_two h hz
  have HJ := Lib.hid hJ
  have q1 : ¬ (60000 : Int) < (a.size : Int) + (b.size : Int) := by omega
  have q2 : a.size ≤ 60000 := by omega
  have q3 : b.size ≤ 60000 := by omega
  clear hA ha hb hj hz hJ
  have HEVT := Lib.hid (fun A B c d W (h1 : EvsIn W A (x.length + y.length) (x ++ y)) (h2 : EvsIn W B (x.length + y.length) (x ++ y)) => Events_same A B (x.length + y.length) c d (x ++ y) W (by omega) h1 h2 hs)
  have HLL := Lib.hid (show (x ++ y).length = x.length + y.length from List.length_append)
  clear hs
  unfold SReadG at HRA
  unfold SReadG at HRB
  unfold SReadG at HRJ
  rw [HLL.out] at HRJ
  generalize hn1 : x.length = n1 at *
  generalize hn2 : y.length = n2 at *
  have q4 : ¬ (16384 : Int) < (n1 : Int) + (n2 : Int) := by omega
  have HN1 := Lib.hid hn1
  have HN2 := Lib.hid hn2
  have HLN := Lib.hid hln
  clear hn1 hn2 hln
  go_enter Tryz.func8, Tryz.ntmps8
  go_upto_region 4 with (go_at_call 21; refine (HRA.out _ (Below.refl w.heap.size w)).mono ?_; rintro er w1 ⟨AA, cA, rfl, hevA, hnilA, hccA, hlenA, hbA⟩; have HB1 := Lib.hid (((Below.refl w.heap.size w)).trans (hbA.mono ((Below.refl w.heap.size w)).size)); have HEVA := Lib.hid hevA; have HNILA := Lib.hid hnilA; have HLEA := Lib.hid hlenA; have HBXA := Lib.hid hbA; clear hbA hevA hnilA hccA)
  go_upto_region 5 with (go_at_call 21; refine (HRB.out _ HB1.out).mono ?_; rintro er w2 ⟨AB, cB, rfl, hevB, hnilB, hccB, hlenB, hbB⟩; have HB2 := Lib.hid ((HB1.out).trans (hbB.mono (HB1.out).size)); have HEVB := Lib.hid hevB; have HNILB := Lib.hid hnilB; have HLEB := Lib.hid hlenB; have HBXB := Lib.hid hbB; clear hbB hevB hnilB hccB)
  go_upto_region 6 with (first | (go_at_call 33; refine (HJ.out _ _ (blk_new rfl)).mono ?_; rintro er w3 ⟨rfl, hb3⟩; have HB3 := Lib.hid ((HB2.out.alloc HB2.out.size _).trans (hb3.mono (HB2.out.alloc HB2.out.size _).size)); have HBX3 := Lib.hid (((Below.refl _ _).alloc (Nat.le_refl _) _).trans (hb3.mono ((Below.refl _ _).alloc (Nat.le_refl _) _).size)); clear hb3) | (go_at_call 21; refine (HRJ.out _ HB3.out).mono ?_; rintro er w4 ⟨AJ, cJ, rfl, hevJ, hnilJ, hccJ, hlenJ, hbJ⟩; have HBJ := Lib.hid ((HB3.out).trans (hbJ.mono (HB3.out).size)); have HEVJ := Lib.hid hevJ; have HNILJ := Lib.hid hnilJ; have HLEJ := Lib.hid hlenJ; have HBXJ := Lib.hid hbJ; clear hbJ hevJ hnilJ hccJ))
  have hevx := (HEVA.out.below HBXB.out).below (HBX3.out.trans (HBXJ.out.mono HBX3.out.size))
  have hevy := HEVB.out.below (HBX3.out.trans (HBXJ.out.mono HBX3.out.size))
  obtain ⟨ra, hra1, hra2, hra3⟩ := hevx.ex
  obtain ⟨rb, hrb1, hrb2, hrb3⟩ := hevy.ex
  have HX1 := Lib.hid hra2
  have HX2 := Lib.hid hra3
  have HY1 := Lib.hid hrb2
  have HY2 := Lib.hid hrb3
  have HXL := Lib.hid (show (rows ra).length = n1 * 9 by rw [rows_length, hra1]; rfl)
  have HYL := Lib.hid (show (rows rb).length = n2 * 9 by rw [rows_length, hrb1]; rfl)
  have HRL := Lib.hid (show (ra ++ rb).length = n1 + n2 by rw [List.length_append, hra1, hrb1])
  clear hevx hevy hra1 hra2 hra3 hrb1 hrb2 hrb3
  go_upto_region 8 with fail
  go_wp2_with (first
    | (at_builtin; refine wpList_app2on (by rfl) (.tmp 67) (.tmp 68) 61 74 rfl w4.heap.size (evV EvR.none) 9 104 Tryz.underlying61 ev_info rfl (by decide) (some ⟨w4.heap.size, 0, none⟩) 0 0 [] rfl (own_empty _ _ _) AA n1 cA (rows ra) rfl HNILA.out HXL.out (HX1.out.below ((Below.refl _ _).alloc (Nat.le_refl _) _)) (rows_one _) n1 (by omega) (rows ra) (List.nil_append _) (by have := HLN.out; unfold maxLen; omega) (by have := HLN.out; omega) (by simp) ?_; intro A5 c5 w5 ho5 _ hb5 _; have HO5 := Lib.hid ho5; have HB5 := Lib.hid (((Below.refl w4.heap.size w4).alloc (Nat.le_refl _) _).trans hb5); clear ho5 hb5)
    | (at_builtin; refine wpList_app2on (by rfl) (.tmp 69) (.tmp 70) 61 74 rfl w4.heap.size (evV EvR.none) 9 104 Tryz.underlying61 ev_info rfl (by decide) A5 n1 c5 (rows ra) rfl HO5.out AB n2 cB (rows rb) rfl HNILB.out HYL.out (HY1.out.below HB5.out) (rows_one _) (n1 + n2) rfl (rows (ra ++ rb)) (rows_append _ _).symm (by have := HLN.out; unfold maxLen; omega) (by have := HLN.out; omega) HB5.out.size ?_; intro A6 c6 w6 ho6 _ hb6 _; have HO6 := Lib.hid ho6; have HB6 := Lib.hid (HB5.out.trans hb6); have HBJ6 := Lib.hid (HBJ.out.trans (HB6.out.mono HBJ.out.size)); have HV := Lib.hid (HEVT.out AJ A6 cJ c6 w6 (HEVJ.out.below HB6.out) ⟨ra ++ rb, HRL.out, own_rd ho6, EvsAt.app (HX2.out.below HB6.out) (HY2.out.below HB6.out)⟩); clear ho6 hb6)
    | (go_at_call 26; refine HV.out.mono ?_; rintro er w7 ⟨rfl, hb7⟩; have HB7 := Lib.hid (HBJ6.out.trans (hb7.mono HBJ6.out.size)); clear hb7)
    | (go_at_call 25; refine (HA.out _ HB7.out).mono ?_; rintro er w8 ⟨rfl, hb8⟩; have HB8 := Lib.hid (HB7.out.trans (hb8.mono HB7.out.size)); clear hb8))
  go_ret
  exact ⟨by rfl, HB8.out⟩

set_option maxHeartbeats 4000000 in
theorem st_long (a b : ByteArray) (w : World) (hz : 60000 < a.size + b.size) (ha : a.size ≤ 281474976710656) (hb : b.size ≤ 281474976710656)
    (hA : ∀ W, Below w.heap.size w W → Calls Tryz.prog 25 #[] W fun e w' => e = .returned (.bool true) ∧ Below W.heap.size W w') :
    Calls Tryz.prog 8 #[.string a, .string b] w fun e w' => e = .returned (.bool true) ∧ Below w.heap.size w w' := by
  have HA := Lib.hid hA
  have q1 : (60000 : Int) < (a.size : Int) + (b.size : Int) := by omega
  clear hA hz
  go_enter Tryz.func8, Tryz.ntmps8
  go_wp2_with (go_at_call 25; refine (HA.out _ (Below.refl _ _)).mono ?_; rintro er w6 ⟨rfl, hb6⟩)
  go_ret
  exact ⟨by rfl, hb6⟩

theorem lawST_any (a b : ByteArray) (w : World) (ha : a.size ≤ 281474976710656) (hb : b.size ≤ 281474976710656) (he : ErrT w) (ht : TabT w) (hm : MLT w) (hq : EtT w) : Calls Tryz.prog 8 #[.string a, .string b] w fun e w' => e = .returned (.bool true) ∧ Below w.heap.size w w' := by
  have hA := fun W (h : Below w.heap.size w W) => awake24_any W (he.below h) (ht.below h) (hm.below h) (hq.below h)
  by_cases hz : 60000 < a.size + b.size
  · exact st_long a b w hz ha hb hA
  · have hz' : a.size + b.size ≤ 60000 := by omega
    have hj : (a ++ ⟨#[10]⟩ ++ b : ByteArray).size ≤ 281474976710656 := by
      have e4 : (⟨#[10]⟩ : ByteArray).size = 1 := rfl
      rw [ByteArray.size_append, ByteArray.size_append, e4]
      omega
    have hw := fun {s : ByteArray} {l c : Nat} (hs : s.size ≤ 281474976710656) (h : readQ s = .wrong l c) W (hbw : Below w.heap.size w W) => sread_wr (w := W) hs (he.below hbw) (ht.below hbw) (hm.below hbw) h
    have hr := fun {s : ByteArray} {l : List Ev} (hs : s.size ≤ 281474976710656) (h : readQ s = .right l) W (hbw : Below w.heap.size w W) => sread_rt (w := W) hs (he.below hbw) (ht.below hbw) (hm.below hbw) h
    cases ra : readQ a with
    | wrong l c =>
      obtain ⟨l2, c2, rj⟩ := together_wrong hz' (.inl ⟨l, c, ra⟩)
      cases rb : readQ b with
      | wrong l1 c1 => exact st_wwb a b w hz' l c l1 c1 l2 c2 hA (hw ha ra) (hw hb rb) (hw hj rj)
      | right y => exact st_wr a b w hz' l c l2 c2 y hA (hw ha ra) (hr hb rb) (hw hj rj)
    | right x =>
      cases rb : readQ b with
      | wrong l1 c1 =>
        obtain ⟨l2, c2, rj⟩ := together_wrong hz' (.inr ⟨l1, c1, rb⟩)
        exact st_rw a b w hz' l1 c1 l2 c2 x hA (hr ha ra) (hw hb rb) (hw hj rj)
      | right y =>
        by_cases hl : x.length + y.length ≤ 16384
        · have rj := together_right hz' ra rb hl
          exact st_all a b w hz' x y hl (fun e he' => (List.mem_append.1 he').elim (readQ_small ra e) (readQ_small rb e)) hA (hr ha ra) (hr hb rb) (hr hj rj)
        · cases rj : readQ (a ++ ⟨#[10]⟩ ++ b) with
          | wrong l2 c2 => exact st_bigw a b w hz' l2 c2 x y (by omega) hA (hr ha ra) (hr hb rb) (hw hj rj)
          | right z => exact st_bigr a b w hz' x y z (by omega) hA (hr ha ra) (hr hb rb) (hr hj rj)

end Go.Proofs.YtalkllfgedacoaaGreatDoor

namespace Go.Proofs.YtalkllfgedacoaaGreatDoor
open Go.ChangeShapes Go.WideShapes Go.ChangeAt Go.RowKit Go.Deep

theorem scriptTogether_laid {W : World} (h : laidMetH Tryz.prog Rows.scriptTogetherRow.laid W) : laidMetH Tryz.prog scrL W := h
theorem scriptTogether_met (os : Os) : laidMetH Tryz.prog Rows.scriptTogetherRow.laid ((scrW os).forCall (fun _ _ => 0) ⟨#[], #[.string ⟨#[]⟩, .string ⟨#[]⟩], []⟩).memory := scr_met os #[.string ⟨#[]⟩, .string ⟨#[]⟩]
theorem scriptTogether_reads (os : Os) {H : Type} (enc : TypeId × Value → H) : ∃ places, DataW.whole enc Tryz.prog ((scrW os).forCall (fun _ _ => 0) ⟨#[], #[.string ⟨#[]⟩, .string ⟨#[]⟩], []⟩).memory Tryz.f8.params.toList Rows.scriptTogetherSpec.vars false (#[.string ⟨#[]⟩, .string ⟨#[]⟩] : Array Value).toList 8 = some ([.lit (.string []), .lit (.string [])], [], places) :=
  ⟨[], by kernel_rfl⟩

set_option maxRecDepth 100000 in
theorem scriptTogether_lifted (os : Os) (started : os.Started) (H : Type) (enc : TypeId × Value → H) (F : Stop.Interp) :
    ReturnsInHanded {} Tryz.checked os 8 .any ((OpenSpec.ofChange Rows.scriptTogetherSpec).preRow enc Tryz.prog Tryz.f8 Rows.scriptTogetherRow.domain false Rows.scriptTogetherRow.laid) (((OpenSpec.ofChange Rows.scriptTogetherSpec).at F).post enc Tryz.prog Tryz.f8 false true false false) := by
  obtain ⟨places, hx⟩ := scriptTogether_reads os enc
  refine returnsInHanded_of_row (C := Tryz.checked) (s := OpenSpec.ofChange Rows.scriptTogetherSpec) own_knob started (by kernel_rfl) Tryz.func8
    (witness_row_at (enc := enc) (C := Tryz.checked) false (scrW os) #[.string ⟨#[]⟩, .string ⟨#[]⟩] (scrW_os os) (by kernel_rfl) (by kernel_rfl) (by kernel_rfl)
      (OpenSpec.preRow_of_cond 8 hx (by kernel_rfl) (fun k hk => by cases hk) (by kernel_rfl) (scriptTogether_met os))) ?_
  intro W base args ds gs before hval0 hW _ _ hsz0 hL hSh _
  have hval : ∀ (j : Nat) t v, Tryz.f8.params[j]? = some t → args[j]? = some v → Value.okWide Tryz.prog W .any base t v := hval0
  have hW' := hW
  obtain ⟨p, q, hA0, hV, rfl, hfz, hnd⟩ := hW
  have hA : DataW.TrodAll enc Tryz.prog W 0 (fun _ => true) true Tryz.f8.params.toList args.toList ds p := hA0
  obtain ⟨rfl, rfl⟩ := trodVars_none hV
  have hsz : (DataW.weightsEach Tryz.prog (Tryz.f8.params.toList ++ []) (ds ++ [])).all (· ≤ reachBytes) = true := hsz0
  rw [List.append_nil, List.append_nil] at hsz
  rw [Tryz.params8] at hA hval hsz
  simp only at hA hsz
  obtain ⟨v0, vs0, d0, ds0, p0, q0, hargs0, rfl, rfl, h0, r0⟩ := trodAll_cons hA
  obtain ⟨v1, vs1, d1, ds1, p1, q1, hargs1, rfl, rfl, h1, r1⟩ := trodAll_cons r0
  obtain ⟨rfl, rfl, rfl⟩ := trodAll_nil r1
  subst hargs1
  obtain rfl : args = #[v0, v1] := by cases args; simp_all
  obtain ⟨f0, hz⟩ := fit_cons hsz
  obtain ⟨f1, hz⟩ := fit_cons hz
  clear hA0 hval0 hsz0 hsz hz
  obtain ⟨s, rfl, hs⟩ := str_argW (hval 0 9 v0 rfl rfl) h0 f0
  obtain ⟨s2, rfl, hs2⟩ := str_argW (hval 1 9 v1 rfl rfl) h1 f1
  have hL2 := scriptTogether_laid hL
  have hT := scr_tab hL2
  have hE := scr_err hL2
  have hQ := scr_et hL2
  have hM := scr_ml hSh
  refine (lawST_any s s2 W (by omega) (by omega) hE hT hM hQ).mono fun e W' ⟨he, hb⟩ => ?_
  subst he
  exact ⟨_, rfl, law_post laid_out (by kernel_rfl) (by kernel_rfl) Tryz.underlying4 rfl hW' rfl hb⟩

theorem scriptTogether_said : Rows.ScriptTogetherSaid :=
  OpenClaim.holds_of_cond 8 Tryz.f8 rfl rfl rfl rfl rfl rfl rfl ⟨rfl, rfl, rfl, rfl, rfl⟩ rfl rfl rfl rfl rfl (by kernel_rfl) Tryz.func8 (by kernel_rfl)
    (of_decide_eq_true (by kernel_rfl)) (by unfold Func.isWrapper; first | (rw [if_pos (by decide +kernel)]; kernel_rfl) | (rw [if_neg (by decide +kernel)]; exact ⟨rfl, rfl⟩))
    (fun os started H enc _ F => by rw [OpenClaim.pre_eq_preRow]; exact scriptTogether_lifted os started H enc F)

theorem scriptTogether_plain (f : FuncId) (fn : Func) (hf : Tryz.pinned.checked.prog.funcNamed "stopgate/stopgatelaw24.ScriptTogether" = some f) (hfn : Tryz.pinned.checked.prog.funcs[f]? = some fn) :
    true = Tryz.pinned.checked.prog.looks [] ∧ ∀ (j : Nat) t, fn.params[j]? = some t → Tryz.pinned.checked.prog.wantsStandIn t = false := by
  obtain rfl : f = 8 := Option.some.inj ((show Tryz.prog.funcNamed "stopgate/stopgatelaw24.ScriptTogether" = some 8 by kernel_rfl).symm.trans hf) |>.symm
  obtain rfl : fn = Tryz.f8 := (Option.some.inj (Tryz.func8.symm.trans hfn)).symm
  refine ⟨by kernel_rfl, fun j t ht => ?_⟩
  rw [Tryz.params8] at ht
  have hm : t ∈ [9, 9] := by simpa using Array.mem_of_getElem? ht
  have hall : ([9, 9].all fun u => !Tryz.prog.wantsStandIn u) = true := by kernel_rfl
  exact (show Tryz.prog.wantsStandIn t = false by simpa using List.all_eq_true.1 hall t hm)

theorem scriptTogether_holds : Rows.ScriptTogetherCardSaid :=
  Claim7.holds_tied_plain_at .later [] _ _ _ _ scriptTogether_said (fun _ h => by cases h) (by kernel_rfl) (fun _ h => by cases h) scriptTogether_row_tie rfl ⟨rfl, rfl⟩ (by kernel_rfl) rfl scriptTogether_plain (by kernel_rfl)

end Go.Proofs.YtalkllfgedacoaaGreatDoor

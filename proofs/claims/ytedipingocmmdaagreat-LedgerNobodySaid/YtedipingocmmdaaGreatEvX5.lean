/- An evaluator of calls: regions, codes. -/
import Derived.Test.YtedipingocmmdaaGreatEvX4
import Derived.LoopN
namespace Go.Proofs.YtedipingocmmdaaGreat.Ev
open Go Go.RowKit

theorem noneIn_spec {c d : Nat} : ∀ {l : Log}, noneIn c d l = true → ∀ n b, (n, b) ∈ l → n < c ∨ d ≤ n
  | [], _, n, b, h => by cases h
  | (m, a) :: r, h, n, b, hm => by
    obtain ⟨h1, h2⟩ := andK_true (show andK (Bool.rec (Nat.ble d m) true (Nat.blt m c)) (noneIn c d r) = true from h)
    rcases List.mem_cons.mp hm with e | hm
    · injection e with e1 e2
      subst e1
      rcases blt_cases n c with ⟨_, h3⟩ | ⟨h3, _⟩
      · exact .inl h3
      · rw [h3] at h1; exact .inr (ble_true h1)
    · exact noneIn_spec h2 n b hm
theorem apart1_spec {n : Nat} {w : Bool} : ∀ {l : Log}, apart1 n w l = true → ∀ b, (n, b) ∈ l → w = false ∧ b = false
  | [], _, b, h => by cases h
  | (m, a) :: r, h, b, hm => by
    obtain ⟨h1, h2⟩ := andK_true (show andK (Bool.rec true (Bool.rec (notK a) false w) (Nat.beq n m)) (apart1 n w r) = true from h)
    rcases List.mem_cons.mp hm with e | hm
    · injection e with e1 e2
      subst e1 e2
      rw [Nat.beq_refl] at h1
      cases w
      · cases b
        · exact ⟨rfl, rfl⟩
        · cases h1
      · cases h1
    · exact apart1_spec h2 b hm
theorem apartLog_spec {b : Log} : ∀ {a : Log}, apartLog a b = true → ∀ n x y, (n, x) ∈ a → (n, y) ∈ b → x = false ∧ y = false
  | [], _, n, x, y, h, _ => by cases h
  | (m, w) :: r, h, n, x, y, hm, hy => by
    obtain ⟨h1, h2⟩ := andK_true (show andK (apart1 m w b) (apartLog r b) = true from h)
    rcases List.mem_cons.mp hm with e | hm
    · injection e with e1 e2
      subst e1 e2
      exact apart1_spec h1 y hy
    · exact apartLog_spec h2 n x y hm hy
theorem pairsOk_spec {ds : List Did} : ∀ {ps : List (Nat × Nat)}, pairsOk ds ps = true → ∀ i j, (i, j) ∈ ps → ∃ a b, ds[i]? = some a ∧ ds[j]? = some b ∧ didOk a b = true
  | [], _, i, j, h => by cases h
  | (p, q) :: r, h, i, j, hm => by
    obtain ⟨h1, h2⟩ := andK_true (show andK (nth false (fun a => nth false (fun b => didOk a b) q ds) p ds) (pairsOk ds r) = true from h)
    rcases List.mem_cons.mp hm with e | hm
    · injection e with e1 e2
      subst e1 e2
      rw [nth_eq] at h1
      cases hi : ds[i]? with
      | none => rw [hi] at h1; cases h1
      | some a =>
        rw [hi] at h1
        simp only at h1
        rw [nth_eq] at h1
        cases hj : ds[j]? with
        | none => rw [hj] at h1; cases h1
        | some b => rw [hj] at h1; exact ⟨a, b, rfl, rfl, h1⟩
    · exact pairsOk_spec h2 i j hm
section
variable {P : Program} {cl : CL} {n : Nat} {ops : Array Oper}
theorem ind_of {o1 o2 : Oper} {x y : Item} (hx : IOk P cl n ops o1 x) (hy : IOk P cl n ops o2 y) (ha : Oper.apart ops o1 o2 = true) (hn : x.d ≤ y.c)
    (h : (∃ a b, loud o1.op = some a ∧ loud o2.op = some b ∧ (a || b) = true) → didOk ⟨x.c, x.d, x.l⟩ ⟨y.c, y.d, y.l⟩ = true) : Ind x y := by
  obtain ⟨r1, r2, r3⟩ := Oper.apart_spec ha
  have hr1 : ∀ d, x.s.dst = some d → d ∉ y.ts ∧ y.s.dst ≠ some d := fun d hd => by
    rw [hx.sok.dst] at hd
    rw [hy.ts, hy.sok.dst]
    exact ⟨r1 d hd, r2 d hd⟩
  have hr2 : ∀ d, y.s.dst = some d → d ∉ x.ts := fun d hd => by
    rw [hy.sok.dst] at hd
    rw [hx.ts]
    exact r3 d hd
  have hnm : ∀ n, x.c ≤ n → n < x.d → n < y.c ∨ y.d ≤ n := fun n _ h2 => .inl (by omega)
  cases h1 : loud o1.op with
  | none =>
    obtain ⟨e1, e2⟩ := hx.q0 h1
    exact ⟨hr1, hr2, fun n a b h => (by rw [e2] at h; cases h), fun n a _ => (by omega), fun n a h => (by rw [e2] at h; cases h), hnm⟩
  | some a =>
    cases h2 : loud o2.op with
    | none =>
      obtain ⟨e1, e2⟩ := hy.q0 h2
      exact ⟨hr1, hr2, fun n a b _ h => (by rw [e2] at h; cases h), fun n a h => (by rw [e2] at h; cases h), fun n a _ => (by omega), hnm⟩
    | some b =>
      by_cases hab : (a || b) = true
      · have hd := h ⟨a, b, h1, h2, hab⟩
        obtain ⟨d1, hd⟩ := andK_true (show andK (apartLog x.l y.l) (andK (noneIn x.c x.d y.l) (noneIn y.c y.d x.l)) = true from hd)
        obtain ⟨d2, d3⟩ := andK_true hd
        exact ⟨hr1, hr2, apartLog_spec d1, noneIn_spec d2, noneIn_spec d3, hnm⟩
      · have ha0 : a = false := by cases a <;> simp_all
        have hb0 : b = false := by cases b <;> simp_all
        subst ha0 hb0
        have e1 := hx.q1 h1
        have e2 := hy.q1 h2
        exact ⟨hr1, hr2, fun n a b h => (by rw [e1] at h; cases h), fun n a h => (by rw [e2] at h; cases h), fun n a h => (by rw [e1] at h; cases h), hnm⟩
/-- All of a region is left, at first. -/
theorem left_all {c c' : Nat} {its : List (Nat × Item)} (hi : Items P cl n ops 0 ops.toList c c' its) (hd : drawOk ops = true) (h : ∀ i j x y, i < j → its[i]? = some (i, x) → its[j]? = some (j, y) → ordB (Region.before ops) i j ≠ true → pairOk ops i j = true → didOk ⟨x.c, x.d, x.l⟩ ⟨y.c, y.d, y.l⟩ = true) : Left P cl n ops its (Array.replicate ops.size false) := by
  unfold drawOk at hd
  rw [Bool.and_eq_true, List.all_eq_true, List.all_eq_true] at hd
  obtain ⟨hd1, hd2⟩ := hd
  have hlen : its.length = ops.size := by rw [hi.len, Array.length_toList]
  have hat : ∀ i, i < ops.size → ∃ o x, ops[i]? = some o ∧ ops.getD i default = o ∧ its[i]? = some (i, x) ∧ IOk P cl n ops o x := fun i hlt => by
    obtain ⟨x, hx, hxo⟩ := hi.at_ i ops[i] (by simp [hlt])
    rw [Nat.zero_add] at hx
    exact ⟨_, x, by simp [hlt], by simp [Array.getD, hlt], hx, hxo⟩
  refine ⟨fun p hp => ?_, ?_, by simp, fun i hlt => ?_, fun j hj hl => ?_, fun j hj e he hb => ?_⟩
  · obtain ⟨t, ht⟩ := List.getElem?_of_mem hp
    have hlt : t < ops.size := by rw [← hlen]; exact (List.getElem?_eq_some_iff.mp ht).1
    obtain ⟨o, x, h1, -, h2, h3⟩ := hat t hlt
    rw [ht] at h2
    injection h2 with h2
    subst h2
    exact ⟨o, h1, h3⟩
  · rw [List.pairwise_iff_getElem]
    intro i j hi1 hj1 hij
    obtain ⟨h1, h2⟩ := (List.pairwise_iff_getElem.mp hi.pw) i j hi1 hj1 hij
    obtain ⟨o1, x, k1, k1', k2, k3⟩ := hat i (by omega)
    obtain ⟨o2, y, m1, m1', m2, m3⟩ := hat j (by omega)
    have e1 : its[i] = (i, x) := (List.getElem?_eq_some_iff.mp k2).2
    have e2 : its[j] = (j, y) := (List.getElem?_eq_some_iff.mp m2).2
    rw [e1, e2] at h1 h2 ⊢
    simp only at h1 h2 ⊢
    refine ⟨hij, ?_, fun n _ hn => .inl (by omega)⟩
    by_cases ho : ordB (Region.before ops) i j = true
    · exact .inl ho
    · refine .inr (ind_of k3 m3 ?_ h2 ?_)
      · have := List.all_eq_true.mp (hd2 j (List.mem_range.mpr (by omega))) i (List.mem_range.mpr hij)
        rw [Bool.or_eq_true, k1', m1'] at this
        exact this.resolve_left ho
      · rintro ⟨a, b, l1, l2, l3⟩
        refine h i j x y hij k2 m2 ho ?_
        unfold pairOk
        rw [k1', m1', l1, l2]
        exact l3
  · obtain ⟨o, x, -, -, h2, -⟩ := hat i hlt
    constructor
    · intro _; exact ⟨x, List.mem_of_getElem? h2⟩
    · intro _; simp [Array.getD, hlt]
  · simp [Array.getD, hj] at hl
  · have := List.all_eq_true.mp (hd1 j (List.mem_range.mpr hj)) e (Array.mem_toList_iff.mpr he)
    rw [hb] at this
    simpa using this
/-- How a code ends. -/
def exitOf : IExit → Exit
  | .normal => .normal
  | .exit i => .exit i
  | .ret => .ret
/-- A code goes as the program's does. -/
def SoundC (P : Program) (cl : CL) (n : Nat) (code : Code) (ec : EC) : Prop :=
  ∀ (T : Trie Value) (g : Bool) (c : Nat) (H : Mem) (l : Log) (x : IExit) (T' : Trie Value) (c' : Nat) (H' : Mem) (l' : Log) (base : Nat) (w0 : World) (ρ : Nat → Loc) (U : Nat → Prop) (a : Act) (w : World),
    ec cl T g c H l = .ok (x, T') c' H' l' → Frm ρ U n T.get a → Rel P base w0 ρ U H w → (∀ j, c ≤ j → j < c' → ¬ U j) → ∀ Q : Exit → Act → World → Prop,
    (∀ ρ' U' a' w', More ρ U ρ' U' → (∀ j, U' j → U j ∨ (c ≤ j ∧ j < c')) → Frm ρ' U' n T'.get a' → Rel P base w0 ρ' U' H' w' → Q (exitOf x) a' w') → code.wp P Q a w
theorem draw_sound (hm : P.follows .mixedOrders = true) {id : Nat} {c c' : Nat} {its : List (Nat × Item)} (hi : Items P cl n ops 0 ops.toList c c' its) (hL : Left P cl n ops its (Array.replicate ops.size false)) {T T' : Trie Value} {H H' : Mem} (hC : Chain cl (its.map (·.2)) T.get H T'.get H') {base : Nat} {w0 w : World} {ρ : Nat → Loc} {U : Nat → Prop} {a : Act}
    (hF : Frm ρ U n T.get a) (hR : Rel P base w0 ρ U H w) (hU : ∀ j, c ≤ j → j < c' → ¬ U j) {Q : Exit → Act → World → Prop} (hQ : ∀ ρ' U' a' w', More ρ U ρ' U' → (∀ j, U' j → U j ∨ (c ≤ j ∧ j < c')) → Frm ρ' U' n T'.get a' → Rel P base w0 ρ' U' H' w' → Q .normal a' w') : (Code.region id ops true).wp P Q a w := by
  refine wp_region_any hm ?_
  have hlen : its.length = ops.size := by rw [hi.len, Array.length_toList]
  refine region_sound ops.size its _ hlen hL ρ U T.get H a w.drew hF hR.drew (fun p hp j h1 h2 => ?_) hC fun ρ' U' a' w' h1 h2 h3 h4 => hQ ρ' U' a' w' h1 (fun j hj => (h2 j hj).imp (fun h => h) fun ⟨p, hp, k1, k2⟩ => ?_) h3 h4
  · have := hi.rng p hp
    exact hU j (by omega) (by omega)
  · have := hi.rng p hp
    omega
theorem list_sound (hcl : CallsOk P cl) (hfr : ∀ f l, Framed (cl f l)) {base : Nat} {w0 : World} {Q : Exit → Act → World → Prop} : ∀ (os : List Oper) (ss : List SOper) (k : Nat), (∀ t, os[t]? = ops[k + t]?) → mapO (compileOper P n ops) os = some ss → ∀ {T T' : Trie Value} {g : Bool} {c c' : Nat} {H H' : Mem} {l l' : Log} {ρ : Nat → Loc} {U : Nat → Prop} {a : Act} {w : World},
    evSeq cl ss T g c H l = .ok T' c' H' l' → Frm ρ U n T.get a → Rel P base w0 ρ U H w → (∀ j, c ≤ j → j < c' → ¬ U j) →
    (∀ ρ' U' a' w', More ρ U ρ' U' → (∀ j, U' j → U j ∨ (c ≤ j ∧ j < c')) → Frm ρ' U' n T'.get a' → Rel P base w0 ρ' U' H' w' → Q .normal a' w') → wpList P ops Q os a w
  | [], ss, k, _, hm, T, T', g, c, c', H, H', l, l', ρ, U, a, w, h, hF, hR, hU, hQ => by
    injection hm with hm; subst hm
    obtain ⟨rfl, rfl, rfl, rfl⟩ := ret_ok (show M.ret T g c H l = .ok T' c' H' l' from h)
    exact hQ ρ U a w .refl (fun j hj => .inl hj) hF hR
  | o :: os, ss, k, hk, hm, T, T', g, c, c', H, H', l, l', ρ, U, a, w, h, hF, hR, hU, hQ => by
    obtain ⟨s, ss2, hs, hss, rfl⟩ := mapO_cons hm
    obtain ⟨T1, c1, H1, l1, h1, h2⟩ := bind_ok (show M.bind (evOper cl T s) (evSeq cl ss2) g c H l = .ok T' c' H' l' from h)
    obtain ⟨v, c2, H2, l2, h3, h4⟩ := bind_ok h1
    obtain ⟨rfl, rfl, rfl, hT, -⟩ := putT_ok h4
    obtain ⟨hsok, hok⟩ := oper_ok hcl hs
    have hc1 := mono_of (fr_evVal hfr hok.fr) h3
    obtain ⟨-, -, -, hc2⟩ := seq_items hcl hfr os ss2 (k + 1) hss h2
    have hi : ops[k]? = some o := by have := hk 0; rw [Nat.add_zero] at this; rw [← this]; rfl
    have hw : wpOp P ops Q k (wpList P ops Q os) a w := op_wp hi hsok hF hR (fun j a b => hU j a (by omega)) h3 hT fun ρ' U' a' w' m1 m2 m3 m4 => by
      refine list_sound hcl hfr os ss2 (k + 1) (fun t => by have := hk (t + 1); rw [show k + (t + 1) = k + 1 + t by omega] at this; rw [← this]; rfl) hss h2 m4 m3 (fun j a b hj => ?_) fun ρ2 U2 a2 w2 k1 k2 k3 k4 => hQ ρ2 U2 a2 w2 (m1.trans k1) (fun j hj => ?_) k3 k4
      · rcases m2 j hj with h5 | h5
        · exact hU j (by omega) b h5
        · omega
      · rcases k2 j hj with h5 | h5
        · rcases m2 j h5 with h6 | h6
          · exact .inl h6
          · exact .inr (by omega)
        · exact .inr (by omega)
    unfold wpOp at hw
    rw [hi] at hw
    exact hw
end
end Go.Proofs.YtedipingocmmdaaGreat.Ev


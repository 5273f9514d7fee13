/- Events as rows of records. -/
import Derived.Test.YtalkllfgedacoaaGreatDoorD4
namespace Go.Proofs.YtalkllfgedacoaaGreatDoor
open Go.RowKit Go.Sort

/-! Groups of like picks. -/
theorem runQ_le (e : Ev) : ∀ (f : Nat) (r : List Ev), runQ e f r ≤ r.length ∧ runQ e f r ≤ f
  | 0, r => by simp [runQ]
  | f + 1, [] => by simp [runQ]
  | f + 1, x :: r => by
    have := runQ_le e f r
    rw [runQ]
    split
    · simp only [List.length_cons]; omega
    · simp
theorem runQ_take (e : Ev) : ∀ (f : Nat) (r : List Ev), r.take (runQ e f r) = List.replicate (runQ e f r) e
  | 0, r => by simp [runQ]
  | f + 1, [] => by simp [runQ]
  | f + 1, x :: r => by
    have := runQ_take e f r
    rw [runQ]
    split
    · rename_i h
      rw [List.take_succ_cons, this, h, List.replicate_succ]
    · simp
theorem grpQ_in (e : Ev) (r : List Ev) : 1 ≤ grpQ (e :: r) ∧ grpQ (e :: r) ≤ r.length + 1 ∧ grpQ (e :: r) ≤ 1000 := by
  have := runQ_le e 999 r
  rw [grpQ]
  split <;> omega
theorem grpQ_one {e : Ev} (r : List Ev) (h : ¬ e.kind = 1) : grpQ (e :: r) = 1 := by rw [grpQ, if_neg h]
theorem grpQ_take (e : Ev) (r : List Ev) : (e :: r).take (grpQ (e :: r)) = List.replicate (grpQ (e :: r)) e := by
  rw [grpQ]
  split
  · rw [List.take_succ_cons, runQ_take, List.replicate_succ]
  · rfl
theorem grpQ_drop_lt (e : Ev) (r : List Ev) : ((e :: r).drop (grpQ (e :: r))).length ≤ r.length := by
  have := grpQ_in e r
  rw [List.length_drop, List.length_cons]
  omega
theorem textF_more : ∀ (f g : Nat) (l : List Ev), l.length ≤ f → l.length ≤ g → textF f l = textF g l
  | f, g, [], _, _ => by cases f <;> cases g <;> rfl
  | 0, _, _ :: _, h, _ => by simp at h
  | _ + 1, 0, _ :: _, _, h => by simp at h
  | f + 1, g + 1, e :: r, hf, hg => by
    have := grpQ_drop_lt e r
    simp only [List.length_cons] at hf hg
    rw [textF, textF, textF_more f g _ (by omega) (by omega)]
theorem okF_more : ∀ (f g : Nat) (l : List Ev), l.length ≤ f → l.length ≤ g → okF f l = okF g l
  | f, g, [], _, _ => by cases f <;> cases g <;> rfl
  | 0, _, _ :: _, h, _ => by simp at h
  | _ + 1, 0, _ :: _, _, h => by simp at h
  | f + 1, g + 1, e :: r, hf, hg => by
    have := grpQ_drop_lt e r
    simp only [List.length_cons] at hf hg
    rw [okF, okF, okF_more f g _ (by omega) (by omega)]
theorem textG_nil : textG [] = ⟨#[]⟩ := rfl
theorem textG_cons (e : Ev) (r : List Ev) : textG (e :: r) = evS e (grpQ (e :: r)) ++ ⟨#[10]⟩ ++ textG ((e :: r).drop (grpQ (e :: r))) := by
  show textF (r.length + 1) (e :: r) = _
  rw [textF, textG, textF_more _ _ _ (grpQ_drop_lt e r) (Nat.le_refl _)]
theorem okG_nil : okG [] = true := rfl
theorem okG_cons (e : Ev) (r : List Ev) : okG (e :: r) = (okE e && decide ((evS e (grpQ (e :: r))).size ≤ 120) && okG ((e :: r).drop (grpQ (e :: r)))) := by
  show okF (r.length + 1) (e :: r) = _
  rw [okF, okG, okF_more _ _ _ (grpQ_drop_lt e r) (Nat.le_refl _)]

/-! Words without blanks and newlines. -/
def cutC (c : UInt8) : Prop := c = 10 ∨ c = 32
theorem itoaS_cut {c : UInt8} (hc : cutC c) (n : Int) : c ∉ (itoaS n).data.toList := by
  rcases hc with rfl | rfl
  · exact itoaS_no 10 (by decide) (.inl (by decide)) n
  · exact itoaS_no 32 (by decide) (.inl (by decide)) n
theorem kaseS_cut {c : UInt8} (hc : cutC c) (x : Cse) : c ∉ (kaseS x).data.toList := by
  have h1 := itoaS_cut hc x.handle
  have h2 := itoaS_cut hc x.value
  have h3 : c ∉ w_sendS.data.toList := by rcases hc with rfl | rfl <;> decide
  have h4 : c ∉ w_recvS.data.toList := by rcases hc with rfl | rfl <;> decide
  have h5 : c ∉ (⟨#[58]⟩ : ByteArray).data.toList := by rcases hc with rfl | rfl <;> decide
  unfold kaseS
  split
  · simp only [bytes_app, List.mem_append, not_or]
    exact ⟨⟨⟨⟨h3, h5⟩, h1⟩, h5⟩, h2⟩
  · simp only [bytes_app, List.mem_append, not_or]
    exact ⟨⟨h4, h5⟩, h1⟩
theorem nameS_cut {c : UInt8} (hc : cutC c) (q : Reqr) (cs : List Cse) : c ∉ (nameS q cs).data.toList := by
  rcases name_ways q cs with h | ⟨h, _⟩ | ⟨_, _, _, h | h, _⟩ | ⟨_, _, _, h | h, _⟩ | ⟨_, h, _⟩ | ⟨_, h, _⟩ | ⟨_, h, _⟩ | ⟨_, h | h | h | h | h, _⟩ <;>
  · rw [h]
    rcases hc with rfl | rfl <;> decide
theorem argsS_cut {c : UInt8} (hc : cutC c) (q : Reqr) (cs : List Cse) : ∀ x ∈ argsS q cs, c ∉ x.data.toList := by
  have hk : ∀ x ∈ (if q.dflt = true then [w_defS] else []) ++ cs.map kaseS, c ∉ x.data.toList := by
    intro x hx
    rcases List.mem_append.1 hx with hx | hx
    · split at hx
      · rw [List.mem_singleton] at hx; subst hx
        rcases hc with rfl | rfl <;> decide
      · cases hx
    · obtain ⟨y, hy, rfl⟩ := List.mem_map.1 hx
      exact kaseS_cut hc y
  intro x hx
  unfold argsS at hx
  split at hx
  · split at hx
    · exact hk x hx
    · split at hx
      · simp only [List.mem_cons, List.not_mem_nil, or_false] at hx; rcases hx with rfl | rfl <;> exact itoaS_cut hc _
      · simp only [List.mem_cons, List.not_mem_nil, or_false] at hx; subst hx; exact itoaS_cut hc _
  · split at hx
    · simp only [List.mem_cons, List.not_mem_nil, or_false] at hx; rcases hx with rfl | rfl <;> exact itoaS_cut hc _
    · split at hx
      · simp only [List.mem_cons, List.not_mem_nil, or_false] at hx; subst hx; exact itoaS_cut hc _
      · split at hx
        · cases hx
        · simp only [List.mem_cons, List.not_mem_nil, or_false] at hx; subst hx; exact itoaS_cut hc _
theorem callW_cut {c : UInt8} (hc : cutC c) (r : Rq) : ∀ x ∈ callW r, c ∉ x.data.toList := by
  intro x hx
  unfold callW at hx
  split at hx
  · rw [List.mem_singleton] at hx; subst hx
    rcases hc with rfl | rfl <;> decide
  · rcases List.mem_cons.1 hx with rfl | hx
    · exact nameS_cut hc _ _
    · exact argsS_cut hc _ _ x hx
theorem evH_cut {c : UInt8} (hc : cutC c) (e : Ev) : c ∉ (evH e).data.toList := by
  unfold evH
  split
  · rcases hc with rfl | rfl <;> decide
  · split <;> rcases hc with rfl | rfl <;> decide
theorem evW_cut {c : UInt8} (hc : cutC c) (e : Ev) (n : Nat) : ∀ x ∈ evW e n, c ∉ x.data.toList := by
  intro x hx
  unfold evW at hx
  split at hx
  · rcases List.mem_append.1 hx with hx | hx
    · rw [List.mem_singleton] at hx; subst hx; exact itoaS_cut hc _
    · split at hx
      · rw [List.mem_singleton] at hx; subst hx; exact itoaS_cut hc _
      · cases hx
  · split at hx
    · rcases List.mem_cons.1 hx with rfl | hx
      · exact itoaS_cut hc _
      · exact callW_cut hc _ x hx
    · rcases List.mem_cons.1 hx with rfl | hx
      · exact itoaS_cut hc _
      · rcases List.mem_cons.1 hx with rfl | hx
        · exact itoaS_cut hc _
        · obtain ⟨y, _, rfl⟩ := List.mem_map.1 hx
          exact itoaS_cut hc _
theorem words_sayL {nm : ByteArray} {l : List ByteArray} (h : ∀ x ∈ nm :: l, (32 : UInt8) ∉ x.data.toList) : wordsC 32 (sayL nm l) = nm :: l := by
  unfold sayL
  rw [wordsC_join 32 nm.data.toList (l.map (·.data.toList))]
  · rw [List.map_cons, List.map_map]
    have e1 : (⟨nm.data.toList.toArray⟩ : ByteArray) = nm := by simp
    rw [e1]
    congr 1
    have : ((fun y : List UInt8 => (⟨y.toArray⟩ : ByteArray)) ∘ fun x : ByteArray => x.data.toList) = id := by funext x; simp
    rw [this, List.map_id]
  · intro y hy
    rcases List.mem_cons.1 hy with rfl | hy
    · exact h _ (List.mem_cons_self ..)
    · obtain ⟨x, hx, rfl⟩ := List.mem_map.1 hy
      exact h x (List.mem_cons_of_mem _ hx)
theorem sayL_mem {c : UInt8} (hc : c ≠ 32) {nm : ByteArray} {l : List ByteArray} (h : ∀ x ∈ nm :: l, c ∉ x.data.toList) : c ∉ (sayL nm l).data.toList := by
  have e : (sayL nm l).data.toList = nm.data.toList ++ Lib.joinTail [32] (l.map (·.data.toList)) := by unfold sayL; simp
  rw [e, List.mem_append, not_or]
  refine ⟨h _ (List.mem_cons_self ..), ?_⟩
  have h2 : ∀ x ∈ l, c ∉ x.data.toList := fun x hx => h x (List.mem_cons_of_mem _ hx)
  clear h e
  induction l with
  | nil => simp [Lib.joinTail]
  | cons x r ih =>
    have e2 : Lib.joinTail [32] ((x :: r).map (·.data.toList)) = 32 :: (x.data.toList ++ Lib.joinTail [32] (r.map (·.data.toList))) := by simp [Lib.joinTail]
    rw [e2, List.mem_cons, List.mem_append, not_or, not_or]
    exact ⟨hc, h2 x (List.mem_cons_self ..), ih fun y hy => h2 y (List.mem_cons_of_mem _ hy)⟩
theorem evS_words (e : Ev) (n : Nat) : wordsC 32 (evS e n) = evH e :: evW e n := by
  unfold evS
  refine words_sayL fun x hx => ?_
  rcases List.mem_cons.1 hx with rfl | hx
  · exact evH_cut (.inr rfl) e
  · exact evW_cut (.inr rfl) e n x hx
theorem evS_ten (e : Ev) (n : Nat) : (10 : UInt8) ∉ (evS e n).data.toList := by
  unfold evS
  refine sayL_mem (by decide) fun x hx => ?_
  rcases List.mem_cons.1 hx with rfl | hx
  · exact evH_cut (.inl rfl) e
  · exact evW_cut (.inl rfl) e n x hx
theorem evS_skip (e : Ev) (n : Nat) : skipQ (evS e n) = false := by
  have e1 : (evS e n).data.toList = (evH e).data.toList ++ Lib.joinTail [32] ((evW e n).map (·.data.toList)) := by unfold evS sayL; simp
  have hs : (evS e n).size = (evS e n).data.toList.length := by rw [Array.length_toList]; rfl
  unfold skipQ
  rw [hs, e1]
  have h : ∃ b t, (evH e).data.toList = b :: t ∧ b ≠ 35 := by
    unfold evH
    split
    · exact ⟨_, _, rfl, by decide⟩
    · split <;> exact ⟨_, _, rfl, by decide⟩
  obtain ⟨b, t, h1, h2⟩ := h
  rw [h1]
  simp [h2]

/-! A line, said and read. -/
theorem sameQ_eq {q : Reqr} {cs : List Cse} {r : Rq} (h : sameQ q cs r = true) : r = ⟨q.kind, q.arg, q.value, q.dflt, cs⟩ := by
  unfold sameQ at h
  simp only [Bool.and_eq_true, beq_iff_eq] at h
  obtain ⟨⟨⟨⟨h1, h2⟩, h3⟩, h4⟩, h5⟩ := h
  cases r
  simp_all
theorem sameQ_self (r : Rq) : sameQ r.req r.cs r = true := by simp [sameQ, Rq.req]
theorem say_words' (q : Reqr) (cs : List Cse) : wordsC 32 (sayS q cs) = nameS q cs :: argsS q cs := by
  rw [sayS_eq]
  refine words_sayL fun x hx => ?_
  rcases List.mem_cons.1 hx with rfl | hx
  · exact nameS_cut (.inr rfl) q cs
  · exact argsS_cut (.inr rfl) q cs x hx
/-- A call that can be said is read from its words, and its words are these. -/
theorem sayR_back {r : Rq} (h : sayR r ≠ ⟨#[]⟩) : callQ (nameS r.req r.cs :: argsS r.req r.cs) = some r ∧ sayR r = sayL (nameS r.req r.cs) (argsS r.req r.cs) := by
  unfold sayR callS at h ⊢
  rw [say_words'] at h ⊢
  split at h
  · exact absurd rfl h
  · rename_i h0
    rw [if_neg h0]
    split at h
    · exact absurd rfl h
    · rename_i r' hr
      split at h
      · rename_i hs
        have := sameQ_eq hs
        have e : r' = r := by rw [this]; rfl
        subst e
        rw [hr]
        simp only
        rw [if_pos hs]
        exact ⟨trivial, sayS_eq _ _⟩
      · exact absurd rfl h
theorem callQ_empty : callQ [⟨#[]⟩] = none := by decide +kernel
theorem callW_back (r : Rq) : callQ (callW r) = if sayR r = ⟨#[]⟩ then none else some r := by
  unfold callW
  split
  · exact callQ_empty
  · rename_i h
    exact (sayR_back h).1

theorem okE_pick (t : Nat) (h : t ≤ 63) : okE (evPick t) = true := by
  have h1 : decide (0 ≤ (evPick t).thread ∧ (evPick t).thread ≤ 63) = true := decide_eq_true (by show 0 ≤ (t : Int) ∧ (t : Int) ≤ 63; omega)
  have h2 : decide (evPick t = evPick (evPick t).thread) = true := decide_eq_true rfl
  unfold okE
  rw [h1, if_pos (show (evPick t).kind = 1 from rfl), h2]
  rfl
theorem okE_call (t : Nat) (r : Rq) (h : t ≤ 63) (hr : sayR r ≠ ⟨#[]⟩) : okE (evCall t r) = true := by
  have h1 : decide (0 ≤ (evCall t r).thread ∧ (evCall t r).thread ≤ 63) = true := decide_eq_true (by show 0 ≤ (t : Int) ∧ (t : Int) ≤ 63; omega)
  have h2 : decide (sayR (evCall t r).rq ≠ ⟨#[]⟩ ∧ evCall t r = evCall (evCall t r).thread (evCall t r).rq) = true := decide_eq_true ⟨hr, rfl⟩
  unfold okE
  rw [h1, if_neg (show ¬ (evCall t r).kind = 1 by show ¬ (2 : Int) = 1; decide), if_pos (show (evCall t r).kind = 2 from rfl), h2]
  rfl
theorem okE_pump (t : Nat) (i : Int) (o : List Int) (h : t ≤ 63) (hs : startQ i o = true) : okE (evPump t i o) = true := by
  have h1 : decide (0 ≤ (evPump t i o).thread ∧ (evPump t i o).thread ≤ 63) = true := decide_eq_true (by show 0 ≤ (t : Int) ∧ (t : Int) ≤ 63; omega)
  have h2 : decide (evPump t i o = evPump (evPump t i o).thread (evPump t i o).inn (evPump t i o).outs) = true := decide_eq_true rfl
  have h3 : startQ (evPump t i o).inn (evPump t i o).outs = true := hs
  unfold okE
  rw [h1, if_neg (show ¬ (evPump t i o).kind = 1 by show ¬ (3 : Int) = 1; decide), if_neg (show ¬ (evPump t i o).kind = 2 by show ¬ (3 : Int) = 2; decide), if_pos (show (evPump t i o).kind = 3 from rfl), h2, h3]
  rfl
theorem kinds3 (e : Ev) : (e.kind = 1 ∧ evH e = w_pickS) ∨ (¬ e.kind = 1 ∧ e.kind = 2 ∧ evH e = w_callS) ∨ (¬ e.kind = 1 ∧ ¬ e.kind = 2 ∧ evH e = w_pumpS) := by
  unfold evH
  by_cases h1 : e.kind = 1
  · exact .inl ⟨h1, if_pos h1⟩
  · by_cases h2 : e.kind = 2
    · exact .inr (.inl ⟨h1, h2, by rw [if_neg h1, if_pos h2]⟩)
    · exact .inr (.inr ⟨h1, h2, by rw [if_neg h1, if_neg h2]⟩)
theorem call_ne_pick : ¬ w_callS = w_pickS := by decide
theorem pump_ne_pick : ¬ w_pumpS = w_pickS := by decide
theorem pump_ne_call : ¬ w_pumpS = w_callS := by decide

/-- What a line that was said is read as. -/
theorem line_read {e : Ev} {n : Nat} {l : List Ev} (h1 : 1 ≤ n) (h2 : n ≤ 1000) (hk : ¬ e.kind = 1 → n = 1) (h : lineW (evH e :: evW e n) = some l) : ∃ e', l = List.replicate n e' ∧ okE e' = true := by
  rcases kinds3 e with ⟨k1, hh⟩ | ⟨k1, k2, hh⟩ | ⟨k1, k2, hh⟩
  · have ew : evW e n = itoaS e.thread :: (if 1 < n then [itoaS n] else []) := by unfold evW; rw [if_pos k1]; rfl
    rw [hh, ew] at h
    unfold lineW at h
    rw [if_neg (by simp)] at h
    simp only [List.getD_cons_succ, List.getD_cons_zero] at h
    cases hq : numQ 63 (itoaS e.thread) with
    | none => rw [hq] at h; cases h
    | some t =>
      rw [hq] at h
      simp only at h
      have ht := ((numQ_itoa (by decide) _ _).1 hq).2
      unfold lineT at h
      rw [List.getD_cons_zero, if_pos rfl] at h
      unfold pickQ at h
      by_cases hn : 1 < n
      · rw [if_pos hn] at h
        rw [if_neg (by simp), if_pos (by rfl)] at h
        simp only [List.getD_cons_succ, List.getD_cons_zero] at h
        rw [(numQ_itoa (by decide) (n : Int) n).2 ⟨rfl, h2⟩] at h
        simp only at h
        rw [if_neg (by omega)] at h
        injection h with h
        exact ⟨evPick t, h.symm, okE_pick t ht⟩
      · rw [if_neg hn] at h
        rw [if_pos (by rfl)] at h
        injection h with h
        obtain rfl : n = 1 := by omega
        exact ⟨evPick t, h.symm, okE_pick t ht⟩
  · obtain rfl := hk k1
    have ew : evW e 1 = itoaS e.thread :: callW e.rq := by unfold evW; rw [if_neg k1, if_pos k2]
    have hl : (callW e.rq).length ≠ 0 := by unfold callW; split <;> simp
    rw [hh, ew] at h
    unfold lineW at h
    rw [if_neg (by simp)] at h
    simp only [List.getD_cons_succ, List.getD_cons_zero] at h
    cases hq : numQ 63 (itoaS e.thread) with
    | none => rw [hq] at h; cases h
    | some t =>
      rw [hq] at h
      simp only at h
      have ht := ((numQ_itoa (by decide) _ _).1 hq).2
      unfold lineT at h
      rw [List.getD_cons_zero, if_neg call_ne_pick, if_pos rfl] at h
      unfold callEv at h
      have ed : (w_callS :: itoaS e.thread :: callW e.rq).drop 2 = callW e.rq := rfl
      rw [ed, callW_back] at h
      split at h
      · rename_i hn; split at hn
        · cases h
        · cases hn
      · rename_i r hr
        split at hr
        · cases hr
        · rename_i hs
          injection hr with hr
          subst hr
          injection h with h
          exact ⟨evCall t e.rq, h.symm, okE_call t _ ht hs⟩
  · obtain rfl := hk k1
    have ew : evW e 1 = itoaS e.thread :: itoaS e.inn :: e.outs.map itoaS := by unfold evW; rw [if_neg k1, if_neg k2]
    rw [hh, ew] at h
    unfold lineW at h
    rw [if_neg (by simp)] at h
    simp only [List.getD_cons_succ, List.getD_cons_zero] at h
    cases hq : numQ 63 (itoaS e.thread) with
    | none => rw [hq] at h; cases h
    | some t =>
      rw [hq] at h
      simp only at h
      have ht := ((numQ_itoa (by decide) _ _).1 hq).2
      unfold lineT at h
      rw [List.getD_cons_zero, if_neg pump_ne_pick, if_neg pump_ne_call, if_pos rfl] at h
      unfold pumpQ at h
      split at h
      · cases h
      · have ed : (w_pumpS :: itoaS e.thread :: itoaS e.inn :: e.outs.map itoaS).drop 2 = (e.inn :: e.outs).map itoaS := rfl
        rw [ed] at h
        split at h
        · cases h
        · rename_i ns hns
          unfold pumpN at h
          split at h
          · rename_i hs
            injection h with h
            exact ⟨_, h.symm, okE_pump t _ _ ht hs⟩
          · cases h

theorem okE_thread {e : Ev} (h : okE e = true) : ∃ t : Nat, e.thread = t ∧ t ≤ 63 := by
  unfold okE at h
  simp only [Bool.and_eq_true, decide_eq_true_eq] at h
  exact ⟨e.thread.toNat, by omega, by omega⟩
theorem okE_1 {e : Ev} (h : okE e = true) (k : e.kind = 1) : e = evPick e.thread := by
  unfold okE at h
  simp only [Bool.and_eq_true] at h
  rw [if_pos k] at h
  exact of_decide_eq_true h.2
theorem okE_2 {e : Ev} (h : okE e = true) (k : e.kind = 2) : sayR e.rq ≠ ⟨#[]⟩ ∧ e = evCall e.thread e.rq := by
  unfold okE at h
  simp only [Bool.and_eq_true] at h
  rw [if_neg (by omega), if_pos k] at h
  exact of_decide_eq_true h.2
theorem okE_3 {e : Ev} (h : okE e = true) (k1 : ¬ e.kind = 1) (k2 : ¬ e.kind = 2) : startQ e.inn e.outs = true ∧ e = evPump e.thread e.inn e.outs := by
  unfold okE at h
  simp only [Bool.and_eq_true] at h
  rw [if_neg k1, if_neg k2] at h
  by_cases k3 : e.kind = 3
  · rw [if_pos k3, Bool.and_eq_true] at h
    exact ⟨h.2.1, of_decide_eq_true h.2.2⟩
  · rw [if_neg k3] at h
    exact absurd h.2 (by decide)
theorem handQ_in {h : Int} (e : handQ h = true) : 8 ≤ h ∧ h ≤ 32767 := of_decide_eq_true e
theorem startQ_in {i : Int} {o : List Int} (h : startQ i o = true) : (8 ≤ i ∧ i ≤ 32767) ∧ (1 ≤ o.length ∧ o.length ≤ 8) ∧ ∀ x ∈ o, 8 ≤ x ∧ x ≤ 32767 := by
  unfold startQ at h
  simp only [Bool.and_eq_true, List.all_eq_true] at h
  obtain ⟨⟨⟨h1, h2⟩, h3⟩, _⟩ := h
  exact ⟨handQ_in h1, of_decide_eq_true h2, fun x hx => handQ_in (h3 x hx)⟩
theorem nat_list : ∀ (l : List Int), (∀ x ∈ l, 0 ≤ x) → (l.map Int.toNat).map Int.ofNat = l
  | [], _ => rfl
  | x :: r, h => by
    have h1 := h x (List.mem_cons_self ..)
    rw [List.map_cons, List.map_cons, nat_list r fun y hy => h y (List.mem_cons_of_mem _ hy)]
    congr 1
    exact Int.toNat_of_nonneg h1

/-- An event that may be said is read again. -/
theorem line_back {e : Ev} {n : Nat} (h1 : 1 ≤ n) (h2 : n ≤ 1000) (hk : ¬ e.kind = 1 → n = 1) (h : okE e = true) : lineW (evH e :: evW e n) = some (List.replicate n e) := by
  obtain ⟨t, et, ht⟩ := okE_thread h
  have hq : numQ 63 (itoaS e.thread) = some t := (numQ_itoa (by decide) _ _).2 ⟨et, ht⟩
  rcases kinds3 e with ⟨k1, hh⟩ | ⟨k1, k2, hh⟩ | ⟨k1, k2, hh⟩
  · have ew : evW e n = itoaS e.thread :: (if 1 < n then [itoaS n] else []) := by unfold evW; rw [if_pos k1]; rfl
    have ee := okE_1 h k1
    rw [hh, ew]
    unfold lineW
    rw [if_neg (by simp)]
    simp only [List.getD_cons_succ, List.getD_cons_zero]
    rw [hq]
    simp only
    unfold lineT
    rw [List.getD_cons_zero, if_pos rfl]
    unfold pickQ
    rw [et] at ee
    by_cases hn : 1 < n
    · rw [if_pos hn]
      rw [if_neg (by simp), if_pos (by rfl)]
      simp only [List.getD_cons_succ, List.getD_cons_zero]
      rw [(numQ_itoa (by decide) (n : Int) n).2 ⟨rfl, h2⟩]
      simp only
      rw [if_neg (by omega), ← ee]
    · rw [if_neg hn]
      rw [if_pos (by rfl)]
      obtain rfl : n = 1 := by omega
      rw [← ee]
      rfl
  · obtain rfl := hk k1
    obtain ⟨hs, ee⟩ := okE_2 h k2
    have ew : evW e 1 = itoaS e.thread :: callW e.rq := by unfold evW; rw [if_neg k1, if_pos k2]
    have hl : (callW e.rq).length ≠ 0 := by unfold callW; split <;> simp
    rw [hh, ew]
    unfold lineW
    rw [if_neg (by simp)]
    simp only [List.getD_cons_succ, List.getD_cons_zero]
    rw [hq]
    simp only
    unfold lineT
    rw [List.getD_cons_zero, if_neg call_ne_pick, if_pos rfl]
    unfold callEv
    have ed : (w_callS :: itoaS e.thread :: callW e.rq).drop 2 = callW e.rq := rfl
    rw [ed, callW_back, if_neg hs]
    simp only
    rw [et] at ee
    rw [← ee]
    rfl
  · obtain rfl := hk k1
    obtain ⟨hs, ee⟩ := okE_3 h k1 k2
    obtain ⟨b1, b2, b3⟩ := startQ_in hs
    have ew : evW e 1 = itoaS e.thread :: itoaS e.inn :: e.outs.map itoaS := by unfold evW; rw [if_neg k1, if_neg k2]
    rw [hh, ew]
    unfold lineW
    rw [if_neg (by simp)]
    simp only [List.getD_cons_succ, List.getD_cons_zero]
    rw [hq]
    simp only
    unfold lineT
    rw [List.getD_cons_zero, if_neg pump_ne_pick, if_neg pump_ne_call, if_pos rfl]
    unfold pumpQ
    rw [if_neg (by simp only [List.length_cons, List.length_map]; omega)]
    have ed : (w_pumpS :: itoaS e.thread :: itoaS e.inn :: e.outs.map itoaS).drop 2 = (e.inn :: e.outs).map itoaS := rfl
    have hnn : ∀ x ∈ e.inn :: e.outs, 0 ≤ x ∧ x ≤ 32767 := by
      intro x hx
      rcases List.mem_cons.1 hx with rfl | hx
      · omega
      · have := b3 x hx; omega
    have e2 := nat_list (e.inn :: e.outs) fun x hx => (hnn x hx).1
    have hns : numsQ 65535 ((e.inn :: e.outs).map itoaS) = some ((e.inn :: e.outs).map Int.toNat) := by
      refine (numsQ_itoa (by decide) _ _).2 ⟨e2.symm, ?_⟩
      intro m hm
      obtain ⟨x, hx, rfl⟩ := List.mem_map.1 hm
      have := hnn x hx
      omega
    rw [ed, hns]
    simp only
    rw [List.map_cons, List.map_cons] at e2
    injection e2 with e3 e4
    unfold pumpN
    rw [List.map_cons, List.getD_cons_zero, List.tail_cons, e4]
    have e3' : ((e.inn.toNat : Nat) : Int) = e.inn := e3
    rw [e3', if_pos hs]
    rw [et] at ee
    rw [← ee]
    rfl

/-! Texts. -/
def linesF : Nat → List Ev → List ByteArray
  | 0, _ => []
  | _ + 1, [] => []
  | f + 1, e :: r => evS e (grpQ (e :: r)) :: linesF f ((e :: r).drop (grpQ (e :: r)))
def linesG (l : List Ev) : List ByteArray := linesF l.length l
theorem linesF_more : ∀ (f g : Nat) (l : List Ev), l.length ≤ f → l.length ≤ g → linesF f l = linesF g l
  | f, g, [], _, _ => by cases f <;> cases g <;> rfl
  | 0, _, _ :: _, h, _ => by simp at h
  | _ + 1, 0, _ :: _, _, h => by simp at h
  | f + 1, g + 1, e :: r, hf, hg => by
    have := grpQ_drop_lt e r
    simp only [List.length_cons] at hf hg
    rw [linesF, linesF, linesF_more f g _ (by omega) (by omega)]
theorem linesG_cons (e : Ev) (r : List Ev) : linesG (e :: r) = evS e (grpQ (e :: r)) :: linesG ((e :: r).drop (grpQ (e :: r))) := by
  show linesF (r.length + 1) (e :: r) = _
  rw [linesF, linesG, linesF_more _ _ _ (grpQ_drop_lt e r) (Nat.le_refl _)]
theorem textF_lines : ∀ (f : Nat) (l : List Ev), (textF f l).data.toList = ((linesF f l).map (fun x => x.data.toList ++ [10])).flatten
  | 0, _ => rfl
  | _ + 1, [] => rfl
  | f + 1, e :: r => by
    rw [textF, linesF, List.map_cons, List.flatten_cons, ← textF_lines f, bytes_app, bytes_app]
theorem linesF_ten : ∀ (f : Nat) (l : List Ev), ∀ x ∈ linesF f l, (10 : UInt8) ∉ x.data.toList
  | 0, _, x, h => by cases h
  | _ + 1, [], x, h => by cases h
  | f + 1, e :: r, x, h => by
    rw [linesF] at h
    rcases List.mem_cons.1 h with rfl | h
    · exact evS_ten e _
    · exact linesF_ten f _ x h
theorem textG_words (l : List Ev) : wordsC 10 (textG l) = linesG l ++ [⟨#[]⟩] := by
  have h1 := textF_lines l.length l
  have h2 : (textG l).data.toList = Lib.join ((linesG l).map (·.data.toList) ++ [[]]) [10] := by
    rw [← join_flat, List.map_map, List.append_nil]
    exact h1
  have h3 : ∀ y ∈ (linesG l).map (·.data.toList) ++ [[]], (10 : UInt8) ∉ y := by
    intro y hy
    rcases List.mem_append.1 hy with hy | hy
    · obtain ⟨x, hx, rfl⟩ := List.mem_map.1 hy
      exact linesF_ten _ _ x hx
    · rw [List.mem_singleton] at hy; subst hy; exact List.not_mem_nil
  have h4 : ((linesG l).map (fun x : ByteArray => x.data.toList) ++ [[]]).map (fun y : List UInt8 => (⟨y.toArray⟩ : ByteArray)) = linesG l ++ [⟨#[]⟩] := by
    rw [List.map_append, List.map_map, List.map_singleton]
    have : ((fun y : List UInt8 => (⟨y.toArray⟩ : ByteArray)) ∘ fun x : ByteArray => x.data.toList) = id := by funext x; simp
    rw [this, List.map_id]
  rw [← h4]
  generalize (linesG l).map (·.data.toList) ++ [[]] = P at *
  cases P with
  | nil =>
    have := congrArg List.length h4
    simp at this
  | cons x r =>
    rw [Lib.join_cons] at h2
    have e : textG l = ⟨(x ++ Lib.joinTail [10] r).toArray⟩ := by rw [← h2]
    rw [e]
    exact wordsC_join 10 x r h3

theorem readL_pre : ∀ (ls : List ByteArray) (i : Nat) (out x : List Ev), readL i ls out = .right x → ∃ y, x = out ++ y
  | [], i, out, x, h => by
    rw [readL] at h
    injection h with h
    exact ⟨[], by rw [h, List.append_nil]⟩
  | s :: r, i, out, x, h => by
    rw [readL] at h
    split at h
    · exact readL_pre r _ out x h
    · split at h
      · cases h
      · obtain ⟨y, hy⟩ := readL_pre r _ _ x h
        exact ⟨(lineQ s).getD [] ++ y, by rw [hy, List.append_assoc]⟩
theorem lineC_none {s : ByteArray} {m : Nat} (h : lineC s m = none) : ∃ l, lineQ s = some l ∧ s.size ≤ 120 ∧ m + l.length ≤ 16384 := by
  unfold lineC at h
  split at h
  · cases h
  · rename_i l hl
    split at h
    · cases h
    · exact ⟨l, hl, by omega, by omega⟩
theorem lineC_of {s : ByteArray} {m : Nat} {l : List Ev} (hl : lineQ s = some l) (h1 : s.size ≤ 120) (h2 : m + l.length ≤ 16384) : lineC s m = none := by
  unfold lineC
  rw [hl]
  simp only
  rw [if_neg (by omega)]
theorem grp_kind {e : Ev} (r : List Ev) : ¬ e.kind = 1 → grpQ (e :: r) = 1 := grpQ_one r
theorem skip_nil : skipQ ⟨#[]⟩ = true := by decide
theorem readL_end (i : Nat) (out : List Ev) : readL i [⟨#[]⟩] out = .right out := by
  rw [readL, if_pos skip_nil, readL]
/-- A text that was said is read as those events just if each may be said, and there are not too many. -/
theorem readL_text (N : Nat) : ∀ (l : List Ev), l.length ≤ N → ∀ (i : Nat) (out : List Ev), out.length ≤ 16384 → (readL i (linesG l ++ [⟨#[]⟩]) out = .right (out ++ l) ↔ okG l = true ∧ out.length + l.length ≤ 16384) := by
  induction N with
  | zero =>
    intro l hl i out ho
    obtain rfl := List.eq_nil_of_length_eq_zero (Nat.le_zero.1 hl)
    rw [show linesG [] = [] from rfl, List.nil_append, readL_end, okG_nil, List.append_nil]
    exact ⟨fun _ => ⟨rfl, ho⟩, fun _ => rfl⟩
  | succ N ih =>
    intro l hl i out ho
    cases l with
    | nil =>
      rw [show linesG [] = [] from rfl, List.nil_append, readL_end, okG_nil, List.append_nil]
      exact ⟨fun _ => ⟨rfl, ho⟩, fun _ => rfl⟩
    | cons e r =>
      have hg := grpQ_in e r
      have hgk := grp_kind (e := e) r
      have htk := grpQ_take e r
      have hdl := grpQ_drop_lt e r
      have hld : ((e :: r).drop (grpQ (e :: r))).length ≤ N := by simp only [List.length_cons] at hl; omega
      have hsum : (e :: r).length = grpQ (e :: r) + ((e :: r).drop (grpQ (e :: r))).length := by rw [List.length_drop, List.length_cons]; omega
      have hsplit : e :: r = List.replicate (grpQ (e :: r)) e ++ (e :: r).drop (grpQ (e :: r)) := by
        rw [← htk]; exact (List.take_append_drop _ _).symm
      rw [linesG_cons, okG_cons, List.cons_append, readL, evS_skip]
      rw [if_neg (by decide)]
      generalize hG : grpQ (e :: r) = g at *
      generalize hD : (e :: r).drop g = d at *
      have hlq : lineQ (evS e g) = lineW (evH e :: evW e g) := by unfold lineQ; rw [evS_words]
      constructor
      · intro h
        split at h
        · cases h
        · rename_i hc
          obtain ⟨l1, e1, e2, e3⟩ := lineC_none hc
          rw [e1] at h
          simp only [Option.getD_some] at h
          obtain ⟨e', el, eok⟩ := line_read hg.1 hg.2.2 hgk (hlq ▸ e1)
          have hl1 : l1.length = g := by rw [el, List.length_replicate]
          obtain ⟨y, hy⟩ := readL_pre _ _ _ _ h
          rw [List.append_assoc, List.append_cancel_left_eq] at hy
          rw [hsplit] at hy
          have hy2 := List.append_inj hy (by rw [List.length_replicate, hl1])
          have hee : e' = e := by
            have h5 := hy2.1
            rw [el] at h5
            have h6 : g ≠ 0 := by omega
            exact ((List.replicate_inj.1 h5).2.resolve_left h6).symm
          subst hee
          have h' : readL (i + 1) (linesG d ++ [⟨#[]⟩]) (out ++ l1) = .right ((out ++ l1) ++ d) := by
            rw [h, List.append_assoc]
            congr 2
            rw [hsplit, el]
          have := (ih d hld (i + 1) (out ++ l1) (by rw [List.length_append]; omega)).1 h'
          rw [List.length_append, hl1] at this
          refine ⟨?_, by omega⟩
          rw [eok, this.1, decide_eq_true e2]
          rfl
      · rintro ⟨hok, hle⟩
        simp only [Bool.and_eq_true, decide_eq_true_eq] at hok
        obtain ⟨⟨o1, o2⟩, o3⟩ := hok
        have e1 : lineQ (evS e g) = some (List.replicate g e) := hlq.trans (line_back hg.1 hg.2.2 hgk o1)
        rw [lineC_of e1 o2 (by rw [List.length_replicate]; omega)]
        simp only
        rw [e1]
        simp only [Option.getD_some]
        rw [(ih d hld (i + 1) (out ++ List.replicate g e) (by rw [List.length_append, List.length_replicate]; omega)).2 ⟨o3, by rw [List.length_append, List.length_replicate]; omega⟩]
        rw [List.append_assoc]
        congr 2
        exact hsplit.symm
theorem readQ_text {l : List Ev} (h : (textG l).size ≤ 65536) : readQ (textG l) = .right l ↔ okG l = true ∧ l.length ≤ 16384 := by
  unfold readQ
  rw [if_neg (by omega), textG_words]
  have := readL_text l.length l (Nat.le_refl _) 0 [] (by decide)
  rw [List.nil_append, List.length_nil, Nat.zero_add] at this
  exact this
/-- Both ways of judging agree. -/
theorem text_same (l : List Ev) : textP l = textD l := by
  unfold textP textD
  by_cases h : (textG l).size ≤ 65536
  · have h2 := readQ_text h
    by_cases h3 : okG l = true ∧ l.length ≤ 16384
    · rw [if_pos ⟨h, h2.2 h3⟩, if_pos ⟨h3.1, h, h3.2⟩]
    · rw [if_neg (fun e => h3 (h2.1 e.2)), if_neg (fun e => h3 ⟨e.1, e.2.2⟩)]
  · rw [if_neg (fun e => h e.1), if_neg (fun e => h e.2.1)]

end Go.Proofs.YtalkllfgedacoaaGreatDoor

namespace Go.Proofs.YtalkllfgedacoaaGreatDoor
open Go.RowKit Go.Sort

/-- An event, as it lies. -/
structure EvR where
  (kind thread : Int)
  (q : Reqr)
  (inn : Int)
  (OA : Option Addr)
  (on oc : Nat)
def EvR.cells (a : EvR) : List Value := [.int .i64 a.kind, .int .i64 a.thread, .int .i64 a.q.kind, .int .i64 a.q.arg, .int .i64 a.q.value, .bool a.q.dflt, .slice a.q.A a.q.n a.q.c, .int .i64 a.inn, .slice a.OA a.on a.oc]
def EvR.none : EvR := ⟨0, 0, ⟨0, 0, 0, false, .none, 0, 0⟩, 0, .none, 0, 0⟩
abbrev evV (a : EvR) : Value := .agg #[.int .i64 a.kind, .int .i64 a.thread, .int .i64 a.q.kind, .int .i64 a.q.arg, .int .i64 a.q.value, .bool a.q.dflt, .slice a.q.A a.q.n a.q.c, .int .i64 a.inn, .slice a.OA a.on a.oc]
instance : Cellful EvR where
  cells := EvR.cells
  s := 9
  dflt := EvR.none
  len := fun _ => rfl
  one := fun a u hu => by
    simp only [EvR.cells, List.mem_cons, List.not_mem_nil, or_false] at hu
    rcases hu with rfl | rfl | rfl | rfl | rfl | rfl | rfl | rfl | rfl <;> rfl
theorem ev_cells {w : World} {b o : Nat} {l : List EvR} (hc : ∀ k v, (rows l)[k]? = some v → w.cell? ⟨b, o + k, none⟩ = some v) {k : Nat} (hk : k < l.length) {x : EvR} (hx : l.getD k EvR.none = x) :
    w.cell? ⟨b, o + k * 9, none⟩ = some (.int .i64 x.kind) ∧ w.cell? ⟨b, o + k * 9 + 1, none⟩ = some (.int .i64 x.thread) ∧ w.cell? ⟨b, o + k * 9 + 2, none⟩ = some (.int .i64 x.q.kind) ∧ w.cell? ⟨b, o + k * 9 + 3, none⟩ = some (.int .i64 x.q.arg) ∧ w.cell? ⟨b, o + k * 9 + 4, none⟩ = some (.int .i64 x.q.value) ∧ w.cell? ⟨b, o + k * 9 + 5, none⟩ = some (.bool x.q.dflt) ∧ w.cell? ⟨b, o + k * 9 + 6, none⟩ = some (.slice x.q.A x.q.n x.q.c) ∧ w.cell? ⟨b, o + k * 9 + 7, none⟩ = some (.int .i64 x.inn) ∧ w.cell? ⟨b, o + k * 9 + 8, none⟩ = some (.slice x.OA x.on x.oc) := by
  have h := rec_cell hc hk hx
  exact ⟨h 0 _ rfl, h 1 _ rfl, h 2 _ rfl, h 3 _ rfl, h 4 _ rfl, h 5 _ rfl, h 6 _ rfl, h 7 _ rfl, h 8 _ rfl⟩

/-- Which event it is. -/
structure EvAt (w : World) (a : EvR) (x : Ev) : Prop where
  kind : a.kind = x.kind
  thread : a.thread = x.thread
  qk : a.q.kind = x.rq.kind
  qa : a.q.arg = x.rq.arg
  qv : a.q.value = x.rq.value
  qd : a.q.dflt = x.rq.dflt
  req : ReqAt w a.q x.rq.cs
  inn : a.inn = x.inn
  len : x.outs.length = a.on
  rd : Rd w a.OA (ints x.outs)
  nil : a.OA = .none → a.on = 0 ∧ a.oc = 0
theorem EvAt.below {w w' : World} {a : EvR} {x : Ev} (h : EvAt w a x) (hb : Below w.heap.size w w') : EvAt w' a x :=
  ⟨h.kind, h.thread, h.qk, h.qa, h.qv, h.qd, h.req.below hb, h.inn, h.len, h.rd.below hb, h.nil⟩
theorem EvAt.none (w : World) (k t : Int) : EvAt w ⟨k, t, ⟨0, 0, 0, false, .none, 0, 0⟩, 0, .none, 0, 0⟩ ⟨k, t, rqNone, 0, []⟩ :=
  ⟨rfl, rfl, rfl, rfl, rfl, rfl, ⟨rfl, .inl rfl⟩, rfl, rfl, .inl rfl, fun _ => ⟨rfl, rfl⟩⟩
/-- An event's values are 64 bits, and its rows are no longer than this. -/
structure EvIn (x : Ev) : Prop where
  kind : In64 x.kind
  thread : In64 x.thread
  arg : In64 x.rq.arg
  value : In64 x.rq.value
  cs : ∀ k ∈ x.rq.cs, In64 k.handle ∧ In64 k.value
  ncs : x.rq.cs.length ≤ 1048570
  inn : In64 x.inn
  outs : ∀ n ∈ x.outs, In64 n
  nouts : x.outs.length ≤ 1048576

def EvsAt (w : World) : List EvR → List Ev → Prop
  | [], [] => True
  | a :: r, x :: s => EvAt w a x ∧ EvsAt w r s
  | _, _ => False
theorem EvsAt.len {w : World} : ∀ {a : List EvR} {x : List Ev}, EvsAt w a x → a.length = x.length
  | [], [], _ => rfl
  | _ :: _, _ :: _, h => by rw [List.length_cons, List.length_cons, EvsAt.len h.2]
  | [], _ :: _, h => h.elim
  | _ :: _, [], h => h.elim
theorem EvsAt.below {w w' : World} (hb : Below w.heap.size w w') : ∀ {a : List EvR} {x : List Ev}, EvsAt w a x → EvsAt w' a x
  | [], [], _ => trivial
  | _ :: _, _ :: _, h => ⟨h.1.below hb, EvsAt.below hb h.2⟩
  | [], _ :: _, h => h.elim
  | _ :: _, [], h => h.elim
def evNone : Ev := ⟨0, 0, rqNone, 0, []⟩
theorem EvsAt.at {w : World} : ∀ {a : List EvR} {x : List Ev} {k : Nat}, EvsAt w a x → k < a.length → EvAt w (a.getD k EvR.none) (x.getD k evNone)
  | a :: _, x :: _, 0, h, _ => h.1
  | _ :: r, _ :: s, k + 1, h, hk => by
    rw [List.getD_cons_succ, List.getD_cons_succ]
    exact EvsAt.at h.2 (Nat.lt_of_succ_lt_succ hk)
  | [], [], _, _, hk => absurd hk (Nat.not_lt_zero _)
  | [], _ :: _, _, h, _ => h.elim
  | _ :: _, [], _, h, _ => h.elim
theorem EvsAt.app {w : World} : ∀ {a : List EvR} {x : List Ev} {b : List EvR} {y : List Ev}, EvsAt w a x → EvsAt w b y → EvsAt w (a ++ b) (x ++ y)
  | [], [], _, _, _, h => h
  | _ :: _, _ :: _, _, _, h, h2 => ⟨h.1, EvsAt.app h.2 h2⟩
  | [], _ :: _, _, _, h, _ => h.elim
  | _ :: _, [], _, _, h, _ => h.elim
theorem EvsAt.rep {w : World} {a : EvR} {x : Ev} (h : EvAt w a x) : ∀ n, EvsAt w (List.replicate n a) (List.replicate n x)
  | 0 => trivial
  | n + 1 => ⟨h, EvsAt.rep h n⟩
theorem EvsAt.drop {w : World} : ∀ {a : List EvR} {x : List Ev} (k : Nat), EvsAt w a x → EvsAt w (a.drop k) (x.drop k)
  | _, _, 0, h => h
  | [], [], _ + 1, _ => trivial
  | _ :: _, _ :: _, k + 1, h => EvsAt.drop k h.2
  | [], _ :: _, _ + 1, h => h.elim
  | _ :: _, [], _ + 1, h => h.elim
theorem EvsAt.one {w : World} {a : EvR} {x : Ev} (h : EvAt w a x) : EvsAt w [a] [x] := ⟨h, trivial⟩

/-- Events in a slice. -/
structure EvsIn (w : World) (A : Option Addr) (n : Nat) (x : List Ev) : Prop where
  ex : ∃ l : List EvR, l.length = n ∧ Rd w A (rows l) ∧ EvsAt w l x
theorem EvsIn.below {w w' : World} {A : Option Addr} {n : Nat} {x : List Ev} (h : EvsIn w A n x) (hb : Below w.heap.size w w') : EvsIn w' A n x :=
  let ⟨l, h1, h2, h3⟩ := h.ex
  ⟨l, h1, h2.below hb, h3.below hb⟩
theorem EvsIn.len {w : World} {A : Option Addr} {n : Nat} {x : List Ev} (h : EvsIn w A n x) : x.length = n :=
  let ⟨_, h1, _, h3⟩ := h.ex
  h3.len.symm.trans h1
theorem EvsIn.nil (w : World) (A : Option Addr) : EvsIn w A 0 [] := ⟨[], rfl, .inl rfl, trivial⟩
theorem EvIn.call {x : Ev} {a : EvR} {w : World} (h : EvIn x) (ha : EvAt w a x) : CallIn a.q x.rq.cs := ⟨by rw [ha.qa]; exact h.arg, by rw [ha.qv]; exact h.value, h.cs⟩

theorem Rd.grown {w w' : World} {row : Option Nat} {A : Option Addr} {xs : List Value} (h : Rd w A xs) (hg : w.grownBy w' row) (hF : xs ≠ [] → ∀ b o, A = some ⟨b, o, none⟩ → some b ≠ row) : Rd w' A xs := by
  rcases h with h | ⟨b, o, e, hb, hc⟩
  · exact .inl h
  · by_cases hx : xs = []
    · exact .inl hx
    · exact .inr ⟨b, o, e, Nat.lt_of_lt_of_le hb hg.size, fun k v hk => hg.cell (hc k v hk) (hF hx b o e)⟩

/-- Which event it is, and where its rows lie. -/
structure EvF (w : World) (F : Nat → Prop) (a : EvR) (x : Ev) : Prop where
  at_ : EvAt w a x
  cs : x.rq.cs ≠ [] → ∀ b o, a.q.A = some ⟨b, o, none⟩ → F b
  outs : x.outs ≠ [] → ∀ b o, a.OA = some ⟨b, o, none⟩ → F b
theorem rd_lt {w : World} {b o : Nat} {xs : List Value} (h : Rd w (some ⟨b, o, none⟩) xs) (hx : xs ≠ []) : b < w.heap.size := by
  rcases h with h | ⟨b', o', e, hb, _⟩
  · exact absurd h hx
  · injection e with e
    injection e with e1 e2
    subst e1
    exact hb
theorem rows_ne {α : Type} [C : Cellful α] (hs : 0 < C.s) {l : List α} (h : l ≠ []) : rows l ≠ [] := by
  intro e
  have := rows_length l
  rw [e] at this
  have hl := List.length_pos_iff.2 h
  have := Nat.mul_pos hl hs
  simp at *
  omega
theorem EvF.mono {w : World} {F G : Nat → Prop} {a : EvR} {x : Ev} (h : EvF w F a x) (hFG : ∀ b, b < w.heap.size → F b → G b) : EvF w G a x :=
  ⟨h.at_, fun hc b o e => hFG b (by have hr := h.at_.req.rd; rw [e] at hr; exact rd_lt hr (rows_ne (by decide) hc)) (h.cs hc b o e),
   fun hc b o e => hFG b (by have hr := h.at_.rd; rw [e] at hr; exact rd_lt hr (by unfold ints; simpa using hc)) (h.outs hc b o e)⟩
theorem EvF.below {w w' : World} {F : Nat → Prop} {a : EvR} {x : Ev} (h : EvF w F a x) (hb : Below w.heap.size w w') : EvF w' F a x := ⟨h.at_.below hb, h.cs, h.outs⟩
theorem EvF.grown {w w' : World} {row : Option Nat} {F : Nat → Prop} {a : EvR} {x : Ev} (h : EvF w F a x) (hg : w.grownBy w' row) (hF : ∀ b, F b → some b ≠ row) : EvF w' F a x := by
  refine ⟨⟨h.at_.kind, h.at_.thread, h.at_.qk, h.at_.qa, h.at_.qv, h.at_.qd, ⟨h.at_.req.len, h.at_.req.rd.grown hg fun hx b o e => hF b (h.cs (fun e2 => hx (by rw [e2]; rfl)) b o e)⟩, h.at_.inn, h.at_.len, h.at_.rd.grown hg fun hx b o e => hF b (h.outs (fun e2 => hx (by rw [e2]; rfl)) b o e), h.at_.nil⟩, h.cs, h.outs⟩
def EvsF (w : World) (F : Nat → Prop) : List EvR → List Ev → Prop
  | [], [] => True
  | a :: r, x :: s => EvF w F a x ∧ EvsF w F r s
  | _, _ => False
theorem EvsF.at_ {w : World} {F : Nat → Prop} : ∀ {a : List EvR} {x : List Ev}, EvsF w F a x → EvsAt w a x
  | [], [], _ => trivial
  | _ :: _, _ :: _, h => ⟨h.1.at_, EvsF.at_ h.2⟩
  | [], _ :: _, h => h.elim
  | _ :: _, [], h => h.elim
theorem EvsF.map {w w' : World} {F G : Nat → Prop} (f : ∀ {a x}, EvF w F a x → EvF w' G a x) : ∀ {a : List EvR} {x : List Ev}, EvsF w F a x → EvsF w' G a x
  | [], [], _ => trivial
  | _ :: _, _ :: _, h => ⟨f h.1, EvsF.map f h.2⟩
  | [], _ :: _, h => h.elim
  | _ :: _, [], h => h.elim
theorem EvsF.app {w : World} {F : Nat → Prop} : ∀ {a : List EvR} {x : List Ev} {b : List EvR} {y : List Ev}, EvsF w F a x → EvsF w F b y → EvsF w F (a ++ b) (x ++ y)
  | [], [], _, _, _, h => h
  | _ :: _, _ :: _, _, _, h, h2 => ⟨h.1, EvsF.app h.2 h2⟩
  | [], _ :: _, _, _, h, _ => h.elim
  | _ :: _, [], _, _, h, _ => h.elim
theorem EvsF.rep {w : World} {F : Nat → Prop} {a : EvR} {x : Ev} (h : EvF w F a x) : ∀ n, EvsF w F (List.replicate n a) (List.replicate n x)
  | 0 => trivial
  | n + 1 => ⟨h, EvsF.rep h n⟩
/-- Events in a slice, and where their rows lie. -/
def EvsNew (w : World) (F : Nat → Prop) (A : Option Addr) (n : Nat) (x : List Ev) : Prop := ∃ l : List EvR, l.length = n ∧ Rd w A (rows l) ∧ EvsF w F l x
theorem EvsNew.evs {w : World} {F : Nat → Prop} {A : Option Addr} {n : Nat} {x : List Ev} (h : EvsNew w F A n x) : EvsIn w A n x :=
  let ⟨l, h1, h2, h3⟩ := h
  ⟨l, h1, h2, h3.at_⟩

end Go.Proofs.YtalkllfgedacoaaGreatDoor

/- Plain: two texts as one; events that were read can be said. -/
import Derived.Test.YtalkllfgedacoaaGreatDoorD5
namespace Go.Proofs.YtalkllfgedacoaaGreatDoor
open Go.RowKit Go.Sort

/-! Words of a text, and the text again. -/
theorem words_inv (s : ByteArray) (c : UInt8) : ∃ x r, s.data.toList = x ++ Lib.joinTail [c] r ∧ (∀ y ∈ x :: r, c ∉ y) ∧ wordsC c s = (x :: r).map (fun y => (⟨y.toArray⟩ : ByteArray)) := by
  obtain ⟨h1, h2, h3, h4⟩ := sp_inv s c s.size (Nat.le_refl _)
  have hll : s.data.toList.length = s.size := by rw [Array.length_toList]; rfl
  have hlast : (s.extract (splitTo s c s.size).2 s.size).data.toList = s.data.toList.drop (splitTo s c s.size).2 := by
    rw [ext_list, ← hll, List.take_length]
  rw [← hll, List.take_length, hll] at h4
  have hs : s.data.toList = Lib.join ((splitTo s c s.size).1.map (fun p => p.data.toList) ++ [s.data.toList.drop (splitTo s c s.size).2]) [c] := by
    rw [← join_flat, List.map_map]
    have e : ((splitTo s c s.size).1.map ((fun x : List UInt8 => x ++ [c]) ∘ fun p => p.data.toList)) = (splitTo s c s.size).1.map (fun p => p.data.toList ++ [c]) := rfl
    rw [e, h2, List.take_append_drop]
  have hfree : ∀ y ∈ (splitTo s c s.size).1.map (fun p => p.data.toList) ++ [s.data.toList.drop (splitTo s c s.size).2], c ∉ y := by
    intro y hy
    rw [List.mem_append, List.mem_map, List.mem_singleton] at hy
    rcases hy with ⟨p, hp, rfl⟩ | rfl
    · exact h3 p hp
    · exact h4
  have hne : (splitTo s c s.size).1.map (fun p => p.data.toList) ++ [s.data.toList.drop (splitTo s c s.size).2] ≠ [] := by simp
  generalize (splitTo s c s.size).1.map (fun p => p.data.toList) ++ [s.data.toList.drop (splitTo s c s.size).2] = P at *
  cases P with
  | nil => exact absurd rfl hne
  | cons x r =>
    rw [Lib.join_cons] at hs
    have e : s = ⟨(x ++ Lib.joinTail [c] r).toArray⟩ := by
      rw [← hs]
    refine ⟨x, r, hs, hfree, ?_⟩
    conv => lhs; rw [e]
    exact wordsC_join c x r hfree
theorem joinTail_appC (c : UInt8) (a b : List (List UInt8)) : Lib.joinTail [c] (a ++ b) = Lib.joinTail [c] a ++ Lib.joinTail [c] b := by
  induction a with
  | nil => simp [Lib.joinTail]
  | cons x r ih => simp [Lib.joinTail] at ih ⊢
theorem words_app (c : UInt8) (a b : ByteArray) : wordsC c (a ++ ⟨#[c]⟩ ++ b) = wordsC c a ++ wordsC c b := by
  obtain ⟨x1, r1, h1, f1, e1⟩ := words_inv a c
  obtain ⟨x2, r2, h2, f2, e2⟩ := words_inv b c
  have e : a ++ ⟨#[c]⟩ ++ b = ⟨(x1 ++ Lib.joinTail [c] (r1 ++ x2 :: r2)).toArray⟩ := by
    apply bytes_eq2
    rw [bytes_app, bytes_app, h1, h2, joinTail_appC]
    simp [Lib.joinTail]
  rw [e, wordsC_join c x1 (r1 ++ x2 :: r2), e1, e2]
  · simp
  · intro y hy
    rw [← List.cons_append, List.mem_append] at hy
    rcases hy with hy | hy
    · exact f1 y hy
    · exact f2 y hy
theorem words_joined {c : UInt8} {s x : ByteArray} {r : List ByteArray} (h : wordsC c s = x :: r) : s.data.toList = x.data.toList ++ Lib.joinTail [c] (r.map (·.data.toList)) := by
  obtain ⟨y, t, h1, _, h3⟩ := words_inv s c
  rw [h3, List.map_cons] at h
  injection h with h4 h5
  rw [h1, ← h4, ← h5, List.map_map]
  have : ((fun x : ByteArray => x.data.toList) ∘ fun y : List UInt8 => (⟨y.toArray⟩ : ByteArray)) = id := by funext x; simp
  rw [this, List.map_id]
def lens1 (l : List ByteArray) : Nat := (l.map (fun x => x.size + 1)).sum
theorem lens1_cons (x : ByteArray) (l : List ByteArray) : lens1 (x :: l) = x.size + 1 + lens1 l := by simp [lens1]
theorem lens1_nil : lens1 [] = 0 := rfl
theorem lens1_app (a b : List ByteArray) : lens1 (a ++ b) = lens1 a + lens1 b := by simp [lens1]
theorem joinTail_lens (c : UInt8) : ∀ l : List ByteArray, (Lib.joinTail [c] (l.map (·.data.toList))).length = lens1 l
  | [] => by simp [Lib.joinTail, lens1]
  | x :: r => by
    have h := joinTail_lens c r
    have e : x.data.toList.length = x.size := by rw [Array.length_toList]; rfl
    have e2 : Lib.joinTail [c] ((x :: r).map (·.data.toList)) = c :: (x.data.toList ++ Lib.joinTail [c] (r.map (·.data.toList))) := by simp [Lib.joinTail]
    rw [e2, List.length_cons, List.length_append, h, e, lens1_cons]
    omega
theorem size_list (s : ByteArray) : s.size = s.data.toList.length := by rw [Array.length_toList]; rfl
theorem words_lens (c : UInt8) (s : ByteArray) : lens1 (wordsC c s) = s.size + 1 := by
  cases h : wordsC c s with
  | nil =>
    have := wordsC_len c s
    rw [h] at this
    cases this
  | cons x r =>
    rw [size_list s, words_joined h, List.length_append, joinTail_lens, lens1_cons, ← size_list]
    omega
theorem sayL_lens (nm : ByteArray) (l : List ByteArray) : (sayL nm l).size + 1 = lens1 (nm :: l) := by
  have e : (sayL nm l).data.toList = nm.data.toList ++ Lib.joinTail [32] (l.map (·.data.toList)) := by unfold sayL; simp
  rw [size_list, e, List.length_append, joinTail_lens, lens1_cons, ← size_list]
  omega

/-! Reading on. -/
theorem readL_append : ∀ (a b : List ByteArray) (i : Nat) (out : List Ev), readL i (a ++ b) out = match readL i a out with
    | .wrong l c => .wrong l c
    | .right x => readL (i + a.length) b x
  | [], b, i, out => by rw [List.nil_append, readL]; rfl
  | s :: a, b, i, out => by
    have e : i + (s :: a).length = i + 1 + a.length := by rw [List.length_cons]; omega
    rw [List.cons_append, readL, readL, e]
    split
    · exact readL_append a b (i + 1) out
    · split
      · rfl
      · exact readL_append a b (i + 1) _
theorem readL_shift : ∀ (ls : List ByteArray) (i j : Nat) (o x y : List Ev), readL i ls o = .right (o ++ y) → x.length + y.length ≤ 16384 → readL j ls x = .right (x ++ y)
  | [], i, j, o, x, y, h, _ => by
    rw [readL] at h
    injection h with h
    have : y = [] := by simpa using h
    rw [readL, this, List.append_nil]
  | s :: r, i, j, o, x, y, h, hl => by
    rw [readL] at h
    rw [readL]
    split at h
    · rename_i hs
      rw [if_pos hs]
      exact readL_shift r (i + 1) (j + 1) o x y h hl
    · rename_i hs
      rw [if_neg hs]
      split at h
      · cases h
      · rename_i hc
        obtain ⟨l, e1, e2, e3⟩ := lineC_none hc
        rw [e1] at h
        simp only [Option.getD_some] at h
        obtain ⟨y', hy⟩ := readL_pre _ _ _ _ h
        rw [List.append_assoc, List.append_cancel_left_eq] at hy
        subst hy
        rw [List.length_append] at hl
        rw [lineC_of e1 e2 (by omega)]
        simp only
        rw [e1]
        simp only [Option.getD_some]
        have := readL_shift r (i + 1) (j + 1) (o ++ l) (x ++ l) y' (by rw [h, List.append_assoc]) (by rw [List.length_append]; omega)
        rw [this, List.append_assoc]
theorem lineC_more {s : ByteArray} {m m' c : Nat} (h : lineC s m = some c) (hm : m ≤ m') : ∃ c', lineC s m' = some c' := by
  unfold lineC at h ⊢
  split at h
  · exact ⟨_, rfl⟩
  · split at h
    · rename_i h2
      exact ⟨4, by rw [if_pos (by omega)]⟩
    · cases h
theorem readL_bad : ∀ (ls : List ByteArray) (i j : Nat) (o x : List Ev) (a c : Nat), readL i ls o = .wrong a c → o.length ≤ x.length → ∃ a' c', readL j ls x = .wrong a' c'
  | [], i, j, o, x, a, c, h, _ => by rw [readL] at h; cases h
  | s :: r, i, j, o, x, a, c, h, hl => by
    rw [readL] at h
    rw [readL]
    split at h
    · rename_i hs
      rw [if_pos hs]
      exact readL_bad r (i + 1) (j + 1) o x a c h hl
    · rename_i hs
      rw [if_neg hs]
      split at h
      · rename_i c0 hc
        obtain ⟨c', e⟩ := lineC_more hc hl
        rw [e]
        exact ⟨_, _, rfl⟩
      · cases hx : lineC s x.length with
        | some c' => exact ⟨_, _, rfl⟩
        | none =>
          simp only
          exact readL_bad r (i + 1) (j + 1) _ _ a c h (by rw [List.length_append, List.length_append]; omega)
theorem readL_len : ∀ (ls : List ByteArray) (i : Nat) (o x : List Ev), readL i ls o = .right x → o.length ≤ 16384 → x.length ≤ 16384
  | [], i, o, x, h, ho => by rw [readL] at h; injection h with h; rw [← h]; exact ho
  | s :: r, i, o, x, h, ho => by
    rw [readL] at h
    split at h
    · exact readL_len r _ o x h ho
    · split at h
      · cases h
      · rename_i hc
        obtain ⟨l, e1, e2, e3⟩ := lineC_none hc
        rw [e1] at h
        exact readL_len r _ _ x h (by rw [List.length_append]; exact e3)
theorem readQ_len {s : ByteArray} {x : List Ev} (h : readQ s = .right x) : x.length ≤ 16384 := by
  unfold readQ at h
  split at h
  · cases h
  · exact readL_len _ _ _ _ h (by decide)

def nlS : ByteArray := ⟨#[10]⟩
theorem nl_size (a b : ByteArray) : (a ++ ⟨#[10]⟩ ++ b).size = a.size + 1 + b.size := by
  rw [ByteArray.size_append, ByteArray.size_append]; rfl
theorem together_right {a b : ByteArray} {x y : List Ev} (h : a.size + b.size ≤ 60000) (ha : readQ a = .right x) (hb : readQ b = .right y) (hl : x.length + y.length ≤ 16384) : readQ (a ++ ⟨#[10]⟩ ++ b) = .right (x ++ y) := by
  unfold readQ at ha hb ⊢
  have hz := nl_size a b
  rw [if_neg (by omega)] at ha hb ⊢
  rw [words_app, readL_append, ha]
  simp only
  exact readL_shift _ 0 _ [] x y (by rw [List.nil_append]; exact hb) hl
theorem together_wrong {a b : ByteArray} (h : a.size + b.size ≤ 60000) (hw : (∃ l c, readQ a = .wrong l c) ∨ (∃ l c, readQ b = .wrong l c)) : ∃ l c, readQ (a ++ ⟨#[10]⟩ ++ b) = .wrong l c := by
  unfold readQ at hw ⊢
  have hz := nl_size a b
  rw [if_neg (show ¬ 65536 < (a ++ ⟨#[10]⟩ ++ b).size by omega)]
  rw [if_neg (show ¬ 65536 < a.size by omega), if_neg (show ¬ 65536 < b.size by omega)] at hw
  rw [words_app, readL_append]
  rcases hw with ⟨l, c, hw⟩ | ⟨l, c, hw⟩
  · rw [hw]
    exact ⟨l, c, rfl⟩
  · cases hx : readL 0 (wordsC 10 a) [] with
    | wrong l c => exact ⟨l, c, rfl⟩
    | right x =>
      simp only
      exact readL_bad _ 0 _ [] x l c hw (Nat.zero_le _)

/-! Words that were read are those that are said. -/
theorem numsQ_back {most : Nat} (hm : most ≤ 4294967295) : ∀ {l : List ByteArray} {n : List Nat}, numsQ most l = some n → l = n.map (fun k : Nat => itoaS (k : Int)) ∧ ∀ k ∈ n, k ≤ most
  | [], n, h => by rw [numsQ] at h; injection h with h; subst h; exact ⟨rfl, by simp⟩
  | s :: l, n, h => by
    rw [numsQ] at h
    cases hq : numQ most s with
    | none => rw [hq] at h; cases h
    | some k =>
      rw [hq] at h
      simp only at h
      cases hr : numsQ most l with
      | none => rw [hr] at h; cases h
      | some y =>
        rw [hr] at h
        injection h with h
        subst h
        obtain ⟨h1, h2⟩ := numsQ_back hm hr
        obtain ⟨h3, h4⟩ := (numQ_iff hm s k).1 hq
        refine ⟨by rw [List.map_cons, ← h1, itoaS_nat, ← h4], ?_⟩
        intro m hmm
        rcases List.mem_cons.1 hmm with rfl | hmm
        · exact h3
        · exact h2 m hmm
/-- What a case that was read is like. -/
def CaseR (k : Cse) : Prop := ∃ h v : Nat, h ≤ 65535 ∧ v ≤ 4294967295 ∧ (k = ⟨1, h, v⟩ ∨ k = ⟨2, h, 0⟩)
theorem list_one {α : Type} {l : List α} (h : l.length = 1) : ∃ a, l = [a] := by
  match l, h with
  | [a], _ => exact ⟨a, rfl⟩
theorem list_two {α : Type} {l : List α} (h : l.length = 2) : ∃ a b, l = [a, b] := by
  match l, h with
  | [a, b], _ => exact ⟨a, b, rfl⟩
theorem caseQ_back {s : ByteArray} {k : Cse} (h : caseQ s = some k) : s = kaseS k ∧ CaseR k := by
  unfold caseQ at h
  cases hn : numsQ 4294967295 (wordsC 58 s).tail with
  | none => rw [hn] at h; cases h
  | some n =>
    rw [hn] at h
    simp only at h
    obtain ⟨h1, h2⟩ := numsQ_back (by decide) hn
    cases hw : wordsC 58 s with
    | nil => have := wordsC_len 58 s; rw [hw] at this; cases this
    | cons x r =>
      rw [hw] at h h1
      rw [List.tail_cons] at h1
      rw [List.getD_cons_zero] at h
      have hj := words_joined hw
      unfold caseN at h
      split at h
      · cases h
      · rename_i hb
        split at h
        · rename_i hs
          obtain ⟨hx, hl⟩ := hs
          obtain ⟨a, b, rfl⟩ := list_two hl
          injection h with h
          subst h
          refine ⟨?_, a, b, ?_, ?_, .inl rfl⟩
          · apply bytes_eq2
            rw [hj, hx, h1]
            unfold kaseS
            simp [Lib.joinTail]
          · simp only [List.getD_cons_zero] at hb; omega
          · exact h2 b (by simp)
        · split at h
          · rename_i hs
            obtain ⟨hx, hl⟩ := hs
            obtain ⟨a, rfl⟩ := list_one hl
            injection h with h
            subst h
            refine ⟨?_, a, 0, ?_, by decide, .inr rfl⟩
            · apply bytes_eq2
              rw [hj, hx, h1]
              unfold kaseS
              simp [Lib.joinTail]
            · simp only [List.getD_cons_zero] at hb; omega
          · cases h
theorem casesQ_back : ∀ {l : List ByteArray} {cs : List Cse}, casesQ l = some cs → l = cs.map kaseS ∧ ∀ k ∈ cs, CaseR k
  | [], cs, h => by rw [casesQ] at h; injection h with h; subst h; exact ⟨rfl, by simp⟩
  | s :: l, cs, h => by
    rw [casesQ] at h
    cases hq : caseQ s with
    | none => rw [hq] at h; cases h
    | some k =>
      rw [hq] at h
      simp only at h
      cases hr : casesQ l with
      | none => rw [hr] at h; cases h
      | some y =>
        rw [hr] at h
        injection h with h
        subst h
        obtain ⟨h1, h2⟩ := casesQ_back hr
        obtain ⟨h3, h4⟩ := caseQ_back hq
        refine ⟨by rw [List.map_cons, ← h1, ← h3], ?_⟩
        intro m hmm
        rcases List.mem_cons.1 hmm with rfl | hmm
        · exact h4
        · exact h2 m hmm
theorem numsQ_two (a b : Nat) (ha : a ≤ 4294967295) (hb : b ≤ 4294967295) : numsQ 4294967295 [itoaS (a : Int), itoaS (b : Int)] = some [a, b] :=
  (numsQ_itoa (by decide) [(a : Int), (b : Int)] [a, b]).2 ⟨rfl, by intro n hn; simp only [List.mem_cons, List.not_mem_nil, or_false] at hn; rcases hn with rfl | rfl <;> assumption⟩
theorem numsQ_one (a : Nat) (ha : a ≤ 4294967295) : numsQ 4294967295 [itoaS (a : Int)] = some [a] :=
  (numsQ_itoa (by decide) [(a : Int)] [a]).2 ⟨rfl, by intro n hn; simp only [List.mem_cons, List.not_mem_nil, or_false] at hn; rcases hn with rfl; assumption⟩
/-- The words of a call that was read: the call is read from them, and they are no longer. -/
def SayOk (r : Rq) (W : List ByteArray) : Prop := nameS r.req r.cs ≠ ⟨#[]⟩ ∧ callQ (nameS r.req r.cs :: argsS r.req r.cs) = some r ∧ lens1 (nameS r.req r.cs :: argsS r.req r.cs) ≤ lens1 W
theorem say_same {r : Rq} {W : List ByteArray} (h : callQ W = some r) (hn : nameS r.req r.cs ≠ ⟨#[]⟩) (e : nameS r.req r.cs :: argsS r.req r.cs = W) : SayOk r W := ⟨hn, by rw [e]; exact h, by rw [e]; exact Nat.le_refl _⟩
theorem sel_ne : ¬ selS = ⟨#[]⟩ := by decide
theorem sz_kase1 (h v : Int) : (kaseS ⟨1, h, v⟩).size = 6 + (itoaS h).size + (itoaS v).size := by
  unfold kaseS
  rw [if_pos rfl]
  simp only [ByteArray.size_append]
  have e1 : w_sendS.size = 4 := rfl
  have e2 : (⟨#[58]⟩ : ByteArray).size = 1 := rfl
  rw [e1, e2]
  omega
theorem sz_kase2 (h v : Int) : (kaseS ⟨2, h, v⟩).size = 5 + (itoaS h).size := by
  unfold kaseS
  rw [if_neg (show ¬ (2 : Int) = 1 by decide)]
  simp only [ByteArray.size_append]
  have e1 : w_recvS.size = 4 := rfl
  have e2 : (⟨#[58]⟩ : ByteArray).size = 1 := rfl
  rw [e1, e2]
theorem name_many {r : Rq} (hk : r.kind = 3) (hl : r.cs.length ≠ 1) : nameS r.req r.cs = selS := by
  unfold nameS
  rw [if_pos (show r.req.kind = 3 from hk)]
  unfold namedS
  rw [if_neg (show ¬ r.req.n = 1 from hl)]
theorem name_send (d : Bool) (h v : Int) : nameS (Rq.req ⟨3, 0, 0, d, [⟨1, h, v⟩]⟩) [⟨1, h, v⟩] = if d = true then w_trysendS else w_sendS := by
  have e : nameS (Rq.req ⟨3, 0, 0, d, [⟨1, h, v⟩]⟩) [⟨1, h, v⟩] = tryS d ++ ⟨#[115, 101, 110, 100]⟩ := by
    unfold nameS
    rw [if_pos (show (Rq.req ⟨3, 0, 0, d, [⟨1, h, v⟩]⟩).kind = 3 from rfl)]
    unfold namedS
    rw [if_pos (show (Rq.req ⟨3, 0, 0, d, [⟨1, h, v⟩]⟩).n = 1 from rfl), List.getD_cons_zero]
    show (if (1 : Int) = 1 then _ else _) = _
    rw [if_pos (show (1 : Int) = 1 from rfl)]
    rfl
  rw [e]
  cases d <;> decide +kernel
theorem name_recv (d : Bool) (h v : Int) : nameS (Rq.req ⟨3, 0, 0, d, [⟨2, h, v⟩]⟩) [⟨2, h, v⟩] = if d = true then w_tryrecvS else w_recvS := by
  have e : nameS (Rq.req ⟨3, 0, 0, d, [⟨2, h, v⟩]⟩) [⟨2, h, v⟩] = tryS d ++ ⟨#[114, 101, 99, 118]⟩ := by
    unfold nameS
    rw [if_pos (show (Rq.req ⟨3, 0, 0, d, [⟨2, h, v⟩]⟩).kind = 3 from rfl)]
    unfold namedS
    rw [if_pos (show (Rq.req ⟨3, 0, 0, d, [⟨2, h, v⟩]⟩).n = 1 from rfl), List.getD_cons_zero]
    show (if (2 : Int) = 1 then _ else _) = _
    rw [if_neg (show ¬ (2 : Int) = 1 by decide), if_pos (show (2 : Int) = 2 from rfl)]
    rfl
  rw [e]
  cases d <;> decide +kernel
theorem args_send (d : Bool) (h v : Int) : argsS (Rq.req ⟨3, 0, 0, d, [⟨1, h, v⟩]⟩) [⟨1, h, v⟩] = [itoaS h, itoaS v] := by
  unfold argsS
  rw [if_pos (show (Rq.req ⟨3, 0, 0, d, [⟨1, h, v⟩]⟩).kind = 3 from rfl), name_send, if_neg (by cases d <;> decide), if_pos (show (List.getD [(⟨1, h, v⟩ : Cse)] 0 Cse.none).dir = 1 from rfl)]
  rfl
theorem args_recv (d : Bool) (h v : Int) : argsS (Rq.req ⟨3, 0, 0, d, [⟨2, h, v⟩]⟩) [⟨2, h, v⟩] = [itoaS h] := by
  unfold argsS
  rw [if_pos (show (Rq.req ⟨3, 0, 0, d, [⟨2, h, v⟩]⟩).kind = 3 from rfl), name_recv, if_neg (by cases d <;> decide), if_neg (show ¬ (List.getD [(⟨2, h, v⟩ : Cse)] 0 Cse.none).dir = 1 by show ¬ (2 : Int) = 1; decide)]
  rfl
theorem callQ_words {w : ByteArray} {l : List ByteArray} {n : List Nat} (hw : ¬ w = selS) (hn : numsQ 4294967295 l = some n) : callQ (w :: l) = wordN w n := by
  unfold callQ
  rw [if_neg (by simp), List.getD_cons_zero, if_neg hw, List.tail_cons, hn]
theorem call_send (d : Bool) (h v : Nat) (h1 : h ≤ 65535) (h2 : v ≤ 4294967295) : callQ ((if d = true then w_trysendS else w_sendS) :: [itoaS (h : Int), itoaS (v : Int)]) = some ⟨3, 0, 0, d, [⟨1, h, v⟩]⟩ := by
  rw [callQ_words (by cases d <;> decide) (numsQ_two h v (by omega) h2)]
  unfold wordN
  rw [if_neg (by simp; omega)]
  cases d <;> rfl
theorem call_recv (d : Bool) (h : Nat) (h1 : h ≤ 65535) : callQ ((if d = true then w_tryrecvS else w_recvS) :: [itoaS (h : Int)]) = some ⟨3, 0, 0, d, [⟨2, h, 0⟩]⟩ := by
  rw [callQ_words (by cases d <;> decide) (numsQ_one h (by omega))]
  unfold wordN
  rw [if_neg (by simp; omega)]
  cases d <;> rfl
theorem sel_say {tl : List ByteArray} {r : Rq} (h : selQ tl = some r) : SayOk r (selS :: tl) := by
  have hcall : callQ (selS :: tl) = some r := by
    unfold callQ
    rw [if_neg (by simp), List.getD_cons_zero, if_pos rfl, List.tail_cons]
    exact h
  unfold selQ at h
  cases hc : casesQ (restQ tl) with
  | none => rw [hc] at h; cases h
  | some cs =>
    rw [hc] at h
    unfold selN at h
    simp only at h
    split at h
    · rename_i hl
      injection h with h
      obtain ⟨h1, h2⟩ := casesQ_back hc
      have etl : tl = (if dfltQ tl = true then [w_defS] else []) ++ cs.map kaseS := by
        rw [← h1]
        unfold restQ
        by_cases hd : dfltQ tl = true
        · rw [if_pos hd, if_pos hd]
          unfold dfltQ at hd
          have hd := of_decide_eq_true hd
          cases tl with
          | nil => exact absurd hd.1 (by simp)
          | cons a b =>
            rw [List.getD_cons_zero] at hd
            rw [List.tail_cons, hd.2]
            rfl
        · rw [if_neg hd, if_neg hd]
          rfl
      by_cases hone : cs.length = 1
      · obtain ⟨k, rfl⟩ := list_one hone
        obtain ⟨hh, v, b1, b2, hk⟩ := h2 k (by simp)
        generalize dfltQ tl = d at *
        rcases hk with rfl | rfl
        · subst h
          refine ⟨?_, ?_, ?_⟩
          · show nameS (Rq.req ⟨3, 0, 0, d, [⟨1, (hh : Int), (v : Int)⟩]⟩) [⟨1, (hh : Int), (v : Int)⟩] ≠ _
            rw [name_send]; cases d <;> decide
          · show callQ (nameS (Rq.req ⟨3, 0, 0, d, [⟨1, (hh : Int), (v : Int)⟩]⟩) [⟨1, (hh : Int), (v : Int)⟩] :: argsS (Rq.req ⟨3, 0, 0, d, [⟨1, (hh : Int), (v : Int)⟩]⟩) [⟨1, (hh : Int), (v : Int)⟩]) = _
            rw [name_send, args_send]
            exact call_send d hh v b1 b2
          · show lens1 (nameS (Rq.req ⟨3, 0, 0, d, [⟨1, (hh : Int), (v : Int)⟩]⟩) [⟨1, (hh : Int), (v : Int)⟩] :: argsS (Rq.req ⟨3, 0, 0, d, [⟨1, (hh : Int), (v : Int)⟩]⟩) [⟨1, (hh : Int), (v : Int)⟩]) ≤ _
            rw [name_send, args_send, etl, List.map_singleton]
            simp only [lens1_cons, lens1_app, lens1_nil, sz_kase1]
            have e1 : selS.size = 6 := rfl
            have e2 : w_trysendS.size = 7 := rfl
            have e3 : w_sendS.size = 4 := rfl
            have e4 : w_defS.size = 7 := rfl
            cases d
            · simp only [Bool.false_eq_true, if_false, lens1_nil]; omega
            · simp only [if_true, lens1_cons, lens1_nil]; omega
        · subst h
          refine ⟨?_, ?_, ?_⟩
          · show nameS (Rq.req ⟨3, 0, 0, d, [⟨2, (hh : Int), 0⟩]⟩) [⟨2, (hh : Int), 0⟩] ≠ _
            rw [name_recv]; cases d <;> decide
          · show callQ (nameS (Rq.req ⟨3, 0, 0, d, [⟨2, (hh : Int), 0⟩]⟩) [⟨2, (hh : Int), 0⟩] :: argsS (Rq.req ⟨3, 0, 0, d, [⟨2, (hh : Int), 0⟩]⟩) [⟨2, (hh : Int), 0⟩]) = _
            rw [name_recv, args_recv]
            exact call_recv d hh b1
          · show lens1 (nameS (Rq.req ⟨3, 0, 0, d, [⟨2, (hh : Int), 0⟩]⟩) [⟨2, (hh : Int), 0⟩] :: argsS (Rq.req ⟨3, 0, 0, d, [⟨2, (hh : Int), 0⟩]⟩) [⟨2, (hh : Int), 0⟩]) ≤ _
            rw [name_recv, args_recv, etl, List.map_singleton]
            simp only [lens1_cons, lens1_app, lens1_nil, sz_kase2]
            have e1 : selS.size = 6 := rfl
            have e2 : w_tryrecvS.size = 7 := rfl
            have e3 : w_recvS.size = 4 := rfl
            have e4 : w_defS.size = 7 := rfl
            cases d
            · simp only [Bool.false_eq_true, if_false, lens1_nil]; omega
            · simp only [if_true, lens1_cons, lens1_nil]; omega
      · have en : nameS r.req r.cs = selS := name_many (by rw [← h]) (by rw [← h]; exact hone)
        refine say_same hcall (by rw [en]; exact sel_ne) ?_
        rw [en]
        congr 1
        unfold argsS
        rw [if_pos (by rw [← h]; rfl), if_pos en, ← h]
        exact etl.symm
    · cases h
theorem words_n {n : List Nat} {l : List ByteArray} (h : l = n.map (fun k : Nat => itoaS (k : Int))) : (n.length = 1 → l = [itoaS ((n.getD 0 0 : Nat) : Int)]) ∧ (n.length = 2 → l = [itoaS ((n.getD 0 0 : Nat) : Int), itoaS ((n.getD 1 0 : Nat) : Int)]) ∧ (n.length = 0 → l = []) := by
  refine ⟨fun hl => ?_, fun hl => ?_, fun hl => ?_⟩
  · obtain ⟨a, rfl⟩ := list_one hl; exact h
  · obtain ⟨a, b, rfl⟩ := list_two hl; exact h
  · rw [List.eq_nil_of_length_eq_zero hl] at h; exact h
theorem call_say {W : List ByteArray} {r : Rq} (h : callQ W = some r) : SayOk r W := by
  cases W with
  | nil => unfold callQ at h; rw [if_pos (show ([] : List ByteArray).length = 0 from rfl)] at h; cases h
  | cons w tl =>
    have hc := h
    unfold callQ at h
    rw [if_neg (by simp), List.getD_cons_zero, List.tail_cons] at h
    split at h
    · rename_i hw
      subst hw
      exact sel_say h
    · cases hn : numsQ 4294967295 tl with
      | none => rw [hn] at h; cases h
      | some n =>
        rw [hn] at h
        simp only at h
        obtain ⟨h1, h2⟩ := numsQ_back (by decide) hn
        obtain ⟨g1, g2, g0⟩ := words_n h1
        clear h1
        unfold wordN at h
        split at h
        · cases h
        · generalize n.getD 0 0 = a at *
          generalize n.getD 1 0 = b at *
          unfold tabQ at h
          by_cases hw : w = w_makeS
          · rw [if_pos hw] at h
            by_cases hm : n.length = 1
            · rw [if_pos hm] at h
              injection h with h
              subst h
              rw [g1 hm, hw] at hc ⊢
              exact say_same hc (by show ¬ w_makeS = ⟨#[]⟩; decide) rfl
            · rw [if_neg hm] at h
              cases h
          rw [if_neg hw] at h
          clear hw
          by_cases hw : w = w_freeS
          · rw [if_pos hw] at h
            by_cases hm : n.length = 1
            · rw [if_pos hm] at h
              injection h with h
              subst h
              rw [g1 hm, hw] at hc ⊢
              exact say_same hc (by show ¬ w_freeS = ⟨#[]⟩; decide) rfl
            · rw [if_neg hm] at h
              cases h
          rw [if_neg hw] at h
          clear hw
          by_cases hw : w = w_closeS
          · rw [if_pos hw] at h
            by_cases hm : n.length = 1
            · rw [if_pos hm] at h
              injection h with h
              subst h
              rw [g1 hm, hw] at hc ⊢
              exact say_same hc (by show ¬ w_closeS = ⟨#[]⟩; decide) rfl
            · rw [if_neg hm] at h
              cases h
          rw [if_neg hw] at h
          clear hw
          by_cases hw : w = w_lenS
          · rw [if_pos hw] at h
            by_cases hm : n.length = 1
            · rw [if_pos hm] at h
              injection h with h
              subst h
              rw [g1 hm, hw] at hc ⊢
              exact say_same hc (by show ¬ w_lenS = ⟨#[]⟩; decide) rfl
            · rw [if_neg hm] at h
              cases h
          rw [if_neg hw] at h
          clear hw
          by_cases hw : w = w_capS
          · rw [if_pos hw] at h
            by_cases hm : n.length = 1
            · rw [if_pos hm] at h
              injection h with h
              subst h
              rw [g1 hm, hw] at hc ⊢
              exact say_same hc (by show ¬ w_capS = ⟨#[]⟩; decide) rfl
            · rw [if_neg hm] at h
              cases h
          rw [if_neg hw] at h
          clear hw
          by_cases hw : w = w_sendS
          · rw [if_pos hw] at h
            by_cases hm : n.length = 2
            · rw [if_pos hm] at h
              injection h with h
              subst h
              rw [g2 hm, hw] at hc ⊢
              exact say_same hc (by rw [name_send]; decide) (by rw [name_send, args_send]; rfl)
            · rw [if_neg hm] at h
              cases h
          rw [if_neg hw] at h
          clear hw
          by_cases hw : w = w_recvS
          · rw [if_pos hw] at h
            by_cases hm : n.length = 1
            · rw [if_pos hm] at h
              injection h with h
              subst h
              rw [g1 hm, hw] at hc ⊢
              exact say_same hc (by rw [name_recv]; decide) (by rw [name_recv, args_recv]; rfl)
            · rw [if_neg hm] at h
              cases h
          rw [if_neg hw] at h
          clear hw
          by_cases hw : w = w_trysendS
          · rw [if_pos hw] at h
            by_cases hm : n.length = 2
            · rw [if_pos hm] at h
              injection h with h
              subst h
              rw [g2 hm, hw] at hc ⊢
              exact say_same hc (by rw [name_send]; decide) (by rw [name_send, args_send]; rfl)
            · rw [if_neg hm] at h
              cases h
          rw [if_neg hw] at h
          clear hw
          by_cases hw : w = w_tryrecvS
          · rw [if_pos hw] at h
            by_cases hm : n.length = 1
            · rw [if_pos hm] at h
              injection h with h
              subst h
              rw [g1 hm, hw] at hc ⊢
              exact say_same hc (by rw [name_recv]; decide) (by rw [name_recv, args_recv]; rfl)
            · rw [if_neg hm] at h
              cases h
          rw [if_neg hw] at h
          clear hw
          by_cases hw : w = w_cancelS
          · rw [if_pos hw] at h
            by_cases hm : n.length = 2
            · rw [if_pos hm] at h
              injection h with h
              subst h
              rw [g2 hm, hw] at hc ⊢
              exact say_same hc (by show ¬ w_cancelS = ⟨#[]⟩; decide) rfl
            · rw [if_neg hm] at h
              cases h
          rw [if_neg hw] at h
          clear hw
          by_cases hw : w = w_putS
          · rw [if_pos hw] at h
            by_cases hm : n.length = 1
            · rw [if_pos hm] at h
              injection h with h
              subst h
              rw [g1 hm, hw] at hc ⊢
              exact say_same hc (by show ¬ w_putS = ⟨#[]⟩; decide) rfl
            · rw [if_neg hm] at h
              cases h
          rw [if_neg hw] at h
          clear hw
          by_cases hw : w = w_takeS
          · rw [if_pos hw] at h
            by_cases hm : n.length = 0
            · rw [if_pos hm] at h
              injection h with h
              subst h
              rw [g0 hm, hw] at hc ⊢
              exact say_same hc (by show ¬ w_takeS = ⟨#[]⟩; decide) rfl
            · rw [if_neg hm] at h
              cases h
          rw [if_neg hw] at h
          clear hw
          cases h
theorem sayR_ne {r : Rq} {W : List ByteArray} (h : SayOk r W) : sayR r ≠ ⟨#[]⟩ := by
  obtain ⟨h1, h2, _⟩ := h
  unfold sayR callS
  rw [if_neg h1, say_words', h2]
  simp only
  rw [if_pos (sameQ_self r), sayS_eq]
  intro e
  have e2 := sayL_lens (nameS r.req r.cs) (argsS r.req r.cs)
  have e4 : (⟨#[]⟩ : ByteArray).size = 0 := rfl
  rw [e, e4, lens1_cons] at e2
  have e3 : (nameS r.req r.cs).size = 0 := by omega
  have e5 : (nameS r.req r.cs).data.toList = [] := List.eq_nil_of_length_eq_zero (by rw [← size_list]; exact e3)
  exact h1 (bytes_eq2 (e5.trans rfl))

/-! A line's events. -/
theorem itoaS_pos (t : Nat) : 1 ≤ (itoaS (t : Int)).size := by
  rw [itoaS_nat, size_list, udecS_list]
  have := dec_ne t
  cases h : Lib.decDigits t with
  | nil => exact absurd h this
  | cons a b => simp
theorem line_chunk {s : ByteArray} {l : List Ev} (h : lineQ s = some l) :
    (∃ e n, l = List.replicate n e ∧ n ≤ 1000 ∧ e.kind = 1 ∧ okE e = true ∧ 6 ≤ s.size) ∨ (∃ e, l = [e] ∧ ¬ e.kind = 1 ∧ okE e = true ∧ (evS e 1).size ≤ s.size) := by
  have hw := words_lens 32 s
  unfold lineQ at h
  generalize wordsC 32 s = W at *
  unfold lineW at h
  split at h
  · cases h
  · rename_i hl
    rcases W with _ | ⟨w0, _ | ⟨w1, rest⟩⟩
    · exact absurd (by decide) hl
    · exact absurd (by simp) hl
    rw [List.getD_cons_succ, List.getD_cons_zero] at h
    cases hq : numQ 63 w1 with
    | none => rw [hq] at h; cases h
    | some t =>
      rw [hq] at h
      simp only at h
      obtain ⟨ht, ew1⟩ := (numQ_iff (by decide) w1 t).1 hq
      rw [← itoaS_nat] at ew1
      have htp := itoaS_pos t
      rw [lens1_cons, lens1_cons, ew1] at hw
      unfold lineT at h
      rw [List.getD_cons_zero] at h
      split at h
      · rename_i hp
        have e0 : w0.size = 4 := by rw [hp]; rfl
        left
        unfold pickQ at h
        split at h
        · injection h with h
          exact ⟨evPick t, 1, h.symm, by decide, rfl, okE_pick t ht, by omega⟩
        · split at h
          · split at h
            · cases h
            · rename_i n hn
              split at h
              · cases h
              · injection h with h
                exact ⟨evPick t, n, h.symm, ((numQ_iff (by decide) _ _).1 hn).1, rfl, okE_pick t ht, by omega⟩
          · cases h
      · split at h
        · rename_i hp
          right
          unfold callEv at h
          split at h
          · cases h
          · rename_i r hr
            injection h with h
            have hr' : callQ rest = some r := hr
            have hs := call_say hr'
            have hne := sayR_ne hs
            refine ⟨evCall t r, h.symm, by show ¬ (2 : Int) = 1; decide, okE_call t r ht hne, ?_⟩
            have e1 := sayL_lens (evH (evCall t r)) (evW (evCall t r) 1)
            have e2 : evH (evCall t r) = w_callS := rfl
            have e3 : evW (evCall t r) 1 = itoaS (t : Int) :: callW r := rfl
            have e4 : callW r = nameS r.req r.cs :: argsS r.req r.cs := by unfold callW; rw [if_neg hne]
            rw [e2, e3, e4, lens1_cons, lens1_cons] at e1
            have e5 := hs.2.2
            have e6 : evS (evCall t r) 1 = sayL w_callS (itoaS (t : Int) :: (nameS r.req r.cs :: argsS r.req r.cs)) := by unfold evS; rw [e2, e3, e4]
            rw [e6]
            have e7 : w0.size = w_callS.size := by rw [hp]
            omega
        · split at h
          · rename_i hp
            right
            unfold pumpQ at h
            split at h
            · cases h
            · rename_i hlen
              split at h
              · cases h
              · rename_i n hn
                have hn' : numsQ 65535 rest = some n := hn
                obtain ⟨h1, h2⟩ := numsQ_back (by decide) hn'
                unfold pumpN at h
                split at h
                · rename_i hst
                  injection h with h
                  refine ⟨_, h.symm, by show ¬ (3 : Int) = 1; decide, okE_pump t _ _ ht hst, ?_⟩
                  cases n with
                  | nil => rw [List.map_nil] at h1; rw [h1] at hlen; exact absurd (by simp) hlen
                  | cons i o =>
                    rw [List.getD_cons_zero, List.tail_cons]
                    have e1 := sayL_lens w_pumpS (itoaS (t : Int) :: rest)
                    rw [lens1_cons, lens1_cons] at e1
                    have e6 : evS (evPump t ((i : Nat) : Int) (o.map Int.ofNat)) 1 = sayL w_pumpS (itoaS (t : Int) :: rest) := by
                      unfold evS
                      have e2 : evH (evPump t ((i : Nat) : Int) (o.map Int.ofNat)) = w_pumpS := rfl
                      have e3 : evW (evPump t ((i : Nat) : Int) (o.map Int.ofNat)) 1 = itoaS (t : Int) :: itoaS (i : Int) :: (o.map Int.ofNat).map itoaS := rfl
                      rw [e2, e3, h1, List.map_cons, List.map_map]
                      rfl
                    rw [e6]
                    have e7 : w0.size = w_pumpS.size := by rw [hp]
                    omega
                · cases h
          · cases h

/-! How long a text becomes. -/
def costE (e : Ev) : Nat := if e.kind = 1 then 13 else (evS e 1).size + 1
def costF : Nat → List Ev → Nat
  | 0, _ => 0
  | _ + 1, [] => 0
  | f + 1, e :: r => costE e + costF f ((e :: r).drop (grpQ (e :: r)))
def costG (l : List Ev) : Nat := costF l.length l
theorem costF_more : ∀ (f g : Nat) (l : List Ev), l.length ≤ f → l.length ≤ g → costF f l = costF g l
  | f, g, [], _, _ => by cases f <;> cases g <;> rfl
  | 0, _, _ :: _, h, _ => by simp at h
  | _ + 1, 0, _ :: _, _, h => by simp at h
  | f + 1, g + 1, e :: r, hf, hg => by
    have := grpQ_drop_lt e r
    simp only [List.length_cons] at hf hg
    rw [costF, costF, costF_more f g _ (by omega) (by omega)]
theorem costG_cons (e : Ev) (r : List Ev) : costG (e :: r) = costE e + costG ((e :: r).drop (grpQ (e :: r))) := by
  show costF (r.length + 1) (e :: r) = _
  rw [costF, costG, costF_more _ _ _ (grpQ_drop_lt e r) (Nat.le_refl _)]
theorem runQ_succ (e : Ev) : ∀ (f : Nat) (r : List Ev), runQ e (f + 1) r = runQ e f r ∨ runQ e (f + 1) r = runQ e f r + 1
  | 0, [] => .inl rfl
  | 0, x :: r => by
    rw [runQ, runQ, runQ]
    split
    · exact .inr rfl
    · exact .inl rfl
  | f + 1, [] => .inl rfl
  | f + 1, x :: r => by
    rw [runQ, runQ]
    split
    · rcases runQ_succ e f r with h | h
      · rw [h]; exact .inl rfl
      · rw [h]; exact .inr rfl
    · exact .inl rfl
theorem costG_tail : ∀ (N : Nat) (e : Ev) (r : List Ev), r.length ≤ N → costG r ≤ costG (e :: r) := by
  intro N
  induction N with
  | zero =>
    intro e r hr
    rw [List.eq_nil_of_length_eq_zero (Nat.le_zero.1 hr)]
    exact Nat.zero_le _
  | succ N ih =>
    intro e r hr
    rw [costG_cons e r]
    by_cases hk : e.kind = 1
    · have eg : grpQ (e :: r) = runQ e 999 r + 1 := by rw [grpQ, if_pos hk]
      rw [eg, List.drop_succ_cons]
      cases r with
      | nil => exact Nat.zero_le _
      | cons x r =>
        by_cases hx : x = e
        · subst hx
          have eg2 : grpQ (x :: r) = runQ x 999 r + 1 := by rw [grpQ, if_pos hk]
          have eg3 : runQ x 999 (x :: r) = runQ x 998 r + 1 := by rw [runQ, if_pos rfl]
          rw [costG_cons x r, eg2, eg3, List.drop_succ_cons, List.drop_succ_cons]
          rcases runQ_succ x 998 r with h | h
          · rw [h]; exact Nat.le_refl _
          · rw [h]
            generalize runQ x 998 r = k
            have hkk : costG (r.drop (k + 1)) ≤ costG (r.drop k) := by
              have hd : r.drop (k + 1) = (r.drop k).tail := by rw [List.tail_drop]
              rw [hd]
              have hlen : (r.drop k).length ≤ N := by rw [List.length_drop]; simp only [List.length_cons] at hr; omega
              cases hdk : r.drop k with
              | nil => exact Nat.le_refl _
              | cons y t =>
                rw [hdk, List.length_cons] at hlen
                exact ih y t (by omega)
            omega
        · have eg3 : runQ e 999 (x :: r) = 0 := by rw [runQ, if_neg hx]
          rw [eg3, List.drop_zero]
          exact Nat.le_add_left _ _
    · rw [grpQ_one r hk, List.drop_succ_cons, List.drop_zero]
      exact Nat.le_add_left _ _
theorem costG_drop : ∀ (k : Nat) (l : List Ev), costG (l.drop k) ≤ costG l
  | 0, _ => Nat.le_refl _
  | _ + 1, [] => Nat.le_refl _
  | k + 1, e :: r => Nat.le_trans (costG_drop k r) (costG_tail _ e r (Nat.le_refl _))
theorem runQ_rep (e : Ev) (r : List Ev) : ∀ (n f : Nat), n ≤ f → runQ e f (List.replicate n e ++ r) = n + runQ e (f - n) r
  | 0, f, _ => by simp
  | n + 1, 0, h => by omega
  | n + 1, f + 1, h => by
    rw [List.replicate_succ, List.cons_append, runQ, if_pos rfl, runQ_rep e r n f (by omega), Nat.add_sub_add_right]
    omega
theorem costG_rep {e : Ev} (hk : e.kind = 1) (r : List Ev) : ∀ n, n ≤ 1000 → costG (List.replicate n e ++ r) ≤ 13 + costG r
  | 0, _ => Nat.le_add_left _ _
  | n + 1, h => by
    rw [List.replicate_succ, List.cons_append, costG_cons]
    have eg : grpQ (e :: (List.replicate n e ++ r)) = runQ e 999 (List.replicate n e ++ r) + 1 := by rw [grpQ, if_pos hk]
    rw [eg, runQ_rep e r n 999 (by omega), List.drop_succ_cons]
    generalize runQ e (999 - n) r = j
    have ed : (List.replicate n e ++ r).drop (n + j) = r.drop j := by
      rw [← List.drop_drop, List.drop_left' (by rw [List.length_replicate])]
    rw [ed]
    have := costG_drop j r
    have ec : costE e = 13 := by unfold costE; rw [if_pos hk]
    omega
theorem itoaS_le {k n : Nat} (hk : 1 ≤ k) (h : n < 10 ^ k) : (itoaS (n : Int)).size ≤ k := by
  rw [itoaS_nat, size_list, udecS_list]
  exact dec_len k n hk h
theorem pick_size {e : Ev} (h : okE e = true) (hk : e.kind = 1) {n : Nat} (hn : n ≤ 1000) : (evS e n).size ≤ 12 := by
  obtain ⟨t, et, ht⟩ := okE_thread h
  have e1 := sayL_lens (evH e) (evW e n)
  have e2 : evH e = w_pickS := by unfold evH; rw [if_pos hk]
  have e3 : evW e n = itoaS (t : Int) :: (if 1 < n then [itoaS (n : Int)] else []) := by unfold evW; rw [if_pos hk, et]; rfl
  have e4 : w_pickS.size = 4 := rfl
  have h1 := itoaS_le (k := 2) (n := t) (by decide) (by omega)
  have h2 := itoaS_le (k := 4) (n := n) (by decide) (by omega)
  have e5 : (evS e n).size = (sayL (evH e) (evW e n)).size := rfl
  rw [e5]
  rw [e2, e3, lens1_cons, lens1_cons] at e1
  rw [e2, e3]
  split at e1
  · rename_i hc
    rw [lens1_cons, lens1_nil] at e1
    rw [if_pos hc]
    omega
  · rename_i hc
    rw [lens1_nil] at e1
    rw [if_neg hc]
    omega
theorem text_cost (N : Nat) : ∀ (l : List Ev), l.length ≤ N → (∀ e ∈ l, okE e = true) → (textG l).size ≤ costG l := by
  induction N with
  | zero =>
    intro l hl _
    rw [List.eq_nil_of_length_eq_zero (Nat.le_zero.1 hl)]
    exact Nat.le_refl _
  | succ N ih =>
    intro l hl h
    cases l with
    | nil => exact Nat.le_refl _
    | cons e r =>
      have hg := grpQ_in e r
      have hdl := grpQ_drop_lt e r
      have h1 := ih ((e :: r).drop (grpQ (e :: r))) (by simp only [List.length_cons] at hl; omega) (fun x hx => h x (List.mem_of_mem_drop hx))
      rw [textG_cons, costG_cons, ByteArray.size_append, ByteArray.size_append]
      have e1 : (⟨#[10]⟩ : ByteArray).size = 1 := rfl
      rw [e1]
      have h2 : (evS e (grpQ (e :: r))).size + 1 ≤ costE e := by
        unfold costE
        split
        · rename_i hk
          have := pick_size (h e (List.mem_cons_self ..)) hk hg.2.2
          omega
        · rename_i hk
          rw [grpQ_one r hk]
          exact Nat.le_refl _
      omega
theorem okG_of (N : Nat) : ∀ (l : List Ev), l.length ≤ N → (∀ e ∈ l, okE e = true ∧ (¬ e.kind = 1 → (evS e 1).size ≤ 120)) → okG l = true := by
  induction N with
  | zero =>
    intro l hl _
    rw [List.eq_nil_of_length_eq_zero (Nat.le_zero.1 hl)]
    rfl
  | succ N ih =>
    intro l hl h
    cases l with
    | nil => rfl
    | cons e r =>
      have hg := grpQ_in e r
      have hdl := grpQ_drop_lt e r
      have h1 := ih ((e :: r).drop (grpQ (e :: r))) (by simp only [List.length_cons] at hl; omega) (fun x hx => h x (List.mem_of_mem_drop hx))
      obtain ⟨h2, h3⟩ := h e (List.mem_cons_self ..)
      have h4 : (evS e (grpQ (e :: r))).size ≤ 120 := by
        by_cases hk : e.kind = 1
        · have := pick_size h2 hk hg.2.2
          omega
        · rw [grpQ_one r hk]
          exact h3 hk
      rw [okG_cons, h2, h1, decide_eq_true h4]
      rfl
theorem read_cost : ∀ (ls : List ByteArray) (i : Nat) (out y : List Ev), readL i ls out = .right (out ++ y) → costG y ≤ 2 * lens1 ls ∧ ∀ e ∈ y, okE e = true ∧ (¬ e.kind = 1 → (evS e 1).size ≤ 120)
  | [], i, out, y, h => by
    rw [readL] at h
    injection h with h
    have : y = [] := by simpa using h
    subst this
    exact ⟨Nat.zero_le _, by simp⟩
  | s :: r, i, out, y, h => by
    rw [readL] at h
    rw [lens1_cons]
    split at h
    · obtain ⟨h1, h2⟩ := read_cost r _ out y h
      exact ⟨by omega, h2⟩
    · split at h
      · cases h
      · rename_i hc
        obtain ⟨l, e1, e2, e3⟩ := lineC_none hc
        rw [e1] at h
        simp only [Option.getD_some] at h
        obtain ⟨y', hy⟩ := readL_pre _ _ _ _ h
        rw [List.append_assoc, List.append_cancel_left_eq] at hy
        subst hy
        obtain ⟨h1, h2⟩ := read_cost r _ (out ++ l) y' (by rw [h, List.append_assoc])
        rcases line_chunk e1 with ⟨e, n, rfl, b1, b2, b3, b4⟩ | ⟨e, rfl, b1, b2, b3⟩
        · refine ⟨?_, ?_⟩
          · have := costG_rep b2 y' n b1
            omega
          · intro x hx
            rcases List.mem_append.1 hx with hx | hx
            · rw [List.eq_of_mem_replicate hx]
              exact ⟨b3, fun hk => absurd b2 hk⟩
            · exact h2 x hx
        · refine ⟨?_, ?_⟩
          · rw [List.singleton_append, costG_cons, grpQ_one y' b1, List.drop_succ_cons, List.drop_zero]
            unfold costE
            rw [if_neg b1]
            omega
          · intro x hx
            rcases List.mem_append.1 hx with hx | hx
            · rw [List.mem_singleton] at hx
              subst hx
              exact ⟨b2, fun _ => by omega⟩
            · exact h2 x hx
/-- Events that were read from a text that is not too long have a text. -/
theorem back_said {s : ByteArray} {l : List Ev} (h : readQ s = .right l) (hs : s.size ≤ 20000) : textP l = some (textG l) := by
  have hlen := readQ_len h
  unfold readQ at h
  rw [if_neg (by omega)] at h
  obtain ⟨h1, h2⟩ := read_cost _ 0 [] l (by rw [List.nil_append]; exact h)
  rw [words_lens] at h1
  have h3 := text_cost l.length l (Nat.le_refl _) (fun e he => (h2 e he).1)
  have h4 := okG_of l.length l (Nat.le_refl _) h2
  rw [text_same]
  unfold textD
  rw [if_pos ⟨h4, by omega, hlen⟩]
theorem textP_some {l : List Ev} {t : ByteArray} (h : textP l = some t) : t = textG l ∧ readQ t = .right l ∧ t.size ≤ 65536 := by
  unfold textP at h
  split at h
  · rename_i hc
    injection h with h
    subst h
    exact ⟨rfl, hc.2, hc.1⟩
  · cases h

end Go.Proofs.YtalkllfgedacoaaGreatDoor

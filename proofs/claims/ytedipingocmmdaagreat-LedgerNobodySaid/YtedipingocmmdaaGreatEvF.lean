/- An evaluator of calls: what a computation did not touch doesn't matter to it. -/
import Derived.Test.YtedipingocmmdaaGreatEvC
namespace Go.Proofs.YtedipingocmmdaaGreat.Ev
open Go

/-- What a computation reads and writes is in its log; the rest of memory neither matters to it nor is turned by it. -/
structure Framed {α : Type} (m : M α) : Prop where
  run : ∀ {c : Nat} {H : Mem} {l : Log} {x : α} {c' : Nat} {H' : Mem} {l' : Log}, m true c H l = .ok x c' H' l' → ∃ d : Log, l' = d ++ l ∧ c ≤ c' ∧
    (∀ n, c ≤ n → n < c' → H.get n = none) ∧ (∀ n, (n, true) ∉ d → (n < c ∨ c' ≤ n) → H'.get n = H.get n) ∧ (∀ n, c' ≤ n → H'.get n = none → H.get n = none) ∧
    ∀ (H2 : Mem) (l2 : Log), (∀ n b, (n, b) ∈ d → H2.get n = H.get n) → (∀ n, c ≤ n → n < c' → H2.get n = none) →
      ∃ H2', m true c H2 l2 = .ok x c' H2' (d ++ l2) ∧ (∀ n, ((n, true) ∈ d ∨ (c ≤ n ∧ n < c')) → H2'.get n = H'.get n)
  off : ∀ {c : Nat} {H : Mem} {l : Log} {x : α} {c' : Nat} {H' : Mem} {l' : Log}, m false c H l = .ok x c' H' l' → l' = l ∧ ∀ l2, ∃ l3, m true c H l2 = .ok x c' H' l3

section
variable {α β : Type}
theorem Framed.ret (x : α) : Framed (M.ret x) where
  run := by
    intro c H l y c' H' l' h
    injection h with h1 h2 h3 h4
    subst h1 h2 h3 h4
    exact ⟨[], rfl, Nat.le_refl _, fun n h1 h2 => absurd h1 (by omega), fun _ _ _ => rfl, fun _ _ h => h, fun H2 l2 _ _ => ⟨H2, rfl, fun n hn => by
      rcases hn with hn | hn
      · cases hn
      · omega⟩⟩
  off := by
    intro c H l y c' H' l' h
    injection h with h1 h2 h3 h4
    subst h1 h2 h3 h4
    exact ⟨rfl, fun l2 => ⟨l2, rfl⟩⟩
theorem Framed.fail : Framed (M.fail : M α) where
  run := by intro c H l y c' H' l' h; cases h
  off := by intro c H l y c' H' l' h; cases h
theorem bind_ok {m : M α} {f : α → M β} {g : Bool} {c : Nat} {H : Mem} {l : Log} {y : β} {c' : Nat} {H' : Mem} {l' : Log} (h : M.bind m f g c H l = .ok y c' H' l') :
    ∃ x c1 H1 l1, m g c H l = .ok x c1 H1 l1 ∧ f x g c1 H1 l1 = .ok y c' H' l' := by
  unfold M.bind at h
  cases hm : m g c H l with
  | no => rw [hm] at h; cases h
  | ok x c1 H1 l1 => rw [hm] at h; exact ⟨x, c1, H1, l1, rfl, h⟩
theorem bind_of {m : M α} {f : α → M β} {g : Bool} {c : Nat} {H : Mem} {l : Log} {x : α} {c1 : Nat} {H1 : Mem} {l1 : Log} (h : m g c H l = .ok x c1 H1 l1) :
    M.bind m f g c H l = f x g c1 H1 l1 := by unfold M.bind; rw [h]
theorem Framed.bind {m : M α} {f : α → M β} (hm : Framed m) (hf : ∀ x, Framed (f x)) : Framed (M.bind m f) where
  run := by
    intro c H l y c' H' l' h
    obtain ⟨x, c1, H1, l1, h1, h2⟩ := bind_ok h
    obtain ⟨d1, rfl, hc1, hn1, hu1, hk1, ha1⟩ := hm.run h1
    obtain ⟨d2, rfl, hc2, hn2, hu2, hk2, ha2⟩ := (hf x).run h2
    refine ⟨d2 ++ d1, by rw [List.append_assoc], Nat.le_trans hc1 hc2, ?_, ?_, fun n hn h0 => hk1 n (by omega) (hk2 n hn h0), ?_⟩
    · intro n a b
      by_cases hlt : n < c1
      · exact hn1 n a hlt
      · exact hk1 n (by omega) (hn2 n (by omega) b)
    · intro n hd hn
      rw [List.mem_append, not_or] at hd
      rw [hu2 n hd.1 (by omega), hu1 n hd.2 (by omega)]
    · intro H2 l2 hag hno
      obtain ⟨K1, hK1, hk1'⟩ := ha1 H2 l2 (fun n b hb => hag n b (List.mem_append_right _ hb)) (fun n a b => hno n a (by omega))
      obtain ⟨e1, he1, -, -, hKu, hKk, -⟩ := hm.run hK1
      have he : e1 = d1 := (List.append_cancel_right he1).symm
      rw [he] at hKu
      obtain ⟨K2, hK2, hk2'⟩ := ha2 K1 (d1 ++ l2) (fun n b hb => by
          by_cases hw : (n, true) ∈ d1 ∨ (c ≤ n ∧ n < c1)
          · exact hk1' n hw
          · rw [not_or] at hw
            rw [hKu n hw.1 (by omega), hu1 n hw.1 (by omega), hag n b (List.mem_append_left _ hb)]) (fun n a b => by
          by_cases hw : (n, true) ∈ d1
          · rw [hk1' n (.inl hw)]; exact hn2 n a b
          · rw [hKu n hw (by omega)]; exact hno n (by omega) b)
      refine ⟨K2, by rw [bind_of hK1, hK2, List.append_assoc], fun n hn => ?_⟩
      obtain ⟨e2, he2, -, -, hLu, -, -⟩ := (hf x).run hK2
      have hee : e2 = d2 := (List.append_cancel_right he2).symm
      rw [hee] at hLu
      by_cases hw2 : (n, true) ∈ d2 ∨ (c1 ≤ n ∧ n < c')
      · exact hk2' n hw2
      · rw [not_or] at hw2
        rw [hLu n hw2.1 (by omega), hu2 n hw2.1 (by omega)]
        refine hk1' n ?_
        rcases hn with hn | hn
        · rcases List.mem_append.mp hn with hn | hn
          · exact absurd hn hw2.1
          · exact .inl hn
        · exact .inr (by omega)
  off := by
    intro c H l y c' H' l' h
    obtain ⟨x, c1, H1, l1, h1, h2⟩ := bind_ok h
    obtain ⟨rfl, t1⟩ := hm.off h1
    obtain ⟨rfl, t2⟩ := (hf x).off h2
    refine ⟨rfl, fun l2 => ?_⟩
    obtain ⟨l3, h3⟩ := t1 l2
    obtain ⟨l4, h4⟩ := t2 l3
    exact ⟨l4, by rw [bind_of h3]; exact h4⟩

theorem read0_ok {n : Nat} {k : Blk → M α} {g : Bool} {c : Nat} {H : Mem} {l : Log} {y : α} {c' : Nat} {H' : Mem} {l' : Log} (h : M.read0 n k g c H l = .ok y c' H' l') :
    ∃ b, H.get n = some b ∧ k b g c H l = .ok y c' H' l' := by
  unfold M.read0 at h
  cases hb : H.get n with
  | none => rw [hb] at h; cases h
  | some b => rw [hb] at h; exact ⟨b, rfl, h⟩
theorem read0_of {n : Nat} {k : Blk → M α} {g : Bool} {c : Nat} {H : Mem} {l : Log} {b : Blk} (h : H.get n = some b) : M.read0 n k g c H l = k b g c H l := by
  unfold M.read0; rw [h]
theorem put0_ok {n : Nat} {o : Option Blk} {k : M α} {g : Bool} {c : Nat} {H : Mem} {l : Log} {y : α} {c' : Nat} {H' : Mem} {l' : Log} (h : M.put0 n o k g c H l = .ok y c' H' l') :
    ∃ H1 : Mem, (∀ j, H1.get j = if j = n then o else H.get j) ∧ (insOk 40 n = true ∧ 16 ≤ n) ∧ k g c H1 l = .ok y c' H' l' := by
  unfold M.put0 at h
  rcases ble_cases 16 n with ⟨e, h2⟩ | ⟨e, h2⟩
  · rw [e] at h
    replace h : H.ins .no o 40 n (fun H => k g c H l) = .ok y c' H' l' := h
    obtain ⟨t, ht, hs, hg⟩ := Trie.ins_spec o 40 H n
    rw [ht] at h
    cases t with
    | none => cases h
    | some t => exact ⟨t, hg t rfl, ⟨by rw [← hs]; rfl, h2⟩, h⟩
  · rw [e] at h; cases h

/-- A row is read. -/
theorem Framed.read {n : Nat} {k : Blk → M α} (hk : ∀ b, Framed (k b)) : Framed (M.read n k) where
  run := by
    intro c H l y c' H' l' h
    obtain ⟨b, hb, h1⟩ := read0_ok (show M.read0 n k true c H ((n, false) :: l) = .ok y c' H' l' from h)
    obtain ⟨d, rfl, hc, hn, hu, hkk, ha⟩ := (hk b).run h1
    refine ⟨d ++ [(n, false)], by simp, hc, hn, fun j hj hjc => hu j (fun hm => hj (List.mem_append_left _ hm)) hjc, hkk, ?_⟩
    intro H2 l2 hag hno
    have hb2 : H2.get n = some b := by rw [hag n false (List.mem_append_right _ (List.mem_singleton.mpr rfl))]; exact hb
    obtain ⟨K, hK, hk2⟩ := ha H2 ((n, false) :: l2) (fun j b hb => hag j b (List.mem_append_left _ hb)) hno
    refine ⟨K, ?_, fun j hj => hk2 j ?_⟩
    · show M.read0 n k true c H2 ((n, false) :: l2) = _
      rw [read0_of hb2, hK]; simp
    · rcases hj with hj | hj
      · rcases List.mem_append.mp hj with hj | hj
        · exact .inl hj
        · rw [List.mem_singleton] at hj; cases hj
      · exact .inr hj
  off := by
    intro c H l y c' H' l' h
    obtain ⟨b, hb, h1⟩ := read0_ok (show M.read0 n k false c H l = .ok y c' H' l' from h)
    obtain ⟨rfl, t⟩ := (hk b).off h1
    refine ⟨rfl, fun l2 => ?_⟩
    obtain ⟨l3, h3⟩ := t ((n, false) :: l2)
    exact ⟨l3, by show M.read0 n k true c H ((n, false) :: l2) = _; rw [read0_of hb]; exact h3⟩

/-- What a write does with the row that is there: it fails, or writes, or takes away, and goes on. -/
inductive Writes (n : Nat) (F : Blk → M α) : Prop where
  | mk (h : ∀ b, F b = M.fail ∨ (∃ b' k, F b = M.put0 n (some b') k ∧ Framed k) ∨ (∃ k, F b = M.lt n (M.put0 n none k) ∧ Framed k))
theorem lt_ok {n : Nat} {m : M α} {g : Bool} {c : Nat} {H : Mem} {l : Log} {y : α} {c' : Nat} {H' : Mem} {l' : Log} (h : M.lt n m g c H l = .ok y c' H' l') : n < c ∧ m g c H l = .ok y c' H' l' := by
  unfold M.lt at h
  rcases blt_cases n c with ⟨e, h2⟩ | ⟨e, h2⟩
  · rw [e] at h; exact ⟨h2, h⟩
  · rw [e] at h; cases h
theorem lt_of {n : Nat} {m : M α} {g : Bool} {c : Nat} {H : Mem} {l : Log} (h : n < c) : M.lt n m g c H l = m g c H l := by
  unfold M.lt
  rcases blt_cases n c with ⟨e, h2⟩ | ⟨e, h2⟩
  · rw [e]
  · omega
theorem put0_of {n : Nat} {o : Option Blk} {k : M α} {g : Bool} {c : Nat} {H : Mem} {l : Log} (hn : insOk 40 n = true ∧ 16 ≤ n) : ∃ H1 : Mem, (∀ j, H1.get j = if j = n then o else H.get j) ∧ M.put0 n o k g c H l = k g c H1 l := by
  unfold M.put0
  obtain ⟨t, ht, hs, hg⟩ := Trie.ins_spec o 40 H n
  rw [hn.1] at hs
  cases t with
  | none => cases hs
  | some t =>
    refine ⟨t, hg t rfl, ?_⟩
    rcases ble_cases 16 n with ⟨e, h2⟩ | ⟨e, h2⟩
    · rw [e]; show H.ins .no o 40 n (fun H => k g c H l) = _; rw [ht]; rfl
    · exact absurd hn.2 (by omega)
/-- What is done behind a row that was there. -/
theorem put_framed {n : Nat} {o : Option Blk} {k : M α} (hk : Framed k) {c : Nat} {H : Mem} {l : Log} {x : α} {c' : Nat} {H' : Mem} {l' : Log} (hb : H.get n ≠ none) (ho : o = none → n < c)
    (h : M.put0 n o k true c H l = .ok x c' H' l') : ∃ d : Log, l' = d ++ l ∧ c ≤ c' ∧
    (∀ j, c ≤ j → j < c' → H.get j = none) ∧ (∀ j, j ≠ n → (j, true) ∉ d → (j < c ∨ c' ≤ j) → H'.get j = H.get j) ∧ (∀ j, c' ≤ j → H'.get j = none → H.get j = none) ∧
    ∀ (H2 : Mem) (l2 : Log), (∀ j b, (j, b) ∈ d → H2.get j = H.get j) → H2.get n = H.get n → (∀ j, c ≤ j → j < c' → H2.get j = none) →
      ∃ H2', M.put0 n o k true c H2 l2 = .ok x c' H2' (d ++ l2) ∧ (∀ j, (j = n ∨ (j, true) ∈ d ∨ (c ≤ j ∧ j < c')) → H2'.get j = H'.get j) := by
  obtain ⟨H1, hg1, hok, h1⟩ := put0_ok h
  obtain ⟨d, rfl, hc, hn, hu, hkk, ha⟩ := hk.run h1
  have hnew : ∀ j, c ≤ j → j < c' → H.get j = none := fun j a b => by
    have := hn j a b
    rw [hg1] at this
    by_cases e : j = n
    · rw [if_pos e] at this
      have := ho this
      omega
    · rw [if_neg e] at this; exact this
  refine ⟨d, rfl, hc, hnew, fun j e hd hj => by rw [hu j hd hj, hg1, if_neg e], fun j hj h0 => ?_, fun H2 l2 hag hagn hno => ?_⟩
  · have := hkk j hj h0
    rw [hg1] at this
    by_cases e : j = n
    · rw [if_pos e] at this
      have := ho this
      omega
    · rw [if_neg e] at this; exact this
  · obtain ⟨K1, hK1, hput⟩ := put0_of (o := o) (k := k) (g := true) (c := c) (H := H2) (l := l2) hok
    obtain ⟨K2, hK2, hk2⟩ := ha K1 l2 (fun j b hb => by
        rw [hK1, hg1]
        by_cases e : j = n
        · rw [if_pos e, if_pos e]
        · rw [if_neg e, if_neg e]; exact hag j b hb) (fun j a b => by
        rw [hK1]
        by_cases e : j = n
        · have := hnew j a b
          rw [e] at this
          exact absurd this hb
        · rw [if_neg e]; exact hno j a b)
    refine ⟨K2, by rw [hput, hK2], fun j hj => ?_⟩
    by_cases hw : (j, true) ∈ d ∨ (c ≤ j ∧ j < c')
    · exact hk2 j hw
    · rw [not_or] at hw
      have hjn : j = n := by
        rcases hj with hj | hj | hj
        · exact hj
        · exact absurd hj hw.1
        · exact absurd hj hw.2
      obtain ⟨e2, he2, -, -, hLu, -, -⟩ := hk.run hK2
      have hee : e2 = d := (List.append_cancel_right he2).symm
      rw [hee] at hLu
      rw [hLu j hw.1 (by omega), hu j hw.1 (by omega), hK1, hg1, hjn, if_pos rfl, if_pos rfl]
theorem Framed.write {n : Nat} {F : Blk → M α} (hF : Writes n F) : Framed (M.log n true (M.read0 n F)) where
  run := by
    intro c H l y c' H' l' h
    obtain ⟨b, hb, h1⟩ := read0_ok (show M.read0 n F true c H ((n, true) :: l) = .ok y c' H' l' from h)
    have hb0 : H.get n ≠ none := by rw [hb]; simp
    have key : ∀ (o : Option Blk) (k : M α), Framed k → (o = none → n < c) → (∀ c2 H2 l2, H2.get n = some b → c2 = c → F b true c2 H2 l2 = M.put0 n o k true c2 H2 l2) →
        ∃ d : Log, l' = d ++ l ∧ c ≤ c' ∧ (∀ n, c ≤ n → n < c' → H.get n = none) ∧ (∀ n, (n, true) ∉ d → (n < c ∨ c' ≤ n) → H'.get n = H.get n) ∧ (∀ n, c' ≤ n → H'.get n = none → H.get n = none) ∧
        ∀ (H2 : Mem) (l2 : Log), (∀ n b, (n, b) ∈ d → H2.get n = H.get n) → (∀ n, c ≤ n → n < c' → H2.get n = none) →
          ∃ H2', M.log n true (M.read0 n F) true c H2 l2 = .ok y c' H2' (d ++ l2) ∧ (∀ n, ((n, true) ∈ d ∨ (c ≤ n ∧ n < c')) → H2'.get n = H'.get n) := fun o k hk ho hFk => by
      rw [hFk c H _ hb rfl] at h1
      obtain ⟨d, rfl, hc, hn, hu, hkk, ha⟩ := put_framed hk hb0 ho h1
      refine ⟨d ++ [(n, true)], by simp, hc, hn, fun j hj hjc => hu j (fun e => hj (List.mem_append_right _ (by rw [e]; exact List.mem_singleton.mpr rfl))) (fun hm => hj (List.mem_append_left _ hm)) hjc, hkk, ?_⟩
      intro H2 l2 hag hno
      have hb2 : H2.get n = some b := by rw [hag n true (List.mem_append_right _ (List.mem_singleton.mpr rfl))]; exact hb
      obtain ⟨K, hK, hk2⟩ := ha H2 ((n, true) :: l2) (fun j b hb => hag j b (List.mem_append_left _ hb)) (by rw [hb2, hb]) hno
      refine ⟨K, ?_, fun j hj => hk2 j ?_⟩
      · show M.read0 n F true c H2 ((n, true) :: l2) = _
        rw [read0_of hb2, hFk c H2 _ hb2 rfl, hK]; simp
      · rcases hj with hj | hj
        · rcases List.mem_append.mp hj with hj | hj
          · exact .inr (.inl hj)
          · rw [List.mem_singleton] at hj; exact .inl (Prod.mk.inj hj).1
        · exact .inr (.inr hj)
    obtain ⟨hF⟩ := hF
    rcases hF b with e | ⟨b', k, e, hk⟩ | ⟨k, e, hk⟩
    · rw [e] at h1; cases h1
    · exact key (some b') k hk (fun h => by cases h) (fun c2 H2 l2 _ _ => by rw [e])
    · rw [e] at h1
      have hlt := (lt_ok h1).1
      exact key none k hk (fun _ => hlt) (fun c2 H2 l2 _ hc2 => by rw [e, lt_of (by omega)])
  off := by
    intro c H l y c' H' l' h
    obtain ⟨b, hb, h1⟩ := read0_ok (show M.read0 n F false c H l = .ok y c' H' l' from h)
    obtain ⟨hF⟩ := hF
    have go : ∀ (o : Option Blk) (k : M α), Framed k → M.put0 n o k false c H l = .ok y c' H' l' → l' = l ∧ ∀ l2, ∃ l3, M.put0 n o k true c H l2 = .ok y c' H' l3 := fun o k hk h2 => by
      unfold M.put0 at h2 ⊢
      rcases ble_cases 16 n with ⟨e, h3⟩ | ⟨e, h3⟩
      · rw [e] at h2 ⊢
        replace h2 : H.ins .no o 40 n (fun H => k false c H l) = .ok y c' H' l' := h2
        show l' = l ∧ ∀ l2, ∃ l3, H.ins .no o 40 n (fun H => k true c H l2) = .ok y c' H' l3
        obtain ⟨t, ht, hs, hg⟩ := Trie.ins_spec o 40 H n
        rw [ht] at h2
        cases t with
        | none => cases h2
        | some t =>
          obtain ⟨rfl, tt⟩ := hk.off h2
          exact ⟨rfl, fun l2 => by rw [ht]; exact tt l2⟩
      · rw [e] at h2; cases h2
    have fin : ∀ l2, (∃ l3, F b true c H ((n, true) :: l2) = .ok y c' H' l3) → ∃ l3, M.log n true (M.read0 n F) true c H l2 = .ok y c' H' l3 := fun l2 ⟨l3, h3⟩ =>
      ⟨l3, by show M.read0 n F true c H ((n, true) :: l2) = _; rw [read0_of hb]; exact h3⟩
    rcases hF b with e | ⟨b', k, e, hk⟩ | ⟨k, e, hk⟩
    · rw [e] at h1; cases h1
    · rw [e] at h1 fin
      obtain ⟨rfl, t⟩ := go _ k hk h1
      exact ⟨rfl, fun l2 => fin l2 (t _)⟩
    · rw [e] at h1 fin
      obtain ⟨hlt, h2⟩ := lt_ok h1
      obtain ⟨rfl, t⟩ := go _ k hk h2
      exact ⟨rfl, fun l2 => fin l2 (by rw [lt_of hlt]; exact t _)⟩
/-- A row is made. -/
theorem new_ok {b : Blk} {k : Nat → M α} {g : Bool} {c : Nat} {H : Mem} {l : Log} {y : α} {c' : Nat} {H' : Mem} {l' : Log} (h : M.new b k g c H l = .ok y c' H' l') :
    ∃ H1 : Mem, H.get c = none ∧ c < big ∧ insOk 40 c = true ∧ (∀ j, H1.get j = if j = c then some b else H.get j) ∧ k c g (c + 1) H1 l = .ok y c' H' l' := by
  unfold M.new at h
  cases hc : H.get c with
  | some x => rw [hc] at h; cases h
  | none =>
    rw [hc] at h
    simp only at h
    rcases blt_cases c big with ⟨e, h2⟩ | ⟨e, h2⟩
    · rw [e] at h
      simp only at h
      obtain ⟨t, ht, hs, hg⟩ := Trie.ins_spec (some b) 40 H c
      rw [ht] at h
      cases t with
      | none => cases h
      | some t => exact ⟨t, rfl, h2, by rw [← hs]; rfl, hg t rfl, h⟩
    · rw [e] at h; cases h
theorem new_of {b : Blk} {k : Nat → M α} {g : Bool} {c : Nat} {H : Mem} {l : Log} (h1 : H.get c = none) (h2 : c < big) (h3 : insOk 40 c = true) :
    ∃ H1 : Mem, (∀ j, H1.get j = if j = c then some b else H.get j) ∧ M.new b k g c H l = k c g (c + 1) H1 l := by
  unfold M.new
  rw [h1]
  simp only
  rcases blt_cases c big with ⟨e, h⟩ | ⟨e, h⟩
  · rw [e]
    simp only
    obtain ⟨t, ht, hs, hg⟩ := Trie.ins_spec (some b) 40 H c
    rw [h3] at hs
    cases t with
    | none => cases hs
    | some t => exact ⟨t, hg t rfl, by rw [ht]; rfl⟩
  · omega
theorem Framed.new {b : Blk} {k : Nat → M α} (hk : ∀ n, Framed (k n)) : Framed (M.new b k) where
  run := by
    intro c H l y c' H' l' h
    obtain ⟨H1, h0, hbig, hok, hg1, h1⟩ := new_ok h
    obtain ⟨d, rfl, hc, hn, hu, hkk, ha⟩ := (hk c).run h1
    refine ⟨d, rfl, by omega, fun j a b => ?_, fun j hd hj => ?_, fun j hj hz => ?_, fun H2 l2 hag hno => ?_⟩
    · by_cases e : j = c
      · rw [e]; exact h0
      · have := hn j (by omega) b
        rw [hg1, if_neg e] at this; exact this
    · rw [hu j hd (by omega), hg1, if_neg (by omega)]
    · have := hkk j hj hz
      rw [hg1] at this
      by_cases e : j = c
      · rw [if_pos e] at this; cases this
      · rw [if_neg e] at this; exact this
    · obtain ⟨K1, hK1, hnew⟩ := new_of (b := b) (k := k) (g := true) (l := l2) (hno c (Nat.le_refl _) (by omega)) hbig hok
      obtain ⟨K2, hK2, hk2⟩ := ha K1 l2 (fun j b hb => by
          rw [hK1, hg1]
          by_cases e : j = c
          · rw [if_pos e, if_pos e]
          · rw [if_neg e, if_neg e]; exact hag j b hb) (fun j a b => by rw [hK1, if_neg (by omega)]; exact hno j (by omega) b)
      refine ⟨K2, by rw [hnew, hK2], fun j hj => ?_⟩
      by_cases hw : (j, true) ∈ d ∨ (c + 1 ≤ j ∧ j < c')
      · exact hk2 j hw
      · rw [not_or] at hw
        have hjn : j = c := by
          rcases hj with hj | hj
          · exact absurd hj hw.1
          · have := hw.2; omega
        obtain ⟨e2, he2, -, -, hLu, -, -⟩ := (hk c).run hK2
        have hee : e2 = d := (List.append_cancel_right he2).symm
        rw [hee] at hLu
        rw [hLu j hw.1 (by omega), hu j hw.1 (by omega), hK1, hg1, hjn, if_pos rfl, if_pos rfl]
  off := by
    intro c H l y c' H' l' h
    obtain ⟨H1, h0, hbig, hok, hg1, h1⟩ := new_ok h
    unfold M.new at h ⊢
    rw [h0] at h ⊢
    simp only at h ⊢
    rcases blt_cases c big with ⟨e, h2⟩ | ⟨e, h2⟩
    · rw [e] at h ⊢
      simp only at h ⊢
      obtain ⟨t, ht, hs, hg⟩ := Trie.ins_spec (some b) 40 H c
      rw [ht] at h
      cases t with
      | none => cases h
      | some t =>
        obtain ⟨rfl, tt⟩ := (hk c).off h
        exact ⟨rfl, fun l2 => by rw [ht]; exact tt l2⟩
    · omega
end
end Go.Proofs.YtedipingocmmdaaGreat.Ev


/- An evaluator of calls: operations that are in no order may change places. -/
import Derived.Test.YtedipingocmmdaaGreatEvS9
namespace Go.Proofs.YtedipingocmmdaaGreat.Ev
open Go Go.RowKit

/-- An operation looks at its operands alone. -/
def Looks (op : Opn) (xs : List Operand) : Prop := ∀ (e e' : Operand → Value) (cl : CL), (∀ x ∈ xs, e x = e' x) → op e cl = op e' cl
theorem evalO_congr {T T' : Trie Value} {x : Operand} (h : ∀ t, x = .tmp t → T.get t = T'.get t) : evalO T x = evalO T' x := by
  cases x with
  | tmp t => exact congrArg (fun o : Option Value => (Option.rec undef (fun v => v) o : Value)) (h t rfl)
  | _ => rfl
theorem wanted_congr {T T' : Trie Value} {g : Option (Nat × Bool)} (h : ∀ t b, g = some (t, b) → T.get t = T'.get t) : wantedT T g = wantedT T' g := by
  cases g with
  | none => rfl
  | some p =>
    obtain ⟨t, b⟩ := p
    exact congrArg (fun o : Option Value => (Option.rec false (fun v => onBool v false fun c => c == b) o : Bool)) (h t b rfl)
/-- What an operation of a region looks at: its operands, its guard. -/
structure SLooks (s : SOper) (ts : List Nat) : Prop where
  op : ∃ xs, Looks s.op xs ∧ ∀ t, .tmp t ∈ xs → t ∈ ts
  guard : ∀ t b, s.guard = some (t, b) → t ∈ ts
theorem evVal_congr {cl : CL} {s : SOper} {ts : List Nat} (hs : SLooks s ts) {T T' : Trie Value} (h : ∀ t ∈ ts, T.get t = T'.get t) : evVal cl T s = evVal cl T' s := by
  unfold evVal
  obtain ⟨xs, hl, hx⟩ := hs.op
  rw [wanted_congr (T := T) (T' := T') (fun t b hg => h t (hs.guard t b hg)), hl (evalO T) (evalO T') cl (fun x hm => evalO_congr fun t ht => h t (hx t (ht ▸ hm)))]
/-- An operation of a region: what it looks at, its names, its log. -/
structure Item where
  s : SOper
  ts : List Nat
  c : Nat
  d : Nat
  l : Log
/-- A step: an operation's value, put down. -/
def StepR (cl : CL) (x : Item) (τ : Nat → Option Value) (H : Mem) (τ' : Nat → Option Value) (H' : Mem) : Prop :=
  ∃ T v, (∀ t, T.get t = τ t) ∧ evVal cl T x.s true x.c H [] = .ok v x.d H' x.l ∧ ∀ j, τ' j = if x.s.dst = some j then some v else τ j
def Chain (cl : CL) : List Item → (Nat → Option Value) → Mem → (Nat → Option Value) → Mem → Prop
  | [], τ, H, τ', H' => τ = τ' ∧ ∀ n, H.get n = H'.get n
  | x :: r, τ, H, τ', H' => ∃ τ1 H1, StepR cl x τ H τ1 H1 ∧ Chain cl r τ1 H1 τ' H'
/-- Two operations have nothing to do with each other. -/
structure Ind (x y : Item) : Prop where
  r1 : ∀ d, x.s.dst = some d → d ∉ y.ts ∧ y.s.dst ≠ some d
  r2 : ∀ d, y.s.dst = some d → d ∉ x.ts
  logs : ∀ n a b, (n, a) ∈ x.l → (n, b) ∈ y.l → a = false ∧ b = false
  n1 : ∀ n a, (n, a) ∈ y.l → n < x.c ∨ x.d ≤ n
  n2 : ∀ n a, (n, a) ∈ x.l → n < y.c ∨ y.d ≤ n
  names : ∀ n, x.c ≤ n → n < x.d → n < y.c ∨ y.d ≤ n
/-- An item is as it should be. -/
structure ItemOk (cl : CL) (x : Item) : Prop where
  fr : ∀ T, Framed (evVal cl T x.s)
  lk : SLooks x.s x.ts
  ds : ∀ d, x.s.dst = some d → insOk 20 d = true
theorem put_trie {T : Trie Value} {o : Option Nat} {u : Value} (h : ∀ d, o = some d → insOk 20 d = true) : ∃ T' : Trie Value, ∀ j, T'.get j = if o = some j then some u else T.get j := by
  cases o with
  | none => exact ⟨T, fun j => by rw [if_neg (by simp)]⟩
  | some d =>
    obtain ⟨t, ht, hs, hg⟩ := Trie.ins_spec (some u) 20 T d
    rw [h d rfl] at hs
    cases t with
    | none => cases hs
    | some t => exact ⟨t, fun j => by
        rw [hg t rfl]
        by_cases e : j = d
        · rw [if_pos e, if_pos (by rw [e])]
        · rw [if_neg e, if_neg (by intro h; injection h with h; exact e h.symm)]⟩
section
variable {cl : CL}
theorem step_congr {x : Item} (hx : ItemOk cl x) {τ τ' : Nat → Option Value} {H H' K : Mem} (h : StepR cl x τ H τ' H') (hk : ∀ n, H.get n = K.get n) : ∃ K', StepR cl x τ K τ' K' ∧ ∀ n, H'.get n = K'.get n := by
  obtain ⟨T, v, hT, hr, hd⟩ := h
  obtain ⟨d, hd2, hc, hn, hu, hkk, ha⟩ := (hx.fr T).run hr
  rw [List.append_nil] at hd2
  subst hd2
  obtain ⟨K', hK, hag⟩ := ha K [] (fun n b _ => (hk n).symm) (fun n a b => by rw [← hk]; exact hn n a b)
  rw [List.append_nil] at hK
  refine ⟨K', ⟨T, v, hT, hK, hd⟩, fun n => ?_⟩
  by_cases hw : (n, true) ∈ x.l ∨ (x.c ≤ n ∧ n < x.d)
  · exact (hag n hw).symm
  · rw [not_or] at hw
    obtain ⟨e2, he2, -, -, hLu, -, -⟩ := (hx.fr T).run hK
    rw [List.append_nil] at he2
    rw [← he2] at hLu
    rw [hu n hw.1 (by omega), hLu n hw.1 (by omega), hk]
theorem chain_congr : ∀ {L : List Item}, (∀ x ∈ L, ItemOk cl x) → ∀ {τ τ' : Nat → Option Value} {H H' K : Mem}, Chain cl L τ H τ' H' → (∀ n, H.get n = K.get n) → Chain cl L τ K τ' H'
  | [], _, _, _, _, _, _, h, hk => ⟨h.1, fun n => (hk n).symm.trans (h.2 n)⟩
  | x :: r, hf, _, _, _, _, _, ⟨τ1, H1, h1, h2⟩, hk => by
    obtain ⟨K1, k1, k2⟩ := step_congr (hf x (List.mem_cons_self ..)) h1 hk
    exact ⟨τ1, K1, k1, chain_congr (fun y hy => hf y (List.mem_cons_of_mem _ hy)) h2 k2⟩
theorem step_swap {x y : Item} (hx : ItemOk cl x) (hy : ItemOk cl y) (hi : Ind x y) {τ τ1 τ2 : Nat → Option Value} {H H1 H2 : Mem} (h1 : StepR cl x τ H τ1 H1) (h2 : StepR cl y τ1 H1 τ2 H2) :
    ∃ τ' H' H2', StepR cl y τ H τ' H' ∧ StepR cl x τ' H' τ2 H2' ∧ ∀ n, H2.get n = H2'.get n := by
  obtain ⟨T, v, hT, hr, hd⟩ := h1
  obtain ⟨T1, u, hT1, hr1, hd1⟩ := h2
  obtain ⟨d, hd2, hc, hn, hu, hkk, ha⟩ := (hx.fr T).run hr
  rw [List.append_nil] at hd2
  subst hd2
  -- the second one sees what it saw
  have e1 : evVal cl T1 y.s = evVal cl T y.s := evVal_congr hy.lk fun t ht => by
    rw [hT1, hT, hd, if_neg]
    intro e
    exact (hi.r1 t e).1 ht
  rw [e1] at hr1
  obtain ⟨d', hd2', hc', hn', hu', hkk', ha'⟩ := (hy.fr T).run hr1
  rw [List.append_nil] at hd2'
  subst hd2'
  obtain ⟨K, hK, hKag⟩ := ha' H [] (fun n b hb => by
      refine (hu n (fun hm => ?_) (hi.n1 n b hb)).symm
      have := (hi.logs n true b hm hb).1
      cases this) (fun n a b => by
      have h0 := hn' n a b
      by_cases hm : (n, true) ∈ x.l
      · have := hi.n2 n true hm
        omega
      · by_cases hr : x.c ≤ n ∧ n < x.d
        · exact hn n hr.1 hr.2
        · rw [← hu n hm (by omega)]; exact h0)
  rw [List.append_nil] at hK
  obtain ⟨e2, he2, -, -, hKu, -, -⟩ := (hy.fr T).run hK
  rw [List.append_nil] at he2
  rw [← he2] at hKu
  -- the first one behind it
  obtain ⟨K2, hK2, hK2ag⟩ := ha K [] (fun n b hb => by
      refine hKu n (fun hm => ?_) (hi.n2 n b hb)
      have := (hi.logs n b true hb hm).2
      cases this) (fun n a b => by
      by_cases hm : (n, true) ∈ y.l
      · have := hi.n1 n true hm
        omega
      · rw [hKu n hm (hi.names n a b)]; exact hn n a b)
  rw [List.append_nil] at hK2
  obtain ⟨e3, he3, -, -, hK2u, -, -⟩ := (hx.fr T).run hK2
  rw [List.append_nil] at he3
  rw [← he3] at hK2u
  obtain ⟨T2, hT2⟩ := put_trie (T := T) (u := u) hy.ds
  refine ⟨T2.get, K, K2, ⟨T, u, hT, hK, fun j => by rw [hT2, hT]⟩, ⟨T2, v, fun _ => rfl, ?_, fun j => ?_⟩, fun n => ?_⟩
  · rw [evVal_congr hx.lk (T' := T) fun t ht => by
      rw [hT2, if_neg]
      intro e
      exact hi.r2 t e ht]
    exact hK2
  · rw [hd1, hd, hT2, hT]
    by_cases e1 : x.s.dst = some j
    · rw [if_pos e1, if_neg (hi.r1 j e1).2, if_pos e1]
    · rw [if_neg e1, if_neg e1]
  · by_cases w2 : (n, true) ∈ y.l ∨ (y.c ≤ n ∧ n < y.d)
    · -- written by the second
      have h1 : H2.get n = K.get n := (hKag n w2).symm
      rw [h1]
      refine (hK2u n (fun hm => ?_) ?_).symm
      · rcases w2 with w2 | w2
        · have := (hi.logs n true true hm w2).1; cases this
        · have := hi.n2 n true hm; omega
      · rcases w2 with w2 | w2
        · exact hi.n1 n true w2
        · by_cases hr : x.c ≤ n ∧ n < x.d
          · have := hi.names n hr.1 hr.2; omega
          · omega
    · rw [not_or] at w2
      rw [hu' n w2.1 (by omega)]
      by_cases w1 : (n, true) ∈ x.l ∨ (x.c ≤ n ∧ n < x.d)
      · exact (hK2ag n w1).symm
      · rw [not_or] at w1
        rw [hu n w1.1 (by omega), hK2u n w1.1 (by omega), hKu n w2.1 (by omega)]
theorem move_front {a : Item} (ha : ItemOk cl a) : ∀ {pre post : List Item}, (∀ x ∈ pre, ItemOk cl x) → (∀ x ∈ post, ItemOk cl x) → (∀ x ∈ pre, Ind x a) → ∀ {τ τ' : Nat → Option Value} {H H' : Mem}, Chain cl (pre ++ a :: post) τ H τ' H' → Chain cl (a :: (pre ++ post)) τ H τ' H'
  | [], _, _, _, _, _, _, _, _, h => h
  | x :: pre, post, hp, hq, hi, _, _, _, _, ⟨τ1, H1, h1, h2⟩ => by
    obtain ⟨τ2, H2, k1, k2⟩ := move_front ha (pre := pre) (post := post) (fun y hy => hp y (List.mem_cons_of_mem _ hy)) hq (fun y hy => hi y (List.mem_cons_of_mem _ hy)) h2
    obtain ⟨τ3, K, K2, s1, s2, s3⟩ := step_swap (hp x (List.mem_cons_self ..)) ha (hi x (List.mem_cons_self ..)) h1 k1
    refine ⟨τ3, K, s1, τ2, K2, s2, chain_congr (fun y hy => ?_) k2 s3⟩
    rcases List.mem_append.mp hy with hy | hy
    · exact hp y (List.mem_cons_of_mem _ hy)
    · exact hq y hy
end
end Go.Proofs.YtedipingocmmdaaGreat.Ev


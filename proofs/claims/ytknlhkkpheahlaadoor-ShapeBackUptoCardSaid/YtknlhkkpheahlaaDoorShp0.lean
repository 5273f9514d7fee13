/- Plain: a shape's line, written and read. -/
import Derived.Test.YtknlhkkpheahlaaDoorFld
import Derived.Test.YtknlhkkpheahlaaDoorKnd
import Derived.Test.YtknlhkkpheahlaaDoorNumb
import Derived.Test.YtknlhkkpheahlaaDoorSep
namespace Go.Proofs.YtknlhkkpheahlaaDoor
open Go.RowKit Go.Sort

def cutN (word : ByteArray) : ByteArray := ⟨(Lib.cut word.data.toList [61]).1.toArray⟩
def cutV (word : ByteArray) : ByteArray := ⟨(Lib.cut word.data.toList [61]).2.1.toArray⟩
theorem cut_sizes (word : ByteArray) : (cutN word).size ≤ word.size ∧ (cutV word).size ≤ word.size := by
  have e : ∀ l : List UInt8, (⟨l.toArray⟩ : ByteArray).size = l.length := fun l => rfl
  unfold cutN cutV Lib.cut
  split
  · constructor
    · rw [e, List.length_take]; exact Nat.min_le_right _ _
    · rw [e, List.length_drop]; exact Nat.sub_le _ _
  · constructor
    · exact Nat.le_refl _
    · exact Nat.zero_le _

def startS : ByteArray := ⟨#[115, 116, 97, 114, 116]⟩

/-- What a word of a line says: its name, which field it is of (none: a start), the number; none: it may not be. -/
def setS (seen : List ByteArray) (word : ByteArray) : Option (ByteArray × Option Nat × Nat) :=
  match numS (cutV word) with
  | none => none
  | some n => if cutN word = startS then some (startS, none, n) else match fldIdx (cutN word) with
    | none => none
    | some i => if Lib.containsS seen (cutN word) = true then none else some (cutN word, some i, n)

def Cfg.put (d : Cfg) (i : Nat) (n : Int) : Cfg := match i with
  | 0 => { d with threads := n }
  | 1 => { d with chans := n }
  | 2 => { d with cap := n }
  | 3 => { d with nodes := n }
  | 4 => { d with retire := n }
  | 5 => { d with patience := n }
  | 6 => { d with tags := n }
  | 7 => { d with seqs := n }
  | _ => { d with gens := n }
theorem cfg_put (d : Cfg) (n : Int) : ∀ i, i < 9 → (cfgCells d).set (i + 1) (.int .i64 n) = cfgCells (d.put i n)
  | 0, _ | 1, _ | 2, _ | 3, _ | 4, _ | 5, _ | 6, _ | 7, _ | 8, _ => rfl
theorem cfg_old (d : Cfg) : ∀ i, i < 9 → ∃ z, (cfgCells d)[i + 1]? = some (.int .i64 z)
  | 0, _ | 1, _ | 2, _ | 3, _ | 4, _ | 5, _ | 6, _ | 7, _ | 8, _ => ⟨_, rfl⟩
theorem put_start (d : Cfg) (n : Int) : ∀ i, (d.put i n).start = d.start ∧ (d.put i n).sa = d.sa ∧ (d.put i n).sc = d.sc ∧ (d.put i n).kind = d.kind
  | 0 | 1 | 2 | 3 | 4 | 5 | 6 | 7 | _ + 8 => ⟨rfl, rfl, rfl, rfl⟩

/-- The same shape, its starts lying nowhere. -/
def Cfg.norm (d : Cfg) : Cfg := { d with sa := none, sc := 0 }
theorem norm_put (d : Cfg) (n : Int) : ∀ i, (d.put i n).norm = d.norm.put i n
  | 0 | 1 | 2 | 3 | 4 | 5 | 6 | 7 | _ + 8 => rfl
theorem norm_chk (d : Cfg) : chkB d.norm = chkB d := rfl

def putR (d : Cfg) (seen : List ByteArray) : Option (ByteArray × Option Nat × Nat) → Option (Cfg × List ByteArray)
  | none => none
  | some (name, none, n) => some ({ d with start := d.start ++ [(n : Int)] }, seen ++ [name])
  | some (name, some i, n) => some (d.put i n, seen ++ [name])
def stepR (st : Option (Cfg × List ByteArray)) (word : ByteArray) : Option (Cfg × List ByteArray) := st.bind fun p => putR p.1 p.2 (setS p.2 word)
def foldR (k : Int) (ws : List ByteArray) : Option (Cfg × List ByteArray) := ws.foldl stepR (some (plainC k, []))
def wordsR (s : ByteArray) : List ByteArray := Lib.splitB ⟨#[32]⟩ 0 (Lib.countB s ⟨#[32]⟩) s
def shapeR (k : Int) (ws : List ByteArray) : Option Cfg := match foldR k ws with
  | none => none
  | some (d, _) => if chkB d = true then some d else none
/-- The shape that a line says. -/
def readS (s : ByteArray) : Option Cfg := if kindOf ((wordsR s).getD 0 ⟨#[]⟩) = 0 ∨ 400 < s.size then none else shapeR (kindOf ((wordsR s).getD 0 ⟨#[]⟩)) (wordsR s).tail

def fldVal (c : Cfg) (i : Nat) : Int := match i with
  | 0 => c.threads
  | 1 => c.chans
  | 2 => c.cap
  | 3 => c.nodes
  | 4 => c.retire
  | 5 => c.patience
  | 6 => c.tags
  | 7 => c.seqs
  | _ => c.gens
theorem fld_cell (c : Cfg) : ∀ i, i < 9 → (cfgCells c)[i + 1]? = some (.int .i64 (fldVal c i))
  | 0, _ | 1, _ | 2, _ | 3, _ | 4, _ | 5, _ | 6, _ | 7, _ | 8, _ => rfl
def fldWd (k : Nat) (n : Int) : ByteArray := fldNames.getD k ⟨#[]⟩ ++ ⟨#[61]⟩ ++ itoaS n
def startW (n : Int) : ByteArray := ⟨#[115, 116, 97, 114, 116, 61]⟩ ++ itoaS n
def shown (c : Cfg) (k : Nat) : Bool := c.kind == 3 || (k != 1 && k != 8)
def fldsTo (c : Cfg) : Nat → List ByteArray
  | 0 => [kindS c.kind]
  | k + 1 => if shown c k = true then fldsTo c k ++ [fldWd k (fldVal c k)] else fldsTo c k
def wordsS (c : Cfg) : List ByteArray := fldsTo c 9 ++ c.start.map startW
/-- A shape's line. -/
def shpT (c : Cfg) : ByteArray := ⟨(Lib.join ((wordsS c).map (·.data.toList)) [32]).toArray⟩
def shpTB (c : Cfg) : ByteArray := if chkB c = true then shpT c else ⟨#[]⟩

/-! The way back. -/
def N32 (n : Int) : Prop := 0 ≤ n ∧ n ≤ 4294967295
theorem num_itoa {n : Int} (h : N32 n) : numS (itoaS n) = some n.toNat := by
  obtain ⟨h1, h2⟩ := h
  obtain ⟨m, rfl⟩ := Int.eq_ofNat_of_zero_le h1
  have hi : itoaS (m : Int) = udecS m := by unfold itoaS udecS; rw [Lib.itoa_nonneg]
  have hp : puS (udecS m) = some m := by
    unfold puS udecS
    rw [bytes_l, pu32_dec m (by omega)]
  unfold numS
  rw [hi, hp]
  simp

theorem itoa_digits {n : Int} (h : N32 n) : ∀ b ∈ (itoaS n).data.toList, 48 ≤ b.toNat ∧ b.toNat ≤ 57 := by
  obtain ⟨h1, h2⟩ := h
  obtain ⟨m, rfl⟩ := Int.eq_ofNat_of_zero_le h1
  unfold itoaS
  rw [Lib.itoa_nonneg, bytes_l]
  exact dec_digit m
theorem itoa_short {n : Int} (h : N32 n) : (itoaS n).data.toList.length ≤ 10 := by
  obtain ⟨h1, h2⟩ := h
  obtain ⟨m, rfl⟩ := Int.eq_ofNat_of_zero_le h1
  unfold itoaS
  rw [Lib.itoa_nonneg, bytes_l]
  exact dec_len 10 m (by omega) (by omega)

theorem cut_word (name v : ByteArray) (h : (61 : UInt8) ∉ name.data.toList) : cutN (name ++ ⟨#[61]⟩ ++ v) = name ∧ cutV (name ++ ⟨#[61]⟩ ++ v) = v := by
  have e : (name ++ ⟨#[61]⟩ ++ v).data.toList = name.data.toList ++ 61 :: v.data.toList := by simp [ByteArray.data_append]
  unfold cutN cutV
  rw [e, cut_at _ _ _ h]
  simp
theorem names_fine : ∀ k, k < 9 → (61 : UInt8) ∉ (fldNames.getD k ⟨#[]⟩).data.toList ∧ (32 : UInt8) ∉ (fldNames.getD k ⟨#[]⟩).data.toList ∧ (fldNames.getD k ⟨#[]⟩).data.toList.length ≤ 8 ∧ fldNames.getD k ⟨#[]⟩ ≠ startS ∧ fldIdx (fldNames.getD k ⟨#[]⟩) = some k := by
  decide +kernel

theorem step_fld (d : Cfg) (seen : List ByteArray) (k : Nat) (n : Int) (hk : k < 9) (hn : N32 n) (hs : Lib.containsS seen (fldNames.getD k ⟨#[]⟩) = false) :
    stepR (some (d, seen)) (fldWd k n) = some (d.put k n, seen ++ [fldNames.getD k ⟨#[]⟩]) := by
  obtain ⟨h1, _, _, h2, h3⟩ := names_fine k hk
  obtain ⟨c1, c2⟩ := cut_word (fldNames.getD k ⟨#[]⟩) (itoaS n) h1
  have hset : setS seen (fldWd k n) = some (fldNames.getD k ⟨#[]⟩, some k, n.toNat) := by
    unfold setS fldWd
    rw [c2, num_itoa hn]
    simp only [c1]
    rw [if_neg h2, h3]
    simp only [hs]
    rfl
  show putR d seen (setS seen (fldWd k n)) = _
  rw [hset]
  show some (d.put k (n.toNat : Int), _) = _
  rw [Int.toNat_of_nonneg hn.1]
theorem start_split (n : Int) : startW n = startS ++ ⟨#[61]⟩ ++ itoaS n := rfl
theorem step_start (d : Cfg) (seen : List ByteArray) (n : Int) (hn : N32 n) :
    stepR (some (d, seen)) (startW n) = some ({ d with start := d.start ++ [n] }, seen ++ [startS]) := by
  obtain ⟨c1, c2⟩ := cut_word startS (itoaS n) (by decide +kernel)
  have hset : setS seen (startW n) = some (startS, none, n.toNat) := by
    unfold setS
    rw [start_split, c2, num_itoa hn]
    simp only [c1]
    rw [if_pos trivial]
  show putR d seen (setS seen (startW n)) = _
  rw [hset]
  show some ({ d with start := d.start ++ [(n.toNat : Int)] }, _) = _
  rw [Int.toNat_of_nonneg hn.1]
theorem fold_start : ∀ (l : List Int) (d : Cfg) (seen : List ByteArray), (∀ n ∈ l, N32 n) → ∃ seen', (l.map startW).foldl stepR (some (d, seen)) = some ({ d with start := d.start ++ l }, seen')
  | [], d, seen, _ => ⟨seen, by simp⟩
  | n :: l, d, seen, h => by
    obtain ⟨s', hs⟩ := fold_start l { d with start := d.start ++ [n] } (seen ++ [startS]) (fun m hm => h m (List.mem_cons_of_mem _ hm))
    refine ⟨s', ?_⟩
    rw [List.map_cons, List.foldl_cons, step_start d seen n (h n (List.mem_cons_self ..)), hs]
    simp

theorem chk_n32 {c : Cfg} (h : chkB c = true) : (∀ k, N32 (fldVal c k)) ∧ (∀ n ∈ c.start, N32 n) ∧ (c.kind = 3 ∨ ((c.kind = 1 ∨ c.kind = 2) ∧ c.chans = 0 ∧ c.gens = 0 ∧ c.start = [])) ∧ c.start.length ≤ 8 := by
  simp only [chkB, ownB, inB, Bool.and_eq_true, decide_eq_true_eq, Bool.or_eq_true, beq_iff_eq] at h
  obtain ⟨⟨⟨⟨⟨⟨h1, h2⟩, h3⟩, h4⟩, h5⟩, h6⟩, h7⟩ := h
  split at h7
  · rename_i hk
    simp only [Bool.and_eq_true, decide_eq_true_eq, beq_iff_eq] at h7
    obtain ⟨⟨⟨h8, h9⟩, h10⟩, h11⟩ := h7
    have h12 : c.start = [] := by
      apply List.eq_nil_of_length_eq_zero
      omega
    refine ⟨fun k => ?_, by rw [h12]; simp, .inr ⟨hk, h9, h10, h12⟩, by omega⟩
    unfold fldVal N32
    split <;> omega
  · split at h7
    · rename_i hk
      simp only [Bool.and_eq_true, decide_eq_true_eq, Bool.not_eq_true', List.any_eq_false, Bool.and_eq_false_iff] at h7
      obtain ⟨⟨⟨⟨h8, h9⟩, h10⟩, h11⟩, h12⟩ := h7
      refine ⟨fun k => ?_, fun n hn => ?_, .inl hk, by omega⟩
      · unfold fldVal N32
        split <;> omega
      · have := h12 n hn
        simp at this
        unfold N32
        omega
    · cases h7

theorem foldR_text {c : Cfg} (h : chkB c = true) : ∃ seen, foldR c.kind (wordsS c).tail = some (c.norm, seen) := by
  obtain ⟨hn, hs, hk, _⟩ := chk_n32 h
  rcases hk with hk | ⟨hk, h1, h2, h3⟩
  · have e : (wordsS c).tail = [fldWd 0 (fldVal c 0), fldWd 1 (fldVal c 1), fldWd 2 (fldVal c 2), fldWd 3 (fldVal c 3), fldWd 4 (fldVal c 4), fldWd 5 (fldVal c 5), fldWd 6 (fldVal c 6), fldWd 7 (fldVal c 7), fldWd 8 (fldVal c 8)] ++ c.start.map startW := by
      simp [wordsS, fldsTo, shown, hk]
    unfold foldR
    rw [e, List.foldl_append, List.foldl_cons, List.foldl_cons, List.foldl_cons, List.foldl_cons, List.foldl_cons, List.foldl_cons, List.foldl_cons, List.foldl_cons, List.foldl_cons, List.foldl_nil]
    rw [step_fld _ _ 0 _ (by omega) (hn 0) (by decide +kernel), step_fld _ _ 1 _ (by omega) (hn 1) (by decide +kernel), step_fld _ _ 2 _ (by omega) (hn 2) (by decide +kernel),
      step_fld _ _ 3 _ (by omega) (hn 3) (by decide +kernel), step_fld _ _ 4 _ (by omega) (hn 4) (by decide +kernel), step_fld _ _ 5 _ (by omega) (hn 5) (by decide +kernel),
      step_fld _ _ 6 _ (by omega) (hn 6) (by decide +kernel), step_fld _ _ 7 _ (by omega) (hn 7) (by decide +kernel), step_fld _ _ 8 _ (by omega) (hn 8) (by decide +kernel)]
    obtain ⟨s', hs'⟩ := fold_start c.start _ _ hs
    refine ⟨s', hs'.trans ?_⟩
    obtain ⟨kind, a0, a1, a2, a3, a4, a5, a6, a7, a8, st, sa, sc⟩ := c
    simp only at hk
    subst hk
    rfl
  · have e : (wordsS c).tail = [fldWd 0 (fldVal c 0), fldWd 2 (fldVal c 2), fldWd 3 (fldVal c 3), fldWd 4 (fldVal c 4), fldWd 5 (fldVal c 5), fldWd 6 (fldVal c 6), fldWd 7 (fldVal c 7)] := by
      have hk3 : (c.kind == 3) = false := by rw [beq_eq_false_iff_ne]; omega
      simp [wordsS, fldsTo, shown, hk3, h3]
    unfold foldR
    rw [e, List.foldl_cons, List.foldl_cons, List.foldl_cons, List.foldl_cons, List.foldl_cons, List.foldl_cons, List.foldl_cons, List.foldl_nil]
    rw [step_fld _ _ 0 _ (by omega) (hn 0) (by decide +kernel), step_fld _ _ 2 _ (by omega) (hn 2) (by decide +kernel),
      step_fld _ _ 3 _ (by omega) (hn 3) (by decide +kernel), step_fld _ _ 4 _ (by omega) (hn 4) (by decide +kernel), step_fld _ _ 5 _ (by omega) (hn 5) (by decide +kernel),
      step_fld _ _ 6 _ (by omega) (hn 6) (by decide +kernel), step_fld _ _ 7 _ (by omega) (hn 7) (by decide +kernel)]
    obtain ⟨kind, a0, a1, a2, a3, a4, a5, a6, a7, a8, st, sa, sc⟩ := c
    simp only at hk h1 h2 h3
    subst h1 h2 h3
    rcases hk with rfl | rfl
    · exact ⟨_, rfl⟩
    · exact ⟨_, rfl⟩

theorem fld_fine (k : Nat) (n : Int) (hk : k < 9) (hn : N32 n) : (32 : UInt8) ∉ (fldWd k n).data.toList ∧ (fldWd k n).data.toList.length ≤ 19 := by
  obtain ⟨_, h1, h2, _⟩ := names_fine k hk
  have hd := itoa_digits hn
  have hl := itoa_short hn
  have e : (fldWd k n).data.toList = (fldNames.getD k ⟨#[]⟩).data.toList ++ 61 :: (itoaS n).data.toList := by simp [fldWd, ByteArray.data_append]
  rw [e]
  refine ⟨?_, ?_⟩
  · rw [List.mem_append, List.mem_cons]
    rintro (h | h | h)
    · exact h1 h
    · revert h; decide
    · have := (hd _ h).1; revert this; decide
  · rw [List.length_append, List.length_cons]; omega
theorem start_fine (n : Int) (hn : N32 n) : (32 : UInt8) ∉ (startW n).data.toList ∧ (startW n).data.toList.length ≤ 19 := by
  have hd := itoa_digits hn
  have hl := itoa_short hn
  have e : (startW n).data.toList = [115, 116, 97, 114, 116, 61] ++ (itoaS n).data.toList := by simp [startW, ByteArray.data_append]
  rw [e]
  refine ⟨?_, ?_⟩
  · rw [List.mem_append]
    rintro (h | h)
    · revert h; decide
    · have := (hd _ h).1; revert this; decide
  · rw [List.length_append]
    show 6 + _ ≤ 19
    omega
theorem kind_fine (k : Int) : (32 : UInt8) ∉ (kindS k).data.toList ∧ (kindS k).data.toList.length ≤ 19 := by
  unfold kindS
  split
  · decide +kernel
  · split
    · decide +kernel
    · split <;> decide +kernel
theorem fldsTo_len (c : Cfg) : ∀ k, (fldsTo c k).length ≤ k + 1
  | 0 => Nat.le_refl _
  | k + 1 => by
    have ih := fldsTo_len c k
    rw [fldsTo]
    split
    · rw [List.length_append, List.length_singleton]; omega
    · omega
theorem fldsTo_fine (c : Cfg) (hn : ∀ k, N32 (fldVal c k)) : ∀ k, k ≤ 9 → ∀ x ∈ fldsTo c k, (32 : UInt8) ∉ x.data.toList ∧ x.data.toList.length ≤ 19
  | 0, _ => by
    intro x hx
    rw [fldsTo, List.mem_singleton] at hx
    subst hx
    exact kind_fine _
  | k + 1, hk => by
    intro x hx
    rw [fldsTo] at hx
    split at hx
    · rw [List.mem_append, List.mem_singleton] at hx
      rcases hx with hx | rfl
      · exact fldsTo_fine c hn k (by omega) x hx
      · exact fld_fine k _ (by omega) (hn k)
    · exact fldsTo_fine c hn k (by omega) x hx
theorem words_fine {c : Cfg} (h : chkB c = true) : (∀ x ∈ wordsS c, (32 : UInt8) ∉ x.data.toList ∧ x.data.toList.length ≤ 19) ∧ (wordsS c).length ≤ 18 := by
  obtain ⟨hn, hs, _, hl⟩ := chk_n32 h
  refine ⟨fun x hx => ?_, ?_⟩
  · rw [wordsS, List.mem_append, List.mem_map] at hx
    rcases hx with hx | ⟨n, hn', rfl⟩
    · exact fldsTo_fine c hn 9 (Nat.le_refl _) x hx
    · exact start_fine n (hs n hn')
  · have := fldsTo_len c 9
    rw [wordsS, List.length_append, List.length_map]
    omega
theorem fldsTo_head (c : Cfg) : ∀ k, ∃ r, fldsTo c k = kindS c.kind :: r
  | 0 => ⟨[], rfl⟩
  | k + 1 => by
    obtain ⟨r, hr⟩ := fldsTo_head c k
    rw [fldsTo]
    split
    · exact ⟨r ++ _, by rw [hr]; rfl⟩
    · exact ⟨r, hr⟩
theorem join_len (m : Nat) : ∀ (l : List (List UInt8)), (∀ x ∈ l, x.length ≤ m) → (Lib.joinTail [32] l).length ≤ l.length * (m + 1)
  | [], _ => by simp [Lib.joinTail]
  | x :: l, h => by
    have ih := join_len m l (fun y hy => h y (List.mem_cons_of_mem _ hy))
    have := h x (List.mem_cons_self ..)
    have e : Lib.joinTail [32] (x :: l) = 32 :: (x ++ Lib.joinTail [32] l) := by simp [Lib.joinTail]
    rw [e, List.length_cons, List.length_append, List.length_cons, Nat.add_mul]
    omega

theorem text_words {c : Cfg} (h : chkB c = true) : wordsR (shpT c) = wordsS c ∧ (shpT c).size ≤ 400 := by
  obtain ⟨hf, hl⟩ := words_fine h
  obtain ⟨r, hr⟩ := fldsTo_head c 9
  have hw : wordsS c = kindS c.kind :: (r ++ c.start.map startW) := by rw [wordsS, hr]; rfl
  generalize r ++ c.start.map startW = q at hw
  have e : shpT c = ⟨((kindS c.kind).data.toList ++ Lib.joinTail [32] (q.map (·.data.toList))).toArray⟩ := by
    unfold shpT
    rw [hw, List.map_cons, Lib.join_cons]
  have hq := split_join 32 (q.map (·.data.toList)) (kindS c.kind).data.toList (by
    intro y hy
    rw [← List.map_cons (f := fun x : ByteArray => x.data.toList), ← hw, List.mem_map] at hy
    obtain ⟨x, hx, rfl⟩ := hy
    exact (hf x hx).1)
  refine ⟨?_, ?_⟩
  · unfold wordsR
    rw [e, hq.1, hq.2, hw]
    simp [Function.comp_def]
  · have h1 := join_len 19 (q.map (·.data.toList)) (by
      intro y hy
      rw [List.mem_map] at hy
      obtain ⟨x, hx, rfl⟩ := hy
      exact (hf x (by rw [hw]; exact List.mem_cons_of_mem _ hx)).2)
    have h2 := (kind_fine c.kind).2
    rw [hw, List.length_cons] at hl
    rw [List.length_map] at h1
    rw [e]
    show (_ : Array UInt8).size ≤ 400
    rw [List.size_toArray, List.length_append]
    omega

theorem read_text {c : Cfg} (h : chkB c = true) : readS (shpT c) = some c.norm := by
  obtain ⟨hw, hz⟩ := text_words h
  obtain ⟨seen, hf⟩ := foldR_text h
  obtain ⟨_, _, hk, _⟩ := chk_n32 h
  obtain ⟨r, hr⟩ := fldsTo_head c 9
  have h0 : (wordsS c).getD 0 ⟨#[]⟩ = kindS c.kind := by rw [wordsS, hr]; rfl
  have hko : kindOf (kindS c.kind) = c.kind := kindOf_kindS (by omega)
  unfold readS
  rw [hw, h0, hko, if_neg (by omega)]
  unfold shapeR
  rw [hf]
  show (if chkB c.norm = true then some c.norm else none) = _
  rw [norm_chk, if_pos h]

theorem shapeR_chk {k : Int} {ws : List ByteArray} {d : Cfg} (h : shapeR k ws = some d) : chkB d = true := by
  unfold shapeR at h
  split at h
  · cases h
  · split at h
    · injection h with h; subst h; assumption
    · cases h
theorem readS_chk {s : ByteArray} {d : Cfg} (h : readS s = some d) : chkB d = true := by
  unfold readS at h
  split at h
  · cases h
  · exact shapeR_chk h

end Go.Proofs.YtknlhkkpheahlaaDoor

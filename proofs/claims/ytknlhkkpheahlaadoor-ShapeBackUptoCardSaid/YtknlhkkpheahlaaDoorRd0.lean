/- What stands while a shape's line is read: the shape's block, its starts, the names seen, the words. -/
import Derived.Test.YtknlhkkpheahlaaDoorSet
import Derived.Lib.SplitLaws
namespace Go.Proofs.YtknlhkkpheahlaaDoor
open Go.RowKit Go.Sort

/-- The pieces of a text, as words of strings.Split. -/
theorem piece_size (sep : ByteArray) : ∀ (k : Nat) (s : ByteArray), ∀ x ∈ Lib.splitB sep 0 k s, x.size ≤ s.size
  | 0, s, x, hx => by
    rw [Lib.splitB_zero, List.mem_singleton] at hx
    rw [hx]; exact Nat.le_refl _
  | k + 1, s, x, hx => by
    unfold Lib.splitB at hx
    split at hx
    · rw [List.mem_singleton] at hx
      rw [hx]; exact Nat.le_refl _
    · rw [List.mem_cons] at hx
      rcases hx with rfl | hx
      · rw [ByteArray.size_extract]; omega
      · have := piece_size sep k _ x hx
        rw [ByteArray.size_extract] at this
        omega
theorem wordsR_len (s : ByteArray) : (wordsR s).length = Lib.countB s ⟨#[32]⟩ + 1 := Lib.splitB_all ⟨#[32]⟩ (Nat.le_refl 1) 0 _ s rfl
theorem wordsR_le (s : ByteArray) : (wordsR s).length ≤ s.size + 1 := by
  rw [wordsR_len]
  exact Nat.succ_le_succ (Lib.countB_le ⟨#[32]⟩ (Nat.le_refl 1) s.size s (Nat.le_refl _))
theorem wordsR_size (s : ByteArray) : ∀ x ∈ wordsR s, x.size ≤ s.size := piece_size _ _ _

structure RIn (w0 : World) (L r g : Nat) (words : List ByteArray) (d : Cfg) (seen : List ByteArray) (A : Option Addr) (c : Nat) (wr : World) : Prop where
  blk : Blk wr g 45 (cfgCells d)
  st : wr.ownsRow w0.heap.size 3 1 (.slice d.sa d.start.length d.sc) d.start.length (ints d.start)
  sn : wr.ownsRow (L + 1) 9 1 (.slice A seen.length c) seen.length (rows seen)
  ws : Blk wr L 9 (words.map Value.string)
  rs : Blk wr r 45 (cfgCells (plainC 0))
  lowL : w0.heap.size ≤ L
  lowg : w0.heap.size ≤ g
  lowr : w0.heap.size ≤ r
  rg : r ≠ g
  rL : r < L
  bel : Below w0.heap.size w0 wr

section
variable {w0 wr w' : World} {L r g : Nat} {words : List ByteArray} {d : Cfg} {seen : List ByteArray} {A : Option Addr} {c : Nat}

theorem RIn.start (h : RIn w0 L r g words d seen A c wr) {n : Int} {A' : Option Addr} {c' : Nat} (hb : Blk w' g 45 (cfgCells { d with start := d.start ++ [n], sa := A', sc := c' }))
    (hs : w'.ownsRow w0.heap.size 3 1 (.slice A' (d.start.length + 1) c') (d.start.length + 1) (ints (d.start ++ [n])))
    (hK : Keep (fun k => k = g ∨ Value.ownBlock (.slice d.sa d.start.length d.sc) = some k) wr w') : RIn w0 L r g words { d with start := d.start ++ [n], sa := A', sc := c' } seen A c w' := by
  have hlg : L ≠ g := blk_ne h.ws h.blk (by decide)
  refine ⟨hb, ?_, ?_, ?_, ?_, h.lowL, h.lowg, h.lowr, h.rg, h.rL, ?_⟩
  · show w'.ownsRow w0.heap.size 3 1 (.slice A' (d.start ++ [n]).length c') (d.start ++ [n]).length (ints (d.start ++ [n]))
    rw [List.length_append, List.length_singleton]
    exact hs
  · refine hK.own h.sn (fun k hk hk2 => ?_)
    rcases hk2 with rfl | hk2
    · exact own_blk_ne h.sn h.blk (by decide) hk.symm
    · exact own_own_ne h.st h.sn (by decide) k hk2 hk
  · refine hK.blk h.ws (fun hk => ?_)
    rcases hk with hk | hk
    · exact hlg hk
    · exact own_blk_ne h.st h.ws (by decide) hk.symm
  · refine hK.blk h.rs (fun hk => ?_)
    rcases hk with hk | hk
    · exact h.rg hk
    · exact own_blk_ne h.st h.rs (by decide) hk.symm
  · refine h.bel.trans (hK.below (fun k hk => ?_) h.bel.size)
    rcases hk with rfl | hk
    · exact h.lowg
    · exact own_block h.st k hk

theorem RIn.put (h : RIn w0 L r g words d seen A c wr) {i : Nat} {n : Int} (hb : Blk w' g 45 (cfgCells (d.put i n)))
    (hK : Keep (fun k => k = g) wr w') : RIn w0 L r g words (d.put i n) seen A c w' := by
  obtain ⟨e1, e2, e3, _⟩ := put_start d n i
  have hlg : L ≠ g := blk_ne h.ws h.blk (by decide)
  refine ⟨hb, ?_, ?_, hK.blk h.ws hlg, hK.blk h.rs h.rg, h.lowL, h.lowg, h.lowr, h.rg, h.rL, h.bel.trans (hK.below (fun k hk => hk ▸ h.lowg) h.bel.size)⟩
  · rw [e1, e2, e3]
    exact hK.own h.st (fun k hk hkg => own_blk_ne h.st h.blk (by decide) (by rw [hk, hkg]))
  · exact hK.own h.sn (fun k hk hkg => own_blk_ne h.sn h.blk (by decide) (by rw [hk, hkg]))

theorem RIn.app (h : RIn w0 L r g words d seen A c wr) {o : Obj} {name : ByteArray} {A' : Option Addr} {c' : Nat} (hs : w'.ownsRow (L + 1) 9 1 (.slice A' (seen.length + 1) c') (seen.length + 1) (rows (seen ++ [name])))
    (hg : (wr.alloc o).grownBy w' (Value.slice A seen.length c).ownBlock) : RIn w0 L r g words d (seen ++ [name]) A' c' w' := by
  have hK : Keep (fun k => Value.ownBlock (.slice A seen.length c) = some k) wr w' := ((Keep.refl _ _).alloc o).trans (.of_grown hg (fun k hk => hk))
  have hlow : ∀ k, Value.ownBlock (.slice A seen.length c) = some k → L + 1 ≤ k := own_block h.sn
  have hL : ¬ Value.ownBlock (.slice A seen.length c) = some L := fun e => by have := hlow _ e; omega
  refine ⟨hK.blk h.blk (fun e => own_blk_ne h.sn h.blk (by decide) e.symm), hK.own h.st (fun k hk hk2 => own_own_ne h.st h.sn (by decide) k hk hk2), ?_, hK.blk h.ws hL, hK.blk h.rs (fun e => own_blk_ne h.sn h.rs (by decide) e.symm), h.lowL, h.lowg, h.lowr, h.rg, h.rL, h.bel.trans (hK.below (fun k hk => ?_) h.bel.size)⟩
  · rw [List.length_append, List.length_singleton]
    exact hs
  · have := hlow k hk
    have := h.lowL
    omega

theorem RIn.draw (h : RIn w0 L r g words d seen A c wr) (hb : Below wr.heap.size wr w') : RIn w0 L r g words d seen A c w' :=
  ⟨h.blk.below hb h.blk.lt, own_below h.st hb, own_below h.sn hb, h.ws.below hb h.ws.lt, h.rs.below hb h.rs.lt, h.lowL, h.lowg, h.lowr, h.rg, h.rL, h.bel.trans (hb.mono h.bel.size)⟩

theorem RIn.word (h : RIn w0 L r g words d seen A c wr) {k : Nat} (hk : k < words.length) : wr.cell? ⟨L, k, none⟩ = some (.string (words.getD k ⟨#[]⟩)) :=
  h.ws.cell (by rw [List.getElem?_map, List.getD, List.getElem?_eq_getElem hk]; rfl)

theorem RIn.cfg (h : RIn w0 L r g words d seen A c wr) (hl : d.start.length ≤ 1048576) : CfgIn wr d := ⟨own_rd h.st, by unfold maxLen; omega⟩
end

theorem foldl_none : ∀ ws : List ByteArray, ws.foldl stepR none = none
  | [] => rfl
  | _ :: ws => by rw [List.foldl_cons]; exact foldl_none ws
theorem foldR_step {k : Nat} {K : Int} {ws : List ByteArray} {st : Option (Cfg × List ByteArray)} (hk : k < ws.length) (h : foldR K (ws.take k) = st) : foldR K (ws.take (k + 1)) = stepR st (ws.getD k ⟨#[]⟩) := by
  unfold foldR at h ⊢
  rw [List.take_succ_eq_append_getElem hk, List.foldl_append, h, List.getD, List.getElem?_eq_getElem hk]
  rfl
theorem foldR_gone {k : Nat} {K : Int} {ws : List ByteArray} (h : foldR K (ws.take k) = none) : foldR K ws = none := by
  unfold foldR at h ⊢
  rw [← List.take_append_drop k ws, List.foldl_append, h, foldl_none]
theorem foldR_dead {k : Nat} {K : Int} {ws : List ByteArray} (h : foldR K (ws.take k) = none) : shapeR K ws = none := by
  have e : foldR K ws = none := by
    unfold foldR at h ⊢
    rw [← List.take_append_drop k ws, List.foldl_append, h, foldl_none]
  unfold shapeR
  rw [e]

/-- A whole block written: what stays. -/
theorem Blk.row {w : World} {g : Nat} {t : TypeId} {cs : List Value} (h : Blk w g t cs) (cs' : List Value) : Blk (w.setRow g cs'.toArray) g t cs' := setRow_heap w g _ _ t _ h
theorem Blk.row_other {w : World} {g r : Nat} {t : TypeId} {cs : List Value} (h : Blk w g t cs) (cs' : Array Value) (hr : g ≠ r) : Blk (w.setRow r cs') g t cs := (setRow_other w r g cs' hr).trans h

end Go.Proofs.YtknlhkkpheahlaaDoor

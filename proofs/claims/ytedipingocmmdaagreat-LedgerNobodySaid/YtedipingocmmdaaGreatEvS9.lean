/- An evaluator of calls: appends. -/
import Derived.Test.YtedipingocmmdaaGreatEvS8
namespace Go.Proofs.YtedipingocmmdaaGreat.Ev
open Go Go.RowKit

section
variable {P : Program}
theorem nf : ¬ (false = true) := by simp
theorem nt : (!false) = true := rfl
theorem run_app_in {w w' : World} {t u el el2 ty : TypeId} {size sl sc n yc : Nat} {A B : Option Addr} {new : Array Value} (hs : sliceT P t = some el) (hs2 : sliceT P u = some el2) (hz : sizeT P el = some size)
    (hle : sl + n ≤ sc) (hnew : (Builtin.firstCells size n (.slice B n yc)).run P w = .ok new w)
    (hst : (match A with | some a => storeCells (a.add (sl * size)) new.toList | none => pure () : Sem Unit).run P w = .ok () w') :
    (Builtin.append_ #[t, u] ty #[.slice A sl sc, .slice B n yc]).run P w = .ok (.slice A (sl + n) sc) w' := by
  unfold Builtin.append_
  simp only [List.getElem?_toArray, List.getElem?_cons_zero, List.getElem?_cons_succ]
  rw [run_bind (run_underlying (slice_of hs))]
  simp only
  rw [run_bind (run_sizeOf hz), run_bind (run_underlying (slice_of hs2))]
  simp only
  rw [run_bind (run_pure _), if_neg nf]
  rw [run_bind (show (Builtin.lenOf (.slice B n yc)).run P w = .ok n w from rfl), if_pos hle, if_pos nt, run_bind hnew]
  cases A with
  | none => injection hst with _ h2; subst h2; rfl
  | some a =>
    simp only
    rw [run_bind hst]; rfl
theorem run_app_out {w : World} {t u el el2 ty : TypeId} {size sl sc n yc : Nat} {A B : Option Addr} {new old : Array Value} {i : TypeInfo} {z0 : Value} (hs : sliceT P t = some el) (hs2 : sliceT P u = some el2) (hi : P.info? el = some i) (hz : i.zero = some z0) (hsz : i.size = size)
    (hlt : sc < sl + n) (hneed : sl + n ≤ 1048576) (hby : i.bytes ≤ 1048576) (hold : (Builtin.firstCells size sl (.slice A sl sc)).run P w.drew = .ok old w.drew) (hnew : (Builtin.firstCells size n (.slice B n yc)).run P w.drew = .ok new w.drew) :
    ∃ newCap, sl + n ≤ newCap ∧ (Builtin.append_ #[t, u] ty #[.slice A sl sc, .slice B n yc]).run P w =
      .ok (.slice (some ⟨w.heap.size, 0, none⟩) (sl + n) newCap) (w.drew.alloc (.cells (old ++ new ++ Builtin.zeroCells z0.cells (newCap - (sl + n))) el)) := by
  have hz' : sizeT P el = some size := by unfold sizeT; rw [hi, ← hsz]; rfl
  refine ⟨(Question.appendCap (sl + n) sc el).cut (w.tape w.drawn (.appendCap (sl + n) sc el)), Nat.le_add_right _ _, ?_⟩
  unfold Builtin.append_
  simp only [List.getElem?_toArray, List.getElem?_cons_zero, List.getElem?_cons_succ]
  rw [run_bind (run_underlying (slice_of hs))]
  simp only
  rw [run_bind (run_sizeOf hz'), run_bind (run_underlying (slice_of hs2))]
  simp only
  rw [run_bind (run_pure _), if_neg nf]
  rw [run_bind (show (Builtin.lenOf (.slice B n yc)).run P w = .ok n w from rfl), if_neg (by omega), run_bind (run_typeInfo hi)]
  have hmax : ¬ ((↑(sl + n) : Int) > IntKind.i64.max ∧ (false = true ∨ i.bytes = 0)) := fun h => by
    have h1 : IntKind.i64.max < (↑(sl + n) : Int) := h.1
    have h2 : IntKind.i64.max = 9223372036854775807 := by decide
    rw [h2] at h1
    omega
  rw [if_neg hmax, run_bind (run_typeInfo hi)]
  have hgrow : ¬ Builtin.nextslicecap (sl + n) sc * i.bytes > 2 ^ 48 := fun h => by
    have h1 := grow_small (sl + n) sc hlt
    have h2 : Builtin.nextslicecap (sl + n) sc * i.bytes ≤ (2 * 1048576 + 1024) * 1048576 := Nat.mul_le_mul (by omega) hby
    omega
  rw [if_neg hgrow]
  have hch : (choose (.appendCap (sl + n) sc el)).run P w = .ok ((Question.appendCap (sl + n) sc el).cut (w.tape w.drawn (.appendCap (sl + n) sc el))) w.drew := rfl
  rw [run_bind hch, run_bind (run_typeInfo hi), run_bind (run_askRoom _), run_bind hold, if_pos nt, run_bind hnew, run_bind (run_zeroValue hi hz)]
  rw [run_bind run_newRow]
  rfl

theorem zeroCells_len (z : Array Value) (n : Nat) : (Builtin.zeroCells z n).size = n * z.size := by simp [Builtin.zeroCells]
theorem roomy_true {c : Nat} (h : isRoomy c = true) : roomy ≤ c := by unfold roomy; exact ble_true h
theorem roomy_false {c : Nat} (h : isRoomy c = false) : c < roomy := by
  unfold roomy
  rcases ble_cases 18446744073709551616 c with ⟨h1, _⟩ | ⟨_, h2⟩
  · rw [show isRoomy c = Nat.ble 18446744073709551616 c from rfl, h1] at h; cases h
  · exact h2
section
variable {w : World} {base : Nat} {w0 : World} {ρ : Nat → Loc} {U : Nat → Prop} {H : Mem}
/-- A row in a new place, with room. -/
theorem append_out {o : Oper} {a : Act} {t u el el2 : TypeId} {size sl sc n yc c : Nat} {A B : Option Addr} {new old : List Value} {i : TypeInfo} {z : List Value} {H1 : Mem}
    (hR : Rel P base w0 ρ U H w) (hU : ¬ U c) (hbig : c < big) (hs : sliceT P t = some el) (hs2 : sliceT P u = some el2) (hi : P.info? el = some i) (hz : zeroOf P el = some z) (hzl : z.length = i.size) (hsz : i.size = size) (hpos : 0 < size)
    (hexec : ∀ {r : Result Value}, (Builtin.append_ #[t, u] o.type #[.slice A sl sc, .slice B n yc]).run P w = r → ∀ v w1, r = .ok v w1 → (execOp a.eval o).run P w = .ok (.value v) w1)
    (hlt : sc < sl + n) (hneed : sl + n ≤ 1048576) (hby : i.bytes ≤ 1048576) (hold : (Builtin.firstCells size sl (.slice A sl sc)).run P w.drew = .ok (old.map (ren ρ)).toArray w.drew) (hnew : (Builtin.firstCells size n (.slice B n yc)).run P w.drew = .ok (new.map (ren ρ)).toArray w.drew)
    (hcs : ∀ v ∈ old ++ new, Ok ρ U v ∧ one v) (hlen : (old ++ new).length = (sl + n) * size) (hH : ∀ j, H1.get j = if j = c then some ⟨el, old ++ new, true⟩ else H.get j) :
    Goes P o a base w0 ρ U w c (c + 1) H1 (.slice (some ⟨c, 0, none⟩) (sl + n) 18446744073709551616) := by
  obtain ⟨i', z0, hi', hz0, hzl0, hf⟩ := zero_of hz
  rw [hi] at hi'
  injection hi' with hi'
  subst hi'
  obtain ⟨newCap, hc1, hrun⟩ := run_app_out (ty := o.type) hs hs2 hi hz0 hsz hlt hneed hby hold hnew
  have ez : z0.cells.size = size := by rw [← Array.length_toList, hzl0, hzl, hsz]
  have hrel := rel_new (H1 := H1) hR.drew hU hbig (b := ⟨el, old ++ new, true⟩) (cap := newCap) (size := size) (rest := (Builtin.zeroCells z0.cells (newCap - (sl + n))).toList) hcs (fun h => by cases h) (fun _ => ⟨by unfold sizeT; rw [hi, ← hsz]; rfl, hpos, by
    have hzc : (Builtin.zeroCells z0.cells (newCap - (sl + n))).toList.length = (newCap - (sl + n)) * size := by rw [Array.length_toList, zeroCells_len, ez]
    rw [hzc, hlen, ← Nat.add_mul]
    congr 1
    omega⟩) hH
  have e : ((old ++ new).map (ren ρ) ++ (Builtin.zeroCells z0.cells (newCap - (sl + n))).toList).toArray = (old.map (ren ρ)).toArray ++ (new.map (ren ρ)).toArray ++ Builtin.zeroCells z0.cells (newCap - (sl + n)) := by
    apply Array.toList_inj.mp
    simp
  simp only at hrel
  rw [e] at hrel
  refine ⟨_, _, _, _, more_at hU, fun j hj => hj.imp id (fun e => by omega), hrel, ⟨.inr rfl, ?_⟩, hexec hrun _ _ rfl, .inl (congrArg Next.value ?_)⟩
  · unfold OkS
    rw [if_pos (by unfold roomy; exact Nat.le_refl _)]
    simp only [ρat_self]
    exact ⟨by unfold roomy; omega, hpos, by unfold roomy; omega⟩
  · show Value.slice (some ⟨w.heap.size, 0, none⟩) (sl + n) newCap = .slice (some (renA (ρat ρ c ⟨w.drew.heap.size, newCap, size⟩) ⟨c, 0, none⟩)) (sl + n) (renC (ρat ρ c ⟨w.drew.heap.size, newCap, size⟩) ⟨c, 0, none⟩ 18446744073709551616)
    unfold renC
    rw [if_pos (by unfold roomy; exact Nat.le_refl _)]
    show _ = Value.slice (some ⟨(ρat ρ c ⟨w.drew.heap.size, newCap, size⟩ c).blk, 0, none⟩) (sl + n) ((ρat ρ c ⟨w.drew.heap.size, newCap, size⟩ c).cap - (18446744073709551616 - roomy))
    rw [ρat_self]
    unfold roomy
    rfl
theorem s_append {o : Oper} {cc : Call} {x y : Operand} {t u el el2 : TypeId} {i : TypeInfo} {z : List Value} (ho : o.op = .call cc) (hc : cc.callee = .builtin .append) (ha : cc.args.toList = [x, y]) (ht : cc.argTypes.toList = [t, u]) (hs : sliceT P t = some el) (hs2 : sliceT P u = some el2) (hi : P.info? el = some i) (hz : zeroOf P el = some z) (hzl : (z.length == i.size) = true) : SoundO P (oAppend el i.size i.bytes x y) o := by
  intro e cl a base w0 ρ U H w g c l v c' H' l' hx hR hU h
  have ea : cc.args = #[x, y] := by apply Array.toList_inj.mp; rw [ha]
  have et : cc.argTypes = #[t, u] := by apply Array.toList_inj.mp; rw [ht]
  have hzl2 : z.length = i.size := by simpa using hzl
  have hz1 : sizeT P el = some i.size := by unfold sizeT; rw [hi]; rfl
  rw [ho] at hx
  obtain ⟨hx1, hx2⟩ := hx x (by simp [Op.operands, Call.operands, hc, ea])
  obtain ⟨hy1, hy2⟩ := hx y (by simp [Op.operands, Call.operands, hc, ea])
  obtain ⟨q, sl, sc, e1, h⟩ := slice_ok h
  obtain ⟨ya, n, yc, e2, h⟩ := slice_ok h
  rw [e1] at h hx1 hx2
  rw [e2] at hy1
  have rx : ∀ (q : Option Addr) (n c : Nat), ∃ c2, ren ρ (.slice q n c) = .slice (q.map (renA ρ)) n c2 := fun q n c => by cases q <;> exact ⟨_, rfl⟩
  obtain ⟨yc2, r2⟩ := rx ya n yc
  rw [r2] at hy1
  obtain ⟨new, l2, h, hnewOk, hnewLen, hnewRun, -⟩ := readS_ok hR h
  have exec : ∀ {A : Option Addr} {s' : Nat}, a.eval x = .slice A sl s' → ∀ {r : Result Value}, (Builtin.append_ #[t, u] o.type #[.slice A sl s', .slice (ya.map (renA ρ)) n yc2]).run P w = r → ∀ v w1, r = .ok v w1 → (execOp a.eval o).run P w = .ok (.value v) w1 := fun {A s'} hA {r} hr v w1 hrv => run_builtin ho hc fun k => by
    rw [ea, et, show (#[x, y] : Array Operand).map a.eval = #[a.eval x, a.eval y] by simp, hA, hy1]
    unfold builtin
    simp only
    exact run_value (by rw [hr, hrv])
  cases n with
  | zero =>
    obtain ⟨hb, h⟩ := iff_ok (show M.iff (Nat.ble sl sc) (.ret (.slice q sl sc)) g c H l2 = .ok v c' H' l' from h)
    obtain ⟨rfl, rfl, rfl, rfl⟩ := ret_ok h
    have hle := ble_true hb
    have hnew0 : new = [] := by
      rw [Nat.zero_mul] at hnewLen
      exact List.length_eq_zero_iff.mp hnewLen
    subst hnew0
    obtain ⟨s', hA, hs'⟩ : ∃ s', ren ρ (.slice q sl sc) = .slice (q.map (renA ρ)) sl s' ∧ sl ≤ s' := by
      cases q with
      | none => exact ⟨sc, rfl, hle⟩
      | some q =>
        refine ⟨renC ρ q sc, rfl, ?_⟩
        unfold renC
        obtain ⟨-, hO⟩ := hx2
        unfold OkS at hO
        split
        · rename_i hr; rw [if_pos hr] at hO; omega
        · exact hle
    refine goes_same hR hx2 ?_
    rw [hA] at hx1
    rw [hA]
    exact exec hx1 (run_app_in (n := 0) hs hs2 hz1 (by omega) (hnewRun w 0 yc2 rfl) (by cases q <;> rfl)) _ _ rfl
  | succ n =>
    obtain ⟨hb, h⟩ := iff_ok (show M.iff (andK (Nat.ble 1 i.size) (andK (Nat.ble (Nat.add sl (n + 1)) 1048576) (Nat.ble i.bytes 1048576)))
      (Bool.rec (Bool.rec (.iff (Nat.ble sl sc) (appNew el i.size sl (n + 1) new q)) (appIn i.size sl sc (n + 1) new q) (Nat.ble (Nat.add sl (n + 1)) sc))
        (.iff (Nat.beq sc 18446744073709551616) (appRoomy el i.size sl (n + 1) new q)) (isRoomy sc)) g c H l2 = .ok v c' H' l' from h)
    obtain ⟨b1, hb⟩ := andK_true hb
    obtain ⟨b2, b3⟩ := andK_true hb
    have c1 := ble_true b1
    have c2 : sl + (n + 1) ≤ 1048576 := ble_true b2
    have c3 := ble_true b3
    cases hroom : isRoomy sc with
    | true =>
      rw [hroom] at h
      obtain ⟨hb, h⟩ := iff_ok (show M.iff (Nat.beq sc 18446744073709551616) (appRoomy el i.size sl (n + 1) new q) g c H l2 = .ok v c' H' l' from h)
      have hsc := beq_true hb
      obtain ⟨b, p, rfl, h⟩ := addr_ok h
      obtain ⟨hb, h⟩ := iff_ok h
      have hp0 := beq_true hb
      subst hp0
      obtain ⟨l3, h⟩ := log_ok h
      obtain ⟨k, hk, h⟩ := read0_ok h
      obtain ⟨hlt, h⟩ := lt_ok h
      obtain ⟨H1, hH1, ⟨-, h16⟩, h⟩ := put0_ok h
      obtain ⟨hb, h⟩ := iff_ok h
      obtain ⟨d1, hb⟩ := andK_true hb
      obtain ⟨d2, d3⟩ := andK_true hb
      have hke := beq_true d2
      have hkl : k.cells.length = sl * i.size := lenIs_eq _ _ d3
      obtain ⟨H2, h0, hbig, -, hH2, h⟩ := new_ok h
      obtain ⟨rfl, rfl, rfl, rfl⟩ := ret_ok h
      rw [appK_eq] at hH2
      obtain ⟨hcs, rest, hrow, -, hr2⟩ := hR.row b k hk
      obtain ⟨s1, s2, s3⟩ := hr2 d1
      rw [hke, hz1] at s1
      have hsz : (ρ b).size = i.size := (Option.some.inj s1).symm
      have hUc : ¬ U c := hU c (Nat.le_refl _) (Nat.lt_succ_self _)
      have hUb := hR.live b k hk
      have hcb : c ≠ b := fun e => hUc (e ▸ hUb)
      have hx1' : a.eval x = .slice (some ⟨(ρ b).blk, 0, none⟩) sl (ρ b).cap := by
        rw [hx1]
        show Value.slice (some ⟨(ρ b).blk, 0, none⟩) sl (renC ρ ⟨b, 0, none⟩ sc) = _
        unfold renC
        rw [if_pos (roomy_true hroom), hsc]
        unfold roomy
        rfl
      by_cases hin : sl + (n + 1) ≤ (ρ b).cap
      · -- in its place
        obtain ⟨w', hst, hw1, hw2, hw3, hw4, hw5, hw6⟩ := run_storeCells (P := P) (k := (ρ b).blk) (t := k.elem) (sl * i.size) (new.map (ren ρ)) 0 w _ hrow (fun v hv => by
          obtain ⟨u, hu, rfl⟩ := List.mem_map.mp hv
          exact one_ren ρ (hnewOk u hu).2) (by
            rw [List.length_append, List.length_map, List.length_map, s3, hnewLen, hsz, Nat.add_zero, ← Nat.add_mul]
            exact Nat.mul_le_mul_right _ hin)
        have hm := more_at (ρ := ρ) (L := ρ b) hUc
        obtain ⟨f1, f2⟩ := map_more hm (l := k.cells ++ new) (fun v hv => by
          rcases List.mem_append.mp hv with hv | hv
          · exact hcs v hv
          · exact hnewOk v hv)
        have hat := hR.at_ b hUb
        refine ⟨ρat ρ c (ρ b), Uat U c, w', _, hm, fun j hj => hj.imp id (fun e => by omega), ?_, ⟨.inr rfl, ?_⟩, exec hx1' (run_app_in hs hs2 hz1 hin (hnewRun w _ yc2 rfl) (by
            simp only
            rw [add_at, Nat.zero_add]
            simpa using hst)) _ _ rfl, .inl (congrArg Next.value ?_)⟩
        · refine hR.put (c := c) (b := ⟨el, k.cells ++ new, true⟩) hm (fun j hj => hj) (.inr rfl) hbig (fun j x hj => ?_) ⟨hw4, hw5, hw6, by omega, fun i hi => hw2 i (by have := hat.1 h16; omega)⟩ (by rw [ρat_self]; exact hat.1 h16) (by rw [ρat_self]; omega) (fun i _ hi => hw2 i (by rw [ρat_self] at hi; exact hi)) ?_
          · rw [hH2] at hj
            by_cases e : j = c
            · rw [if_pos e] at hj; injection hj with hj; exact .inl ⟨e, hj.symm⟩
            · rw [if_neg e, hH1] at hj
              by_cases e2 : j = b
              · rw [if_pos e2] at hj; cases hj
              · rw [if_neg e2] at hj
                exact .inr ⟨e, hj, by rw [ρat_self]; exact fun e3 => e2 (hR.inj j b x k hj hk e3)⟩
          · rw [ρat_self]
            refine ⟨f2, rest.drop ((n + 1) * i.size), ?_, fun h => (by cases h), fun _ => ⟨by rw [hz1, hsz], s2, ?_⟩⟩
            · rw [hw1, f1, hke]
              congr 2
              rw [List.map_append]
              unfold overL
              have e5 : (sl * i.size + 0 : Nat) = (k.cells.map (ren ρ)).length := by rw [List.length_map, hkl, Nat.add_zero]
              rw [e5, List.take_left', List.length_map (as := new), hnewLen]
              · rw [← List.drop_drop, List.drop_left']
                rfl
              · rfl
            · rw [List.length_append, List.length_drop, hnewLen, ← s3]
              have : (n + 1) * i.size ≤ rest.length := by
                have h1 : (sl + (n + 1)) * i.size ≤ (ρ b).cap * (ρ b).size := by rw [hsz]; exact Nat.mul_le_mul_right _ hin
                rw [Nat.add_mul] at h1
                omega
              omega
        · unfold OkS
          rw [if_pos (by unfold roomy; exact Nat.le_refl _)]
          simp only [ρat_self]
          exact ⟨by unfold roomy; show _ + (sl + (n + 1)) ≤ _; omega, s2, by unfold roomy; omega⟩
        · show Value.slice (some ⟨(ρ b).blk, 0, none⟩) (sl + (n + 1)) (ρ b).cap = .slice (some (renA (ρat ρ c (ρ b)) ⟨c, 0, none⟩)) (sl + (n + 1)) (renC (ρat ρ c (ρ b)) ⟨c, 0, none⟩ 18446744073709551616)
          unfold renC
          rw [if_pos (by unfold roomy; exact Nat.le_refl _)]
          show _ = Value.slice (some ⟨(ρat ρ c (ρ b) c).blk, 0, none⟩) (sl + (n + 1)) ((ρat ρ c (ρ b) c).cap - (18446744073709551616 - roomy))
          rw [ρat_self]
          unfold roomy
          rfl
      · -- in a new place
        have hold : (Builtin.firstCells i.size sl (.slice (some ⟨(ρ b).blk, 0, none⟩) sl (ρ b).cap)).run P w.drew = .ok (k.cells.map (ren ρ)).toArray w.drew := by
          show (loadCells ⟨(ρ b).blk, 0, none⟩ (sl * i.size)).run P w.drew = _
          rw [show (loadCells ⟨(ρ b).blk, 0, none⟩ (sl * i.size)).run P w.drew = _ from run_loadCells (w := w.drew) hrow 0 (sl * i.size) 0 #[] (by rw [List.length_append, List.length_map]; omega)]
          have e6 : (((k.cells.map (ren ρ) ++ rest).drop (0 + 0)).take (sl * i.size)) = k.cells.map (ren ρ) := by
            rw [Nat.add_zero, List.drop_zero, ← hkl, ← List.length_map (f := ren ρ), List.take_left']
            rfl
          rw [e6]
          simp
        have hR1 : Rel P base w0 ρ U H1 w := hR.sub (fun j x hj => by
          rw [hH1] at hj
          by_cases e2 : j = b
          · rw [if_pos e2] at hj; cases hj
          · rw [if_neg e2] at hj; exact hj)
        exact append_out hR1 hUc hbig hs hs2 hi hz hzl2 rfl (by omega) (exec hx1') (by omega) c2 c3 hold (hnewRun w.drew _ yc2 rfl) (fun v hv => by
          rcases List.mem_append.mp hv with hv | hv
          · exact hcs v hv
          · exact hnewOk v hv) (by rw [List.length_append, hkl, hnewLen, ← Nat.add_mul]) hH2
    | false =>
      rw [hroom] at h
      have hnr : ¬ roomy ≤ sc := by have := roomy_false hroom; omega
      replace h : (Bool.rec (.iff (Nat.ble sl sc) (appNew el i.size sl (n + 1) new q)) (appIn i.size sl sc (n + 1) new q) (Nat.ble (Nat.add sl (n + 1)) sc) : M Value) g c H l2 = .ok v c' H' l' := h
      have hx1' : a.eval x = .slice (q.map (renA ρ)) sl sc := by
        rw [hx1]
        cases q with
        | none => rfl
        | some q =>
          show Value.slice (some (renA ρ q)) sl (renC ρ q sc) = _
          unfold renC
          rw [if_neg hnr]
          rfl
      rcases ble_cases (Nat.add sl (n + 1)) sc with ⟨hin, hin2⟩ | ⟨hin, hin2⟩
      · rw [hin] at h
        obtain ⟨b, p, rfl, h⟩ := addr_ok (show (onAddr q .fail fun b o => .log b true (.read0 b fun x => Bool.rec (overAt (Nat.add o (Nat.mul sl i.size)) new .fail x.cells fun cs => .put0 b (some ⟨x.elem, cs, false⟩) (.ret (.slice (some ⟨b, o, none⟩) (Nat.add sl (n + 1)) sc))) .fail x.opn) : M Value) g c H l2 = .ok v c' H' l' from h)
        obtain ⟨l3, h⟩ := log_ok h
        obtain ⟨k, hk, h⟩ := read0_ok h
        cases hop : k.opn with
        | true => rw [hop] at h; cases h
        | false =>
          rw [hop] at h
          replace h : overAt (p + sl * i.size) new .fail k.cells (fun cs => M.put0 b (some ⟨k.elem, cs, false⟩) (.ret (.slice (some ⟨b, p, none⟩) (sl + (n + 1)) sc))) g c H l3 = .ok v c' H' l' := h
          rw [overAt_eq] at h
          split at h
          · rename_i hl
            obtain ⟨H1, hH, ⟨-, h16⟩, h⟩ := put0_ok h
            obtain ⟨rfl, rfl, rfl, rfl⟩ := ret_ok h
            obtain ⟨w', hst, hrel⟩ := run_store (k' := ⟨k.elem, overL (p + sl * i.size) new k.cells, false⟩) hR h16 hk hl hnewOk ⟨rfl, rfl, hop.symm⟩ hH
            refine ⟨ρ, U, w', _, .refl, fun _ h => .inl h, hrel, ⟨hx2.1, by unfold OkS; rw [if_neg hnr]; exact .inl rfl⟩, exec hx1' (run_app_in hs hs2 hz1 hin2 (hnewRun w _ yc2 rfl) (by
              simp only [Option.map_some]
              rw [show renA ρ ⟨b, p, none⟩ = ⟨(ρ b).blk, p, none⟩ from rfl, add_at]
              simpa using hst)) _ _ rfl, .inl (congrArg Next.value ?_)⟩
            show Value.slice (some ⟨(ρ b).blk, p, none⟩) (sl + (n + 1)) sc = .slice (some ⟨(ρ b).blk, p, none⟩) (sl + (n + 1)) (renC ρ ⟨b, p, none⟩ sc)
            unfold renC
            rw [if_neg hnr]
          · cases h
      · rw [hin] at h
        obtain ⟨hb, h⟩ := iff_ok (show M.iff (Nat.ble sl sc) (appNew el i.size sl (n + 1) new q) g c H l2 = .ok v c' H' l' from h)
        obtain ⟨old, l3, h, holdOk, holdLen, holdRun, -⟩ := readS_ok hR h
        obtain ⟨H2, h0, hbig, -, hH2, h⟩ := new_ok h
        obtain ⟨rfl, rfl, rfl, rfl⟩ := ret_ok h
        rw [appK_eq] at hH2
        exact append_out hR (hU c (Nat.le_refl _) (Nat.lt_succ_self _)) hbig hs hs2 hi hz hzl2 rfl (by omega) (exec hx1') hin2 c2 c3 (holdRun w.drew _ _ rfl) (hnewRun w.drew _ yc2 rfl) (fun v hv => by
          rcases List.mem_append.mp hv with hv | hv
          · exact holdOk v hv
          · exact hnewOk v hv) (by rw [List.length_append, holdLen, hnewLen, ← Nat.add_mul]) hH2
end
end
end Go.Proofs.YtedipingocmmdaaGreat.Ev


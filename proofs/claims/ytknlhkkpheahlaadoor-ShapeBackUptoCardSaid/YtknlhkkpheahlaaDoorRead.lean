/- shape.Read, walked. -/
import Derived.Test.YtknlhkkpheahlaaDoorRd0
import Derived.Test.YtknlhkkpheahlaaDoorRefRd
import Derived.Great.Walk
namespace Go.Proofs.YtknlhkkpheahlaaDoor
open Go.RowKit Go.Sort

/-- Which error a line has that says no shape. -/
def errS (s : ByteArray) : Int := if kindOf ((wordsR s).getD 0 ⟨#[]⟩) = 0 ∨ 400 < s.size then 3 else if (foldR (kindOf ((wordsR s).getD 0 ⟨#[]⟩)) (wordsR s).tail).isNone = true then 3 else 1
theorem errS_ne (s : ByteArray) : errS s = 3 ∨ errS s = 1 := by
  unfold errS
  split
  · exact .inl rfl
  · split
    · exact .inl rfl
    · exact .inr rfl
def ReadNo (s : ByteArray) (w : World) (e : Ending) (w' : World) : Prop :=
  readS s = none ∧ e = .returned (.tuple #[cfgV (plainC 0), .int .i64 (errS s)]) ∧ Below w.heap.size w w'
def ReadOk (s : ByteArray) (w : World) (e : Ending) (w' : World) : Prop :=
  ∃ d : Cfg, readS s = some d.norm ∧ chkB d = true ∧ e = .returned (.tuple #[cfgV d, .int .i64 0]) ∧ CfgIn w' d ∧ Below w.heap.size w w'
def ReadPost (s : ByteArray) (w : World) (e : Ending) (w' : World) : Prop := ReadNo s w e w' ∨ ReadOk s w e w'

theorem kindOf_ways (s : ByteArray) : kindOf s = 0 ∨ kindOf s = 1 ∨ kindOf s = 2 ∨ kindOf s = 3 := by
  unfold kindOf
  split
  · exact .inr (.inl rfl)
  · split
    · exact .inr (.inr (.inl rfl))
    · split
      · exact .inr (.inr (.inr rfl))
      · exact .inl rfl
theorem plain_start (k : Int) : (plainC k).start = [] ∧ (plainC k).sa = none ∧ (plainC k).sc = 0 := by
  unfold plainC
  split
  · exact ⟨rfl, rfl, rfl⟩
  · split <;> exact ⟨rfl, rfl, rfl⟩
theorem plain_kind {k : Int} (h : k = 0 ∨ k = 1 ∨ k = 2 ∨ k = 3) : (plainC k).kind = k := by
  rcases h with rfl | rfl | rfl | rfl <;> rfl
theorem plain_norm (k : Int) : (plainC k).norm = plainC k := by
  unfold plainC
  split
  · rfl
  · split <;> rfl

theorem norm_fix {d : Cfg} (h1 : d.sa = none) (h2 : d.sc = 0) : d.norm = d := by
  obtain ⟨d0, d1, d2, d3, d4, d5, d6, d7, d8, d9, ds, da, dc⟩ := d
  simp only at h1 h2
  subst h1 h2
  rfl
theorem foldl_bare : ∀ (ws : List ByteArray) (st : Option (Cfg × List ByteArray)), (∀ p, st = some p → p.1.sa = none ∧ p.1.sc = 0) → ∀ p, ws.foldl stepR st = some p → p.1.sa = none ∧ p.1.sc = 0
  | [], _, h, p, hp => h p hp
  | x :: ws, st, h, p, hp => by
    rw [List.foldl_cons] at hp
    refine foldl_bare ws (stepR st x) (fun q hq => ?_) p hp
    cases st with
    | none => cases hq
    | some r =>
      have hr := h r rfl
      change putR r.1 r.2 (setS r.2 x) = some q at hq
      cases hs : setS r.2 x with
      | none => rw [hs] at hq; cases hq
      | some t =>
        obtain ⟨name, o, n⟩ := t
        rw [hs] at hq
        cases o with
        | none => injection hq with hq; subst hq; exact hr
        | some i => injection hq with hq; subst hq; exact ⟨(put_start r.1 n i).2.1.trans hr.1, (put_start r.1 n i).2.2.1.trans hr.2⟩
theorem readS_norm {s : ByteArray} {d : Cfg} (h : readS s = some d) : d.norm = d := by
  unfold readS at h
  split at h
  · cases h
  · unfold shapeR at h
    split at h
    · cases h
    · rename_i d' sn hf
      split at h
      · injection h with h
        subst h
        have := foldl_bare _ _ (fun p hp => by injection hp with hp; subst hp; exact (plain_start _).2) _ hf
        exact norm_fix this.1 this.2
      · cases h

theorem Split1_any (s : ByteArray) (w : World) (hs : s.size < 4294967281) (hm : MLT w) :
    Calls Tryd.prog 58 #[.string s, .string ⟨#[32]⟩] w fun e w' => e = .returned (.slice (some ⟨w.heap.size, 0, none⟩) (wordsR s).length (wordsR s).length) ∧ Blk w' w.heap.size 9 ((wordsR s).map Value.string) ∧ Below w.heap.size w w' := by
  obtain ⟨_, m, hm⟩ := hm
  refine (Tryd.strings_Split s ⟨#[32]⟩ m w hs hm (Nat.le_refl 1)).mono ?_
  rintro e w' ⟨rfl, rfl⟩
  rw [wordsR_len]
  exact ⟨rfl, Blk.new w _ _, (Below.refl _ _).alloc (Nat.le_refl _) _⟩

theorem run_load_cfg {a : Act} {o : Oper} {x : Operand} {w : World} {g : Nat} {c : Cfg} (ho : o.op = .load 45 x) (hx : a.eval x = .pointer (some ⟨g, 0, none⟩)) (h : Blk w g 45 (cfgCells c)) : (execOp a.eval o).run Tryd.prog w = .ok (.value (cfgV c)) w := by
  unfold execOp
  simp only [ho, hx, Instr.loadAt, Instr.sureAddr, Sem.run_bind, Sem.run_pure, Result.andThen_ok, cfg_load h]
theorem RIn.done {w0 wr : World} {L r g : Nat} {words : List ByteArray} {d : Cfg} {seen : List ByteArray} {A : Option Addr} {c : Nat} (h : RIn w0 L r g words d seen A c wr) (d' : Cfg) :
    Rd (wr.setRow r (cfgCells d').toArray) d.sa (ints d.start) ∧ Below w0.heap.size w0 (wr.setRow r (cfgCells d').toArray) := by
  have hK : Keep (fun k => k = r) wr (wr.setRow r (cfgCells d').toArray) := ⟨rfl, rfl, rfl, by simp, fun k _ hn => setRow_other wr r k _ hn⟩
  exact ⟨own_rd (hK.own h.st (fun k hk hkr => own_blk_ne h.st h.rs (by decide) (by rw [hk, hkr]))), h.bel.trans (hK.below (fun k hk => hk ▸ h.lowr) h.bel.size)⟩
theorem shape_ok {K : Int} {ws : List ByteArray} {d : Cfg} {seen : List ByteArray} (h : foldR K ws = some (d.norm, seen)) (hc : chkB d = true) : shapeR K ws = some d.norm := by
  unfold shapeR
  rw [h]
  show (if chkB d.norm = true then some d.norm else none) = _
  rw [norm_chk, if_pos hc]
theorem shape_no {K : Int} {ws : List ByteArray} {d : Cfg} {seen : List ByteArray} (h : foldR K ws = some (d.norm, seen)) (hc : chkB d = false) : shapeR K ws = none := by
  unfold shapeR
  rw [h]
  show (if chkB d.norm = true then some d.norm else none) = _
  rw [norm_chk, hc, if_neg (by simp)]

theorem cfg_one (c : Cfg) : ((cfgCells c).toArray.all fun x => x.oneCell') = true := by simp [cfgCells, Value.oneCell']

set_option maxHeartbeats 8000000 in
set_option maxRecDepth 100000 in
theorem Read_shp (s : ByteArray) (w : World) (hs : s.size ≤ 1048576) (ht : TabT w) (he : ErrT w) (hm : MLT w) :
    Calls Tryd.prog 24 #[.string s] w (ReadPost s w) := by
  have HSP := Lib.hid (fun W h => Split1_any s W (by omega) h)
  have hwl := wordsR_le s
  have hwp : 0 < (wordsR s).length := by rw [wordsR_len]; omega
  have HWS := Lib.hid (wordsR_size s)
  have HKI := Lib.hid (fun W => kinds_any ((wordsR s).getD 0 ⟨#[]⟩) W)
  have HKW := Lib.hid (kindOf_ways ((wordsR s).getD 0 ⟨#[]⟩))
  have HRV : RowKit.Hid (readS s = if kindOf ((wordsR s).getD 0 ⟨#[]⟩) = 0 ∨ 400 < s.size then none else shapeR (kindOf ((wordsR s).getD 0 ⟨#[]⟩)) (wordsR s).tail) := Lib.hid rfl
  have HRE : RowKit.Hid (errS s = if kindOf ((wordsR s).getD 0 ⟨#[]⟩) = 0 ∨ 400 < s.size then 3 else if (foldR (kindOf ((wordsR s).getD 0 ⟨#[]⟩)) (wordsR s).tail).isNone = true then 3 else 1) := Lib.hid rfl
  have HT := Lib.hid ht
  have HE := Lib.hid he
  have HM := Lib.hid hm
  clear ht he hm
  generalize wordsR s = words at *
  generalize hwn : words.length = n at *
  have HWN := Lib.hid hwn
  clear hwn
  have HW0 : RowKit.Hid ((words.map Value.string)[0]? = some (.string (words.getD 0 ⟨#[]⟩))) := Lib.hid (by
    rw [List.getElem?_map, List.getD, List.getElem?_eq_getElem (by rw [HWN.out]; exact hwp)]; rfl)
  generalize hw0 : words.getD 0 ⟨#[]⟩ = word0 at *
  clear hw0
  generalize hK : kindOf word0 = K at *
  clear hK
  have HPS := Lib.hid (plain_start K)
  have HPK := Lib.hid (plain_kind HKW.out)
  have HPN := Lib.hid (plain_norm K)
  have HPL := Lib.hid (fun W => Plain_any K W)
  have HSR : RowKit.Hid (∀ ws, foldR K ws = ws.foldl stepR (some (plainC K, []))) := Lib.hid (fun _ => rfl)
  generalize hd0 : plainC K = d0 at *
  clear hd0
  go_enter Tryd.func24, Tryd.ntmps24
  go_upto_region 3 with (first | (go_at_call 58; refine (HSP.out _ (HM.out.below (Below.alloc (Below.refl _ _) (Nat.le_refl _) _))).mono ?_; rintro e w1 ⟨rfl, hL1, hb1⟩; have HRS := Lib.hid ((Blk.new w 45 (cfgCells (plainC 0))).below hb1 (by simp)); rw [World.size_alloc] at hL1; have HL1 := Lib.hid hL1; have HB1 := Lib.hid (((Below.refl w.heap.size w).alloc (Nat.le_refl _) _).trans (hb1.mono (by simp))); have x0 := HL1.out.cell HW0.out; have hl1 := HL1.out.lt; clear hL1 hb1) | (go_at_call 60; refine (HKI.out _).mono ?_; rintro e w2 ⟨rfl, rfl⟩) | (go_at_call 59; refine (HPL.out _).mono ?_; rintro e w2 ⟨rfl, hb2⟩))
  have HR : RowKit.Hid (RIn w (w.heap.size + 1) w.heap.size w2.heap.size words d0 [] none 0 (w2.alloc (.cells (cfgCells d0).toArray 45))) := Lib.hid (by
    have hz1 := HB1.out.size
    have hz2 := hb2.size
    refine ⟨Blk.new _ _ _, ?_, own_nil _ _ _ _, (HL1.out.below hb2 HL1.out.lt).alloc _, (HRS.out.below hb2 HRS.out.lt).alloc _, by omega, by omega, Nat.le_refl _, by omega, by omega, ?_⟩
    · rw [HPS.out.1, HPS.out.2.1, HPS.out.2.2]
      exact own_nil _ _ _ _
    · exact (HB1.out.trans (hb2.mono hz1)).alloc (by omega) _)
  have HQ : RowKit.Hid (w.heap.size < w2.heap.size) := Lib.hid (by have := hb2.size; omega)
  clear hb2 x0 hl1
  simp only [cfgCells] at HR
  generalize (w2.alloc (.cells [Value.int .i64 d0.kind, .int .i64 d0.threads, .int .i64 d0.chans, .int .i64 d0.cap, .int .i64 d0.nodes, .int .i64 d0.retire, .int .i64 d0.patience, .int .i64 d0.tags, .int .i64 d0.seqs, .int .i64 d0.gens, .slice d0.sa d0.start.length d0.sc].toArray 45)) = W at *
  generalize w2.heap.size = g at *
  generalize w.heap.size + 1 = L at *
  clear HL1 HRS HB1
  have hW := HR.out.blk.lt
  by_cases hz : K = 0 ∨ 400 < s.size
  · have HV := Lib.hid (show readS s = none by rw [HRV.out, if_pos hz])
    have HEV := Lib.hid (show errS s = 3 by rw [HRE.out, if_pos hz])
    have x0 := HR.out.blk.cell (i := 0) rfl
    by_cases hK0 : d0.kind = 0
    · clear hz
      go_upto_region 4 with (fail)
      refine wp_region_lit ?_
      refine wpList_buildTo rfl 45 #[] rfl (some 26) rfl (cfgCells (plainC 0)).toArray (by kernel_rfl) ?_
      refine wpList_store_row rfl 45 (.tmp 2) (.tmp 26) rfl w.heap.size (cfgCells (plainC 0)).toArray rfl rfl 45 (cfgCells (plainC 0)).toArray HR.out.rs (by kernel_rfl) (by kernel_rfl) (by kernel_rfl) ?_
      rw [setRow_self W w.heap.size _ _ _ HR.out.rs]
      go_wp2
      refine bodyPost_ret (v := .tuple #[cfgV (plainC 0), .int .i64 3]) (ret_cell2 (g := w.heap.size) (v := cfgV (plainC 0)) rfl rfl rfl (cfg_load HR.out.rs)) rfl ?_
      exact .inl ⟨HV.out, by rw [HEV.out], HR.out.bel⟩
    · have q1 : 400 < (s.size : Int) := by
        have := HPK.out
        omega
      clear hz
      go_upto_region 4 with (fail)
      refine wp_region_lit ?_
      refine wpList_buildTo rfl 45 #[] rfl (some 26) rfl (cfgCells (plainC 0)).toArray (by kernel_rfl) ?_
      refine wpList_store_row rfl 45 (.tmp 2) (.tmp 26) rfl w.heap.size (cfgCells (plainC 0)).toArray rfl rfl 45 (cfgCells (plainC 0)).toArray HR.out.rs (by kernel_rfl) (by kernel_rfl) (by kernel_rfl) ?_
      rw [setRow_self W w.heap.size _ _ _ HR.out.rs]
      go_wp2
      refine bodyPost_ret (v := .tuple #[cfgV (plainC 0), .int .i64 3]) (ret_cell2 (g := w.heap.size) (v := cfgV (plainC 0)) rfl rfl rfl (cfg_load HR.out.rs)) rfl ?_
      exact .inl ⟨HV.out, by rw [HEV.out], HR.out.bel⟩
  · have hK0 : ¬ d0.kind = 0 := by
      have := HPK.out
      omega
    have hs4 : s.size ≤ 400 := by omega
    have q1 : ¬ 400 < (s.size : Int) := by omega
    have HV := Lib.hid (show readS s = shapeR K words.tail by rw [HRV.out, if_neg hz])
    have HEX := Lib.hid (show errS s = if (foldR K words.tail).isNone = true then 3 else 1 by rw [HRE.out, if_neg hz])
    have x0 := HR.out.blk.cell (i := 0) rfl
    clear hz
    obtain ⟨m, hm⟩ : ∃ m, n = m + 1 := ⟨n - 1, by omega⟩
    subst hm
    have HTL : RowKit.Hid (words.tail.length = m) := Lib.hid (by rw [List.length_tail, HWN.out]; rfl)
    clear hwp HKI HSP HPL
    have hml : m ≤ 400 := by omega
    by_cases hm0 : m = 0
    · have HFO : RowKit.Hid (foldR K words.tail = some (d0.norm, [])) := Lib.hid (by
        rw [List.eq_nil_of_length_eq_zero (HTL.out.trans hm0), HSR.out, HPN.out]; rfl)
      have hds := HPS.out.1
      have HLE : RowKit.Hid (d0.start.length ≤ 1048576) := Lib.hid (by rw [hds]; exact Nat.zero_le _)
      subst hm0
      clear hds
      go_wp2
      go_loopg [6, 30] 0 (fun gg sv i wr => gg = 0 ∧ sv = .slice none 0 0 ∧ i = .int .i64 0 ∧ wr = W)
      case atStart => exact ⟨rfl, rfl, rfl, rfl⟩
      case round =>
        obtain ⟨_, rfl, rfl, rfl⟩ := hrel
        have xs := fun i v h => Blk.cell HR.out.blk (i := i) (v := v) h
        have x0 := xs 0 _ rfl
        have x1 := xs 1 _ rfl
        have x2 := xs 2 _ rfl
        have x3 := xs 3 _ rfl
        have x4 := xs 4 _ rfl
        have x5 := xs 5 _ rfl
        have x6 := xs 6 _ rfl
        have x7 := xs 7 _ rfl
        have x8 := xs 8 _ rfl
        have x9 := xs 9 _ rfl
        have x10 := xs 10 _ rfl
        clear xs
        have HCF := Lib.hid (HR.out.cfg HLE.out)
        by_cases hc : chkB d0 = true
        · have HC := Lib.hid hc
          clear hc
          go_upto_region 16 with (first | (go_at_call 62; refine (Check_ok d0 _ HCF.out HC.out).mono ?_; rintro e w9 ⟨rfl, hb9⟩))
          have HR9 := Lib.hid (HR.out.draw hb9)
          have HCF9 := Lib.hid (HCF.out.below hb9)
          clear hb9 x0 x1 x2 x3 x4 x5 x6 x7 x8 x9 x10
          refine wp_region_lit ?_
          refine Great.wpList_readTo rfl (some 52) rfl (cfgV d0) (run_load_cfg rfl rfl HR9.out.blk) ?_
          refine wpList_store_row rfl 45 (.tmp 2) (.tmp 52) rfl w.heap.size (cfgCells d0).toArray rfl rfl 45 (cfgCells (plainC 0)).toArray HR9.out.rs (by kernel_rfl) (by kernel_rfl) (cfg_one _) ?_
          have HRW := Lib.hid (HR9.out.rs.row (cfgCells d0))
          have HRO := Lib.hid (HR9.out.done d0)
          generalize (w9.setRow w.heap.size (cfgCells d0).toArray) = WZ at *
          go_wp2
          refine bodyPost_ret (v := .tuple #[cfgV d0, .int .i64 0]) (ret_cell2 (g := w.heap.size) (v := cfgV d0) rfl rfl rfl (cfg_load HRW.out)) rfl ?_
          exact .inr ⟨d0, by rw [HV.out]; exact shape_ok HFO.out HC.out, HC.out, rfl, ⟨HRO.out.1, HCF9.out.2⟩, HRO.out.2⟩
        · have HC := Lib.hid (show chkB d0 = false by simpa using hc)
          clear hc
          have HV2 := Lib.hid (HV.out.trans (shape_no HFO.out HC.out))
          have HEV := Lib.hid (show errS s = 1 by rw [HEX.out, HFO.out]; rfl)
          clear HV
          have HV := HV2
          clear HV2
          go_upto_region 15 with (first | (go_at_call 62; refine (Check_no d0 _ HCF.out HC.out).mono ?_; rintro e w9 ⟨rfl, hb9⟩))
          have HR9 := Lib.hid (HR.out.draw hb9)
          clear hb9 x0 x1 x2 x3 x4 x5 x6 x7 x8 x9 x10
        
          go_upto_region 15 with (fail)
          refine wp_region_lit ?_
          refine wpList_buildTo rfl 45 #[] rfl (some 51) rfl (cfgCells (plainC 0)).toArray (by kernel_rfl) ?_
          refine wpList_store_row rfl 45 (.tmp 2) (.tmp 51) rfl w.heap.size (cfgCells (plainC 0)).toArray rfl rfl 45 (cfgCells (plainC 0)).toArray HR9.out.rs (by kernel_rfl) (by kernel_rfl) (by kernel_rfl) ?_
          rw [setRow_self w9 w.heap.size _ _ _ HR9.out.rs]
          go_wp2
          refine bodyPost_ret (v := .tuple #[cfgV (plainC 0), .int .i64 1]) (ret_cell2 (g := w.heap.size) (v := cfgV (plainC 0)) rfl rfl rfl (cfg_load HR9.out.rs)) rfl ?_
          exact .inl ⟨HV.out, by rw [HEV.out], HR9.out.bel⟩
    · have hm1 : 0 < m := Nat.pos_of_ne_zero hm0
      have HPO : RowKit.Hid (d0.start.length = 0) := Lib.hid (by rw [HPS.out.1]; rfl)
      have HF0 : RowKit.Hid (foldR K (words.tail.take 0) = some (d0.norm, [])) := Lib.hid (by rw [List.take_zero, HSR.out, HPN.out]; rfl)
      clear hm1
      go_wp2
      go_loopg [6, 30] m (fun gg sv i wr => ∃ (k : Nat) (d : Cfg) (seen : List ByteArray) (A : Option Addr) (c : Nat), k ≤ m ∧ gg = m - k ∧ i = .int .i64 k ∧ sv = .slice A seen.length c ∧ foldR K (words.tail.take k) = some (d.norm, seen) ∧ d.start.length ≤ k ∧ seen.length ≤ k ∧ RIn w L w.heap.size g words d seen A c wr)
      case atStart => exact ⟨0, d0, [], none, 0, Nat.zero_le _, rfl, rfl, rfl, HF0.out, by rw [HPO.out]; exact Nat.le_refl _, Nat.le_refl _, HR.out⟩
      case round =>
        obtain ⟨k, d, seen, A, c, hk, hg, rfl, rfl, hfo, hds, hsl, hr⟩ := hrel
        clear HR HPO HF0
        have HGK := Lib.hid hg
        have HFK := Lib.hid hfo
        have HR := Lib.hid hr
        clear hg hfo hr hW
        have hgw := HR.out.blk.lt
        by_cases hkm : k < m
        · have q3 : (k : Int) < (m : Int) := by omega
          have HSTEP := Lib.hid (foldR_step (by rw [HTL.out]; exact hkm) HFK.out)
          have x1 : wr.cell? ⟨L, 1 + k, none⟩ = some (.string (words.getD (k + 1) ⟨#[]⟩)) := by
            rw [Nat.add_comm 1 k]
            exact HR.out.word (k := k + 1) (by rw [HWN.out]; omega)
          have HWZ := Lib.hid (HWS.out (words.getD (k + 1) ⟨#[]⟩) (by rw [List.getD, List.getElem?_eq_getElem (by rw [HWN.out]; omega)]; exact List.getElem_mem _))
          have HTG : RowKit.Hid (words.tail.getD k ⟨#[]⟩ = words.getD (k + 1) ⟨#[]⟩) := Lib.hid (by rw [List.getD, List.getD, List.getElem?_tail])
          rw [HTG.out] at HSTEP
          clear HTG
          generalize words.getD (k + 1) ⟨#[]⟩ = word at *
          have HSA := Lib.hid (set_any g w.heap.size d A c seen word wr HR.out.blk HR.out.st HR.out.bel.size (own_rd HR.out.sn) (by omega) (by omega) (by have := HWZ.out; omega) (HT.out.below HR.out.bel) (HE.out.below HR.out.bel) (HM.out.below HR.out.bel))
          go_wp2_with fail
          refine HSA.out.mono ?_
          rintro e w5 hpost
          have hways : (foldR K (words.tail.take (k + 1)) = none ∧ e = .returned (.tuple #[.string ⟨#[]⟩, .bool false]) ∧ RIn w L w.heap.size g words d seen A c w5) ∨ ∃ d' nm, foldR K (words.tail.take (k + 1)) = some (d'.norm, seen ++ [nm]) ∧ e = .returned (.tuple #[.string nm, .bool true]) ∧ RIn w L w.heap.size g words d' seen A c w5 ∧ d'.start.length ≤ k + 1 := by
            have hst := HSTEP.out
            change _ = putR d.norm seen (setS seen word) at hst
            rcases hpost with ⟨hno, rfl, hb5⟩ | ⟨sn, A2, c2, hse, rfl, hb5, hs5, hk5⟩ | ⟨name, i, sn, hse, hi9, rfl, hb5, hk5⟩
            · rw [hno] at hst
              exact .inl ⟨hst, rfl, HR.out.draw hb5⟩
            · rw [hse] at hst
              exact .inr ⟨{ d with start := d.start ++ [(sn : Int)], sa := A2, sc := c2 }, startS, hst.trans rfl, rfl, HR.out.start hb5 hs5 hk5, by rw [List.length_append, List.length_singleton]; omega⟩
            · rw [hse] at hst
              refine .inr ⟨d.put i sn, name, hst.trans ?_, rfl, HR.out.put hb5 hk5, by rw [(put_start d sn i).1]; omega⟩
              rw [norm_put]
              rfl
          clear hpost x1 HSTEP HSA
          rcases hways with ⟨hfn, rfl, hr5⟩ | ⟨d', nm, hfs, rfl, hr5, hds5⟩
          · have HR5 := Lib.hid hr5
            have HV2 := Lib.hid (HV.out.trans (foldR_dead hfn))
            have HEV := Lib.hid (show errS s = 3 by rw [HEX.out, foldR_gone hfn]; rfl)
            clear HV
            have HV := HV2
            clear HV2 hfn hr5
            go_upto_region 11 with (fail)
            refine wp_region_lit ?_
            refine wpList_buildTo rfl 45 #[] rfl (some 42) rfl (cfgCells (plainC 0)).toArray (by kernel_rfl) ?_
            refine wpList_store_row rfl 45 (.tmp 2) (.tmp 42) rfl w.heap.size (cfgCells (plainC 0)).toArray rfl rfl 45 (cfgCells (plainC 0)).toArray HR5.out.rs (by kernel_rfl) (by kernel_rfl) (by kernel_rfl) ?_
            rw [setRow_self w5 w.heap.size _ _ _ HR5.out.rs]
            go_wp2
            refine bodyPost_ret (v := .tuple #[cfgV (plainC 0), .int .i64 3]) (ret_cell2 (g := w.heap.size) (v := cfgV (plainC 0)) rfl rfl rfl (cfg_load HR5.out.rs)) rfl ?_
            exact .inl ⟨HV.out, by rw [HEV.out], HR5.out.bel⟩
          · have HR5 := Lib.hid hr5
            have HF5 := Lib.hid hfs
            have HDS := Lib.hid hds5
            clear hfs hr5 hds5
            generalize hsn : seen.length = sn at *
            have HSN := Lib.hid hsn
            clear hsn
            go_wp2_with (at_builtin; refine wpList_app rfl (.tmp 43) (.tmp 45) 86 9 rfl (L + 1) (.string ⟨#[]⟩) 1 16 Tryd.underlying86 str_info rfl (by decide) A sn c (rows seen) rfl (own_below (HSN.out ▸ HR5.out.sn) ((Below.refl _ _).alloc (Nat.le_refl _) _)) (some ⟨w5.heap.size, 0, none⟩) 1 1 (rows [nm]) rfl (by simp) rfl (blk_new (cs := rows [nm]) rfl).rd (rows_one _) (sn + 1) rfl (rows (seen ++ [nm])) (by rw [rows_append]) (by unfold maxLen; omega) (by omega) (by have := HR5.out.ws.lt; simp; omega) ?_; intro V3 cv3 w6 hown3 hg3 hb3)
            have hsn := HSN.out
            subst hsn
            have HR6 := Lib.hid (HR5.out.app hown3 hg3)
            go_roundg (m - (k + 1))
            case measure => rw [HGK.out]; omega
            case rel => exact ⟨k + 1, d', seen ++ [nm], V3, cv3, by omega, rfl, by go_num, by rw [List.length_append, List.length_singleton], HF5.out, HDS.out, by rw [List.length_append, List.length_singleton]; omega, HR6.out⟩
        · obtain rfl : k = m := by omega
          have q3 : ¬ (k : Int) < (k : Int) := by omega
          have HFO : RowKit.Hid (foldR K words.tail = some (d.norm, seen)) := Lib.hid (by
            have := HFK.out
            rwa [List.take_of_length_le (by rw [HTL.out]; exact Nat.le_refl _)] at this)
          have xs := fun i v h => Blk.cell HR.out.blk (i := i) (v := v) h
          have x0 := xs 0 _ rfl
          have x1 := xs 1 _ rfl
          have x2 := xs 2 _ rfl
          have x3 := xs 3 _ rfl
          have x4 := xs 4 _ rfl
          have x5 := xs 5 _ rfl
          have x6 := xs 6 _ rfl
          have x7 := xs 7 _ rfl
          have x8 := xs 8 _ rfl
          have x9 := xs 9 _ rfl
          have x10 := xs 10 _ rfl
          clear xs
          have HCF := Lib.hid (HR.out.cfg (by omega))
          by_cases hc : chkB d = true
          · have HC := Lib.hid hc
            clear hc
            go_upto_region 16 with (first | (go_at_call 62; refine (Check_ok d _ HCF.out HC.out).mono ?_; rintro e w9 ⟨rfl, hb9⟩))
            have HR9 := Lib.hid (HR.out.draw hb9)
            have HCF9 := Lib.hid (HCF.out.below hb9)
            clear hb9 x0 x1 x2 x3 x4 x5 x6 x7 x8 x9 x10
            refine wp_region_lit ?_
            refine Great.wpList_readTo rfl (some 52) rfl (cfgV d) (run_load_cfg rfl rfl HR9.out.blk) ?_
            refine wpList_store_row rfl 45 (.tmp 2) (.tmp 52) rfl w.heap.size (cfgCells d).toArray rfl rfl 45 (cfgCells (plainC 0)).toArray HR9.out.rs (by kernel_rfl) (by kernel_rfl) (cfg_one _) ?_
            have HRW := Lib.hid (HR9.out.rs.row (cfgCells d))
            have HRO := Lib.hid (HR9.out.done d)
            generalize (w9.setRow w.heap.size (cfgCells d).toArray) = WZ at *
            go_wp2
            refine bodyPost_ret (v := .tuple #[cfgV d, .int .i64 0]) (ret_cell2 (g := w.heap.size) (v := cfgV d) rfl rfl rfl (cfg_load HRW.out)) rfl ?_
            exact .inr ⟨d, by rw [HV.out]; exact shape_ok HFO.out HC.out, HC.out, rfl, ⟨HRO.out.1, HCF9.out.2⟩, HRO.out.2⟩
          · have HC := Lib.hid (show chkB d = false by simpa using hc)
            clear hc
            have HV2 := Lib.hid (HV.out.trans (shape_no HFO.out HC.out))
            have HEV := Lib.hid (show errS s = 1 by rw [HEX.out, HFO.out]; rfl)
            clear HV
            have HV := HV2
            clear HV2
            go_upto_region 15 with (first | (go_at_call 62; refine (Check_no d _ HCF.out HC.out).mono ?_; rintro e w9 ⟨rfl, hb9⟩))
            have HR9 := Lib.hid (HR.out.draw hb9)
            clear hb9 x0 x1 x2 x3 x4 x5 x6 x7 x8 x9 x10
          
            go_upto_region 15 with (fail)
            refine wp_region_lit ?_
            refine wpList_buildTo rfl 45 #[] rfl (some 51) rfl (cfgCells (plainC 0)).toArray (by kernel_rfl) ?_
            refine wpList_store_row rfl 45 (.tmp 2) (.tmp 51) rfl w.heap.size (cfgCells (plainC 0)).toArray rfl rfl 45 (cfgCells (plainC 0)).toArray HR9.out.rs (by kernel_rfl) (by kernel_rfl) (by kernel_rfl) ?_
            rw [setRow_self w9 w.heap.size _ _ _ HR9.out.rs]
            go_wp2
            refine bodyPost_ret (v := .tuple #[cfgV (plainC 0), .int .i64 1]) (ret_cell2 (g := w.heap.size) (v := cfgV (plainC 0)) rfl rfl rfl (cfg_load HR9.out.rs)) rfl ?_
            exact .inl ⟨HV.out, by rw [HEV.out], HR9.out.bel⟩

end Go.Proofs.YtknlhkkpheahlaaDoor

/- hall: a channel is closed: walked. -/
import Derived.Deep.DeepCutAuto
import Derived.Test.YtieglgahfeecbaaGreatDoorP1
import Derived.Test.YtieglgahfeecbaaGreatDoorP16
set_option maxHeartbeats 64000000
set_option maxRecDepth 100000
namespace Go.Proofs.YtieglgahfeecbaaGreatDoor
open Go.RowKit Go.Sort
attribute [local go_sem ↓] Go.wp_at_zero Go.wp_at_succ
theorem app_where {P : Program} (w : World) (base : Nat) (t ty e : TypeId) (i : TypeInfo) (z : Value) (size bytes : Nat) (ht : P.underlying t = some (.slice e)) (hi : P.info? e = some i) (hz : i.zero = some z)
  (hsize : i.size = size) (hby : i.bytes = bytes) (v : Value) (n : Nat) (xs : List Value) (hown : w.ownsRow base e size v n xs)
  (a : Addr) (m c : Nat) (news : List Value) (hl : news.length = m * size) (hnews : ∀ j u, news[j]? = some u -> w.cell? (a.add j) = some u) (h1 : ∀ u ∈ news, u.oneCell' = true)
  (h63 : n + m <= maxLen) (hbytes : (n + m) * bytes <= 140737488355328) {v' : Value} {w' : World} (hrun : (Builtin.append_ #[t, t] ty #[v, .slice (some a) m c]).run P w = .ok v' w') :
  ∀ k, v'.ownBlock = some k -> v.ownBlock = some k ∨ w.heap.size <= k := by
 subst hsize
 subst hby
 have hsmall : n + m <= 9223372036854775807 := by simp only [maxLen] at h63; omega
 rcases hown.2 with ⟨rfl, rfl⟩ | ⟨g, cap, cur, rfl, hbg, hg, hnc, hcm, hcs, htake⟩
 . by_cases hm : m = 0
   . subst hm
     have hr : (Builtin.append_ #[t, t] ty #[.slice none 0 0, .slice (some a) 0 c]).run P w = .ok (.slice none 0 0) w := by
      simp [Builtin.append_, run_underlying ht, sizeOf, typeInfo, hi, Builtin.lenOf, Builtin.firstCells, loadCells, loadCellsFrom]
     rw [hr] at hrun
     injection hrun with e1 e2
     subst e1
     intro k hk
     cases hk
   . have hr := run_append_nil (P := P) w t ty e i z ht hi hz a m c news hl hnews (by omega) (by omega) (by have hb := hbytes; simp only [Nat.zero_add] at hb; omega)
     rw [hr] at hrun
     injection hrun with e1 e2
     subst e1
     intro k hk
     injection hk with hk
     exact .inr (by rw [<- hk]; exact Nat.le_refl _)
 . by_cases hroom : n + m <= cap
   . have hfit : n * i.size + news.length <= cur.size := by rw [hl, hcs, <- Nat.add_mul]; exact Nat.mul_le_mul_right _ hroom
     have hr := run_append_room (P := P) w t ty e i ht hi g n cap cur hg a m c news hl hnews h1 hroom hfit
     rw [hr] at hrun
     injection hrun with e1 e2
     subst e1
     exact fun k hk => .inl hk
   . have holds : ∀ j u, xs[j]? = some u -> w.cell? ((⟨g, 0, none⟩ : Addr).add j) = some u := hown.cells (g := g) rfl
     have hr := run_append_grow (P := P) w t ty e i z ht hi hz ⟨g, 0, none⟩ n cap xs hown.1 holds a m c news hl hnews (by omega) (by omega) (growslice_fits (by omega) hbytes)
     rw [hr] at hrun
     injection hrun with e1 e2
     subst e1
     intro k hk
     injection hk with hk
     exact .inr (by rw [<- hk]; exact Nat.le_refl _)
theorem wp_app2 {o : Oper} {a : Act} {w : World} {K : Act -> World -> Prop} {Q : Exit -> Act -> World -> Prop} (s x : Operand) (t e : TypeId)
  (ho : o.op = .call { callee := .builtin .append, args := #[s, x], argTypes := #[t, t] })
  (base : Nat) (z : Value) (size bytes : Nat) (ht : Tryz.prog.underlying t = some (.slice e)) (hinfo : (Tryz.prog.info? e).map (fun i => (i.zero, i.size, i.bytes)) = some (some z, size, bytes)) (hzs : z.cells.size = size) (hsz : 0 < size)
  (A : Option Addr) (n c : Nat) (xs : List Value) (hs : a.eval s = .slice A n c) (hown : w.ownsRow base e size (.slice A n c) n xs)
  (B : Option Addr) (m d : Nat) (news : List Value) (hx : a.eval x = .slice B m d) (hd : B = none -> m = 0 /\ d = 0) (hl : news.length = m * size) (hR : Rd w B news) (h1 : ∀ u ∈ news, u.oneCell' = true)
  (N : Nat) (hN : n + m = N) (ys : List Value) (hys : xs ++ news = ys) (h63 : N <= maxLen) (hbytes : N * bytes <= 140737488355328) (hbase : base <= w.heap.size)
  (h : ∀ A' c' w', w'.ownsRow base e size (.slice A' N c') N ys -> w.grownBy w' (Value.ownBlock (.slice A n c)) -> Below base w w' -> (∀ k, Value.ownBlock (.slice A' N c') = some k -> Value.ownBlock (.slice A n c) = some k ∨ w.heap.size <= k) -> K (a.put o.dst (.slice A' N c')) w') : o.wp Tryz.prog a w K Q := by
 subst hN hys
 obtain ⟨i0, hi, hz0, hz1, hz2⟩ := info_parts hinfo
 cases B with
 | some ad =>
   obtain ⟨v', w', hrun, hown', hg, _⟩ := run_append_own (P := Tryz.prog) (w := w) base t o.type e i0 z size bytes ht hi hz0 hz1 hz2 hzs hsz _ n xs hown ad m d news hl (rd_add hR) h1 h63 hbytes hbase
   have hw := app_where w base t o.type e i0 z size bytes ht hi hz0 hz1 hz2 _ n xs hown ad m d news hl (rd_add hR) h1 h63 hbytes hrun
   obtain ⟨A', c', rfl⟩ := own_slice hown'
   unfold Oper.wp
   simp only [execOp, ho, resolve, invoke, builtin, Sem.run_bind, Sem.run_pure, Result.andThen_ok, List.map_toArray, List.map_cons, List.map_nil, hs, hx, hrun]
   exact h A' c' w' hown' hg (own_grown hown hbase hg) hw
 | none =>
   obtain ⟨rfl, rfl⟩ := hd rfl
   have hnil : news = [] := List.eq_nil_of_length_eq_zero (by rw [hl]; simp)
   subst hnil
   have hrun := run_append_owned_none (P := Tryz.prog) (w := w) base t o.type e i0 size ht hi _ n xs hown
   unfold Oper.wp
   simp only [execOp, ho, resolve, invoke, builtin, Sem.run_bind, Sem.run_pure, Result.andThen_ok, List.map_toArray, List.map_cons, List.map_nil, hs, hx, hrun]
   exact h A c w (by simpa using hown) (grown_refl _ _) (Below.refl _ _) (fun k hk => .inl hk)
theorem wpList_app2 {ops : Array Oper} {rest : List Oper} {o : Oper} {a : Act} {w : World} {Q : Exit -> Act -> World -> Prop} (hgd : o.guard = none) (s x : Operand) (t e : TypeId)
  (ho : o.op = .call { callee := .builtin .append, args := #[s, x], argTypes := #[t, t] })
  (base : Nat) (z : Value) (size bytes : Nat) (ht : Tryz.prog.underlying t = some (.slice e)) (hinfo : (Tryz.prog.info? e).map (fun i => (i.zero, i.size, i.bytes)) = some (some z, size, bytes)) (hzs : z.cells.size = size) (hsz : 0 < size)
  (A : Option Addr) (n c : Nat) (xs : List Value) (hs : a.eval s = .slice A n c) (hown : w.ownsRow base e size (.slice A n c) n xs)
  (B : Option Addr) (m d : Nat) (news : List Value) (hx : a.eval x = .slice B m d) (hd : B = none -> m = 0 /\ d = 0) (hl : news.length = m * size) (hR : Rd w B news) (h1 : ∀ u ∈ news, u.oneCell' = true)
  (N : Nat) (hN : n + m = N) (ys : List Value) (hys : xs ++ news = ys) (h63 : N <= maxLen) (hbytes : N * bytes <= 140737488355328) (hbase : base <= w.heap.size)
  (h : ∀ A' c' w', w'.ownsRow base e size (.slice A' N c') N ys -> w.grownBy w' (Value.ownBlock (.slice A n c)) -> Below base w w' -> (∀ k, Value.ownBlock (.slice A' N c') = some k -> Value.ownBlock (.slice A n c) = some k ∨ w.heap.size <= k) -> wpList Tryz.prog ops Q rest (a.put o.dst (.slice A' N c')) w') : wpList Tryz.prog ops Q (o :: rest) a w :=
 wpList_plain hgd fun _ hK => wp_app2 s x t e ho base z size bytes ht hinfo hzs hsz A n c xs hs hown B m d news hx hd hl hR h1 N hN ys hys h63 hbytes hbase fun A' c' w' h2 h3 h4 h5 => hK _ _ (h A' c' w' h2 h3 h4 h5)
structure Grown (w : World) (v : Value) (w' : World) (v' : Value) : Prop where
 by_ : w.grownBy w' v.ownBlock
 row : ∀ j, v'.ownBlock = some j -> v.ownBlock = some j ∨ w.heap.size <= j
theorem Grown.refl (w : World) (v : Value) : Grown w v w v := ⟨World.grownBy.refl _ _, fun _ h => .inl h⟩
theorem grownBy_trans {w w1 w2 : World} {row : Option Nat} (h : w.grownBy w1 row) (h2 : w1.grownBy w2 row) : w.grownBy w2 row :=
 ⟨h2.os.trans h.os, h2.tape.trans h.tape, h2.output.trans h.output, Nat.le_trans h.size h2.size, fun k hk hn => (h2.block k (Nat.lt_of_lt_of_le hk h.size) hn).trans (h.block k hk hn)⟩
theorem Grown.step {w w1 w2 : World} {v v1 v2 : Value} (h : Grown w v w1 v1) (hg : w1.grownBy w2 v1.ownBlock) (hr : ∀ j, v2.ownBlock = some j -> v1.ownBlock = some j ∨ w1.heap.size <= j) : Grown w v w2 v2 :=
 ⟨⟨hg.os.trans h.by_.os, hg.tape.trans h.by_.tape, hg.output.trans h.by_.output, Nat.le_trans h.by_.size hg.size, fun k hk hn => (hg.block k (Nat.lt_of_lt_of_le hk h.by_.size) (fun e => by
  rcases h.row k e.symm with h1 | h1
  . exact hn h1.symm
  . omega)).trans (h.by_.block k hk hn)⟩, fun j hj => by
  rcases hr j hj with h1 | h1
  . exact h.row j h1
  . exact .inr (Nat.le_trans h.by_.size h1)⟩
theorem Grown.blk {w w1 : World} {v v1 : Value} {g : Nat} {t : TypeId} {cs : List Value} (h : Grown w v w1 v1) (hb : Blk w g t cs) (hn : some g ≠ v.ownBlock) : Blk w1 g t cs := blk_grown hb h.by_ hn
def RetGrow (base : Nat) (v : Value) (m : Nat) (xs : List Int) (w : World) (e : Ending) (w' : World) : Prop :=
 ∃ A c, e = .returned (.slice A m c) /\ w'.ownsRow base 95 1 (.slice A m c) m (words xs) /\ Below base w w' /\ Grown w v w' (.slice A m c)
theorem krowG_any (base : Nat) (A : Option Addr) (m c : Nat) (xs : List Int) (B : Option Addr) (d : Nat) (l : List Int) (n : Nat) (w : World) (hb : base <= w.heap.size) (hown : w.ownsRow base 95 1 (.slice A m c) m (words xs))
  (hl : l.length <= 1048576) (hv : ∀ v ∈ l, inB v 0 4294967295 = true) (hn : n <= 4096) (hm : m <= 4096) (hR : ∀ w', Below base w w' -> Rd w' B (ints l)) :
  Calls Tryz.prog 74 #[.slice A m c, .slice B l.length d, .int .i64 n] w (RetGrow base (.slice A m c) (m + n) (xs ++ rowI l n) w) := by
 have HR := Zd hR
 have HV := Zd hv
 have HS := Zd hb
 clear hR hv hb
 generalize hll : l.length = ll at *
 have HL := Zd hll
 clear hll
 go_enter Tryz.func74, Tryz.ntmps74
 go_wp2_with fail
 go_loopg [0, 10] n (fun g out i wr => ∃ (k : Nat) (A1 : Option Addr) (c1 : Nat), k <= n /\ g = n - k /\ i = .int .i64 k /\ out = .slice A1 (m + k) c1 /\ wr.ownsRow base 95 1 (.slice A1 (m + k) c1) (m + k) (words (xs ++ rowI l k)) /\ Below base w wr /\ Grown w (.slice A m c) wr (.slice A1 (m + k) c1))
 case atStart => exact ⟨0, A, c, Nat.zero_le _, rfl, rfl, rfl, by simpa [rowI] using hown, Below.refl _ _, Grown.refl _ _⟩
 case round =>
  obtain ⟨k, A1, c1, hk, hg, rfl, rfl, how, hb, hgr⟩ := hrel
  have HGR := Zd hgr
  have HG := Zd hg
  have HB := Zd hb
  have HO := Zd how
  have HSZ := Zd (Nat.le_trans HS.out hb.size)
  clear hg hb how hown hgr
  have HRW := Zd (rowI_succ l k)
  by_cases hlt : k < n
  . by_cases hlk : k < ll
    . obtain ⟨b, o, rfl, hbl, hc⟩ := (HR.out _ HB.out).at_ (by rw [ints_length]; have := HL.out; omega)
      have hcell : wr.cell? ⟨b, o + k, none⟩ = some (.int .i64 (l.getD k 0)) := hc k _ (ints_at (by have := HL.out; omega))
      have hv := HV.out (l.getD k 0) (getD_mem (by have := HL.out; omega))
      rw [if_pos (by have := HL.out; omega)] at HRW
      generalize l.getD k 0 = x at *
      simp only [inB, Bool.and_eq_true, decide_eq_true_eq] at hv
      obtain ⟨v0, v1⟩ := hv
      clear hc
      go_wp2_with (at_builtin; refine wpList_app2 rfl (.tmp 22) (.tmp 24) 53 95 rfl base (.int .u64 0) 1 8 Tryz.underlying53 CloneW_info rfl (by decide) A1 (m + k) c1 _ rfl (HO.out.alloc _) (some ⟨wr.heap.size, 0, none⟩) 1 1 (words [x]) rfl (by simp) rfl (blk_new rfl).rd (words_one _) (m + (k + 1)) (by omega) (words (xs ++ rowI l (k + 1))) (by rw [HRW.out, wordsApp, List.append_assoc]) (by unfold maxLen; omega) (by omega) (Nat.le_trans HSZ.out (by simp)) ?_; intro A2 c2 w2 hown2 hg2 hb2 hw2)
      go_roundg (n - (k + 1))
      case measure => rw [HG.out]; omega
      case rel => exact ⟨k + 1, A2, c2, by omega, rfl, by go_num, rfl, hown2, (HB.out.alloc HSZ.out _).trans hb2, HGR.out.step (grownBy_trans (World.grownBy_alloc wr _ _) hg2) (fun j hj => (hw2 j hj).imp id (fun h => Nat.le_trans (by simp) h))⟩
    . rw [if_neg (by have := HL.out; omega)] at HRW
      go_wp2_with (at_builtin; refine wpList_app2 rfl (.tmp 22) (.tmp 24) 53 95 rfl base (.int .u64 0) 1 8 Tryz.underlying53 CloneW_info rfl (by decide) A1 (m + k) c1 _ rfl (HO.out.alloc _) (some ⟨wr.heap.size, 0, none⟩) 1 1 (words [0]) rfl (by simp) rfl (blk_new rfl).rd (words_one _) (m + (k + 1)) (by omega) (words (xs ++ rowI l (k + 1))) (by rw [HRW.out, wordsApp, List.append_assoc]) (by unfold maxLen; omega) (by omega) (Nat.le_trans HSZ.out (by simp)) ?_; intro A2 c2 w2 hown2 hg2 hb2 hw2)
      go_roundg (n - (k + 1))
      case measure => rw [HG.out]; omega
      case rel => exact ⟨k + 1, A2, c2, by omega, rfl, by go_num, rfl, hown2, (HB.out.alloc HSZ.out _).trans hb2, HGR.out.step (grownBy_trans (World.grownBy_alloc wr _ _) hg2) (fun j hj => (hw2 j hj).imp id (fun h => Nat.le_trans (by simp) h))⟩
  . obtain rfl : k = n := by omega
    go_wp2_with fail
    go_ret
    exact ⟨A1, c1, rfl, HO.out, HB.out, HGR.out⟩
structure PutF (h : Hal) (cp : Nat) : Prop where
 tk : 0 <= h.ticket /\ h.ticket <= 4294967295
 cp : cp <= 16
 nc : h.chans.length <= 8
 nw : h.waits.length <= 64
 nd : h.done.length <= 64
 ch : ∀ x ∈ h.chans, (0 <= x.gen /\ x.gen <= 4095) /\ (0 <= x.cap /\ x.cap <= 15) /\ x.buf.length <= 4095 /\ ∀ v ∈ x.buf, inB v 0 4294967295 = true
 wt : ∀ x ∈ h.waits, fitsQ ⟨3, 0, 0, false, x.cs⟩ = true /\ (0 <= x.ticket /\ x.ticket <= 4294967295) /\ (0 <= x.seq /\ x.seq <= 1048575) /\ x.cs.length <= 3
theorem put_facts {c : Cfg} {h : Hal} (hf : fitsH c h.p = true) : ∃ cp : Nat, c.cap = cp /\ PutF h cp := by
 have h0 := hf
 unfold fitsH at h0
 simp only [Bool.and_eq_true, decide_eq_true_eq] at h0
 have hck := h0.1.1.1.1.1.1.1
 have hk := h0.1.1.1.1.1.1.2
 clear h0
 have hF := (fitsH_iff hck hk).1 hf
 have hcap := chk_cap hck
 have hcap8 : c.cap <= 8 := by
  simp [chkB, ownB, inB, hk] at hck
  omega
 have e1 : h.p.chans.length = h.chans.length := by unfold Hal.p; simp
 have e2 : h.p.waits.length = h.waits.length := by unfold Hal.p; simp
 have e3 : h.p.done.length = h.done.length := rfl
 refine ⟨c.cap.toNat, by omega, ⟨hF.tick, by omega, by have := hF.nch; omega, by have := hF.nwt; omega, by have := hF.ndn; omega, fun x hx => ?_, fun x hx => ?_⟩⟩
 . have h1 := hF.ch x.p (List.mem_map_of_mem hx)
   have h2 := chanB_vals h1
   unfold chanB inB at h1
   simp only [Bool.and_eq_true, decide_eq_true_eq] at h1
   have e4 : x.p.gen = x.gen := rfl
   have e5 : x.p.cap = x.cap := rfl
   have e6 : x.p.buf = x.buf := rfl
   rw [e4, e5] at h1
   rw [e5, e6] at h2
   exact ⟨h1.1.1.1, by omega, by omega, h2.1⟩
 . have h1 := hF.wt x.p (List.mem_map_of_mem hx)
   have e4 : x.p.on = x.on := rfl
   have e5 : x.p.cs = x.cs := rfl
   have e6 : x.p.ticket = x.ticket := rfl
   have e7 : x.p.seq = x.seq := rfl
   cases hon : x.on
   . unfold waitB at h1
     rw [e4, hon, if_neg (by simp), e5, e6, e7] at h1
     simp only [Bool.and_eq_true, decide_eq_true_eq] at h1
     have : x.cs = [] := List.eq_nil_of_length_eq_zero h1.2
     rw [this]
     refine ⟨by decide, by omega, by omega, by simp⟩
   . have h2 := wait_case h1 (e4.trans hon)
     unfold waitB at h1
     rw [e4, hon, if_pos rfl, e5, e6, e7] at h1
     simp only [inB, Bool.and_eq_true, decide_eq_true_eq] at h1
     refine ⟨?_, h1.1.1.1, h1.1.1.2, by omega⟩
     unfold fitsQ
     simp only [Bool.and_eq_true, decide_eq_true_eq, List.all_eq_true]
     exact ⟨⟨⟨⟨by decide, by decide⟩, by decide⟩, by omega⟩, h2.1⟩
theorem fitsH_ok {c : Cfg} {h : HallP} (hf : fitsH c h = true) : chkB c = true /\ c.kind = 3 := by
 unfold fitsH at hf
 simp only [Bool.and_eq_true, decide_eq_true_eq] at hf
 exact ⟨hf.1.1.1.1.1.1.1, hf.1.1.1.1.1.1.2⟩
theorem whead_parts {u n s t : Int} (h1 : 0 <= u /\ u <= 1) (h2 : 0 <= n /\ n <= 3) (h3 : 0 <= s /\ s <= 1048575) (h4 : 0 <= t /\ t <= 4294967295) :
  bits BinOp.or IntKind.u64 u (n * 2) = u + n * 2 /\ bits BinOp.or IntKind.u64 (u + n * 2) (s * 16) = u + n * 2 + s * 16 /\
  bits BinOp.or IntKind.u64 (u + n * 2 + s * 16) (t * 4294967296) = u + n * 2 + s * 16 + t * 4294967296 :=
 ⟨or_low u n 2 1 (by decide +kernel) (by omega) (by omega) (by omega) (by omega), or_low (u + n * 2) s 16 4 (by decide +kernel) (by omega) (by omega) (by omega) (by omega),
  or_low (u + n * 2 + s * 16) t 4294967296 32 (by decide +kernel) (by omega) (by omega) (by omega) (by omega)⟩
theorem own_rd_mid {w : World} {base g c : Nat} {e : TypeId} {a z : Int} {l : List Int} (h : w.ownsRow base e 1 (.slice (some ⟨g, 0, none⟩) 5 c) 5 (words (a :: (l ++ [z])))) : Rd w (some ⟨g, 1, none⟩) (words l) := by
 have hc := own_cellAt h
 refine .inr ⟨g, 1, rfl, ?_, fun k v hk => ?_⟩
 . rcases h.2 with ⟨hv, _⟩ | ⟨g2, cap, cur, hv, hb, hh, _⟩
   . cases hv
   . injection hv with h1 _ _
     injection h1 with h1
     injection h1 with h1 _ _
     subst h1
     exact (Array.getElem?_eq_some_iff.mp hh).1
 . have hkl : k < (words l).length := (List.getElem?_eq_some_iff.mp hk).1
   have e : (words (a :: (l ++ [z])))[k + 1]? = (words l)[k]? := by
    rw [show words (a :: (l ++ [z])) = Value.int .u64 a :: (words l ++ words [z]) from by simp [words], List.getElem?_cons_succ, List.getElem?_append_left hkl]
   have := hc (k + 1) v (e.trans hk)
   rw [show 1 + k = 0 + (k + 1) by omega]
   exact this
theorem take_flat {α : Type} (F : α -> List Int) (d : α) (l : List α) (k : Nat) (h : k < l.length) : (l.take (k + 1)).flatMap F = (l.take k).flatMap F ++ F (l.getD k d) := by
 rw [List.take_succ_eq_append_getElem h, List.flatMap_append]
 simp [List.getD, h]
def hstCells (h : Hal) (c : Cfg) (t n : Int) : List Value := [.int .i64 h.ticket, .slice h.CA h.chans.length h.cc, .slice h.WA h.waits.length h.wc, .slice h.DA h.done.length h.dc] ++ (cfgCells c ++ [.int .i64 t, .int .i64 n])
structure HSt (base g : Nat) (w : World) (h : Hal) (c : Cfg) (t n : Int) : Prop where
 box : Blk w g 181 (hstCells h c t n)
 own : OwnHal base w h
 new : base <= g
theorem HSt.below {base g : Nat} {w w' : World} {h : Hal} {c : Cfg} {t n : Int} (H : HSt base g w h c t n) (hb : Below w.heap.size w w') : HSt base g w' h c t n :=
 ⟨H.box.below hb H.box.lt, H.own.below hb, H.new⟩
theorem HSt.lt {base g : Nat} {w : World} {h : Hal} {c : Cfg} {t n : Int} (H : HSt base g w h c t n) : g < w.heap.size := H.box.lt
theorem own_sets {w : World} {base base2 : Nat} {e e' : TypeId} {s s' n n2 g c : Nat} {v : Value} {xs ys : List Value} (h : w.ownsRow base e s v n xs) (h2 : w.ownsRow base2 e' s' (.slice (some ⟨g, 0, none⟩) n2 c) n2 ys) (hne : e ≠ e') (o : Nat) (vs : List Value) :
  (setsAt w g o vs).ownsRow base e s v n xs := by
 obtain ⟨cur, hc⟩ := own_blk h2
 exact own_setsTy hne vs w cur o h hc
theorem OwnBuf.sets {w : World} {base base2 : Nat} {e' : TypeId} {s' n2 g c : Nat} {x : Chn} {ys : List Value} (h : OwnBuf base w x) (h2 : w.ownsRow base2 e' s' (.slice (some ⟨g, 0, none⟩) n2 c) n2 ys) (hne : 3 ≠ e') (o : Nat) (vs : List Value) : OwnBuf base (setsAt w g o vs) x := own_sets h h2 hne o vs
theorem OwnWts.sets {w : World} {base base2 : Nat} {e' : TypeId} {s' n2 g c n cw : Nat} {A : Option Addr} {l : List Wtr} {ys : List Value} (h : OwnWts base w A n cw l) (h2 : w.ownsRow base2 e' s' (.slice (some ⟨g, 0, none⟩) n2 c) n2 ys) (h3 : 128 ≠ e') (h4 : 100 ≠ e') (o : Nat) (vs : List Value) : OwnWts base (setsAt w g o vs) A n cw l :=
 ⟨own_sets h.row h2 h3 o vs, fun x hx => own_sets (h.cs x hx) h2 h4 o vs⟩
theorem blk_sets {w : World} {base2 : Nat} {e e' : TypeId} {s' n2 g c k : Nat} {cs ys : List Value} (h : Blk w k e cs) (h2 : w.ownsRow base2 e' s' (.slice (some ⟨g, 0, none⟩) n2 c) n2 ys) (hne : e' ≠ e) (o : Nat) (vs : List Value) : Blk (setsAt w g o vs) k e cs :=
 h.sets (fun e1 => by
  have h3 := own_blk_neL h2 h hne
  simp only [Value.ownBlock, ne_eq, Option.some.injEq] at h3
  exact h3 e1) o vs
theorem HSt.setDone {base g gd : Nat} {w : World} {h : Hal} {c : Cfg} {t n : Int} (H : HSt base g w h c t n) (hA : h.DA = some ⟨gd, 0, none⟩) {u : Nat} (hu : u < h.done.length) (r : Resr) :
  HSt base g (setsAt w gd (u * 4) (Resr.cells r)) ⟨h.ticket, h.CA, h.cc, h.chans, h.WA, h.wc, h.waits, h.DA, h.dc, h.done.set u r⟩ c t n /\ Below base w (setsAt w gd (u * 4) (Resr.cells r)) := by
 have hd := H.own.dr
 rw [hA] at hd
 refine ⟨⟨?_, ⟨own_sets H.own.cr hd (by decide) _ _, fun x hx => (H.own.cb x hx).sets hd (by decide) _ _, H.own.wr.sets hd (by decide) (by decide) _ _, ?_⟩, H.new⟩, ?_⟩
 . have := blk_sets H.box hd (by decide) (u * 4) (Resr.cells r)
   unfold hstCells at this ⊢
   simpa using this
 . simp only [List.length_set, hA]
   exact own_whole hd rfl hu r
 . exact below_setsAt (own_base hd) _ _ _ (Below.refl base w)
theorem HSt.setChan {base g gc : Nat} {w : World} {h : Hal} {c : Cfg} {t n : Int} (H : HSt base g w h c t n) (hA : h.CA = some ⟨gc, 0, none⟩) {k : Nat} (hk : k < h.chans.length) (x : Chn) (hx : OwnBuf base w x) :
  HSt base g (setsAt w gc (k * 5) (Chn.cells x)) ⟨h.ticket, h.CA, h.cc, h.chans.set k x, h.WA, h.wc, h.waits, h.DA, h.dc, h.done⟩ c t n /\ Below base w (setsAt w gc (k * 5) (Chn.cells x)) := by
 have hd := H.own.cr
 rw [hA] at hd
 refine ⟨⟨?_, ⟨?_, fun y hy => ?_, H.own.wr.sets hd (by decide) (by decide) _ _, own_sets H.own.dr hd (by decide) _ _⟩, H.new⟩, ?_⟩
 . have := blk_sets H.box hd (by decide) (k * 5) (Chn.cells x)
   unfold hstCells at this ⊢
   simpa using this
 . simp only [List.length_set, hA]
   exact own_whole hd rfl hk x
 . rcases List.mem_or_eq_of_mem_set hy with h1 | h1
   . exact (H.own.cb y h1).sets hd (by decide) _ _
   . rw [h1]; exact hx.sets hd (by decide) _ _
 . exact below_setsAt (own_base hd) _ _ _ (Below.refl base w)
theorem OwnHal.boxed {base g i : Nat} {w : World} {h : Hal} {cs : List Value} {v : Value} (H : OwnHal base w h) (hb : Blk w g 181 cs) : OwnHal base (w.setCell ⟨g, i, none⟩ v) h :=
 ⟨own_ty H.cr hb (by decide) i v, fun x hx => own_ty (H.cb x hx) hb (by decide) i v, H.wr.box hb (by decide) (by decide) i v, own_ty H.dr hb (by decide) i v⟩
theorem HSt.setWaits {base g : Nat} {w : World} {h : Hal} {c : Cfg} {t n : Int} (H : HSt base g w h c t n) {A : Option Addr} {d : Nat} {l : List Wtr} (hl : OwnWts base w A l.length d l) :
  HSt base g (w.setCell ⟨g, 2, none⟩ (.slice A l.length d)) ⟨h.ticket, h.CA, h.cc, h.chans, A, d, l, h.DA, h.dc, h.done⟩ c t n /\ Below base w (w.setCell ⟨g, 2, none⟩ (.slice A l.length d)) := by
 have h1 := H.own.boxed H.box (i := 2) (v := .slice A l.length d)
 exact ⟨⟨H.box.set_ 2 _, ⟨h1.cr, h1.cb, hl.box H.box (by decide) (by decide) 2 _, h1.dr⟩, H.new⟩, (Below.refl base w).setCell (p := ⟨g, 2, none⟩) H.new _⟩
theorem HSt.setTicket {base g : Nat} {w : World} {h : Hal} {c : Cfg} {t n : Int} (H : HSt base g w h c t n) (x : Int) :
  HSt base g (w.setCell ⟨g, 0, none⟩ (.int .i64 x)) ⟨x, h.CA, h.cc, h.chans, h.WA, h.wc, h.waits, h.DA, h.dc, h.done⟩ c t n /\ Below base w (w.setCell ⟨g, 0, none⟩ (.int .i64 x)) := by
 have h1 := H.own.boxed H.box (i := 0) (v := .int .i64 x)
 exact ⟨⟨H.box.set_ 0 _, ⟨h1.cr, h1.cb, h1.wr, h1.dr⟩, H.new⟩, (Below.refl base w).setCell (p := ⟨g, 0, none⟩) H.new _⟩
def updT (d : List Resr) (x : TldP) : List Resr := if inL d.length x.1 then d.set x.1.toNat x.2 else d
theorem tellS_snoc : ∀ (l : List TldP) (d : List Resr) (x : TldP), tellS d (l ++ [x]) = updT (tellS d l) x
 | [], _, _ => rfl
 | _ :: r, _, x => tellS_snoc r _ x
theorem _root_.Go.RowKit.Below.to_grown {w w' : World} {row : Option Nat} (h : Below w.heap.size w w') : w.grownBy w' row := ⟨h.os, h.tape, h.output, h.size, fun k hk _ => h.block k hk⟩
theorem grown_sets {g : Nat} (vs : List Value) (w : World) (o : Nat) : w.grownBy (setsAt w g o vs) (some g) := by
 have hb := fun (k : Nat) (hk : k ≠ g) => setsAt_other vs w o k hk
 have h1 : Below 0 w (setsAt w g o vs) := below_setsAt (Nat.zero_le _) vs w o (Below.refl 0 w)
 exact ⟨h1.os, h1.tape, h1.output, h1.size, fun k _ hn => hb k (fun e => hn (by rw [e]))⟩
theorem hTell_any (base g b0 : Nat) (h : Hal) (c : Cfg) (t n : Int) (TA : Option Addr) (tc : Nat) (tl : List TldP) (w : World) (H : HSt base g w h c t n) (hd : h.done.length <= 4096) (ht : w.ownsRow b0 233 5 (.slice TA tl.length tc) tl.length (rows tl)) (hl : tl.length <= 1048576) :
  Calls Tryz.prog 201 #[.pointer (some ⟨g, 0, none⟩), .slice TA tl.length tc] w fun e w' => e = .returned (.tuple #[]) /\ HSt base g w' ⟨h.ticket, h.CA, h.cc, h.chans, h.WA, h.wc, h.waits, h.DA, h.dc, tellS h.done tl⟩ c t n /\ w.grownBy w' (Value.ownBlock (.slice h.DA h.done.length h.dc)) := by
 obtain ⟨tk, CA, cc, chs, WA, wc, wts, DA, dc, dn⟩ := h
 simp only at hd ⊢
 have HH := Zd H
 have HT := Zd ht
 clear H ht
 generalize htn : tl.length = m at *
 have HTN := Zd htn
 clear htn
 generalize hdn : dn.length = dl at *
 have HDN := Zd hdn
 clear hdn
 go_enter Tryz.func201, Tryz.ntmps201
 go_wp2
 go_loopg [8] m (fun gg i wr => ∃ k : Nat, k <= m /\ gg = m - k /\ i = .int .i64 k /\ HSt base g wr ⟨tk, CA, cc, chs, WA, wc, wts, DA, dc, tellS dn (tl.take k)⟩ c t n /\ wr.ownsRow b0 233 5 (.slice TA m tc) m (rows tl) /\ w.grownBy wr (Value.ownBlock (.slice DA dl dc)))
 case atStart => exact ⟨0, Nat.zero_le _, rfl, rfl, HH.out, HT.out, ⟨rfl, rfl, rfl, Nat.le_refl _, fun _ _ _ => rfl⟩⟩
 case round =>
  obtain ⟨k, hk, hg, rfl, hst, htd, hgr⟩ := hrel
  have HG := Zd hg
  have HS := Zd hst
  have HTD := Zd htd
  have HGR := Zd hgr
  clear hg hst htd hgr
  by_cases hlt : k < m
  . obtain ⟨gT, hTA, _, hgT⟩ := own_some HTD.out (by omega)
    subst hTA
    generalize hx : tl.getD k ((0 : Int), Resr.none) = x
    obtain ⟨e0, e1, e2, e3, e4⟩ := tld_cells (own_cellAt HTD.out) (by rw [HTN.out]; exact hlt) hx
    simp only [Nat.zero_add] at e0 e1 e2 e3 e4
    have HTK : Hid (tellS dn (tl.take (k + 1)) = updT (tellS dn (tl.take k)) x) := Zd (by
     have hkt : k < tl.length := by rw [HTN.out]; exact hlt
     rw [List.take_succ_eq_append_getElem hkt, tellS_snoc]
     congr 1
     rw [<- hx]
     simp [List.getD, hkt])
    have HLN : Hid ((tellS dn (tl.take k)).length = dl) := Zd (by rw [tellS_len]; exact HDN.out)
    clear hx
    generalize tellS dn (tl.take k) = dk at *
    obtain ⟨xt, ⟨xs, xc, xe, xv⟩⟩ := x
    simp only at e0 e1 e2 e3 e4
    have q0 : (0 : Int) <= (k : Int) := by omega
    have q1 : (k : Int) < (m : Int) := by omega
    have HBX : Hid (Blk (wr.alloc (.cells #[.int .i64 xt, .int .i64 xs, .int .i64 xc, .int .i64 xe, .int .i64 xv] 233)) wr.heap.size 233 [.int .i64 xt, .int .i64 xs, .int .i64 xc, .int .i64 xe, .int .i64 xv]) := Zd (blk_new rfl)
    have HA := Zd ((Below.refl wr.heap.size wr).alloc (Nat.le_refl _) (.cells #[.int .i64 xt, .int .i64 xs, .int .i64 xc, .int .i64 xe, .int .i64 xv] 233))
    go_upto_region 3 with (fail)
    clear e0 e1 e2 e3 e4
    have HS1 := Zd (HS.out.below HA.out)
    have HTD1 := Zd (own_below HTD.out HA.out)
    have HGR1 := Zd (HGR.out.trans (World.grownBy_alloc wr (.cells #[.int .i64 xt, .int .i64 xs, .int .i64 xc, .int .i64 xe, .int .i64 xv] 233) (Value.ownBlock (.slice DA dl dc))))
    have hgl : g < wr.heap.size := HS.out.lt
    have hgne : g ≠ wr.heap.size := Nat.ne_of_lt hgl
    generalize wr.alloc (.cells #[.int .i64 xt, .int .i64 xs, .int .i64 xc, .int .i64 xe, .int .i64 xv] 233) = W1 at *
    generalize wr.heap.size = gx at *
    have s3 : W1.cell? ⟨g, 3, none⟩ = some (.slice DA dl dc) := by
     have := HS1.out.box.cell (i := 3) (v := .slice DA dk.length dc) rfl
     rw [HLN.out] at this
     exact this
    have x0 := HBX.out.cell (i := 0) rfl
    have x1 := HBX.out.cell (i := 1) rfl
    have x2 := HBX.out.cell (i := 2) rfl
    have x3 := HBX.out.cell (i := 3) rfl
    have x4 := HBX.out.cell (i := 4) rfl
    by_cases hin : inL dl xt
    . have hin' := hin
      unfold inL at hin'
      obtain ⟨u, rfl⟩ : ∃ u : Nat, xt = u := ⟨xt.toNat, by omega⟩
      have hul : u < dl := by omega
      have HUP : Hid (updT dk ((u : Int), (⟨xs, xc, xe, xv⟩ : Resr)) = dk.set u ⟨xs, xc, xe, xv⟩) := Zd (by unfold updT; rw [HLN.out, if_pos hin, Int.toNat_natCast])
      have hdr := HS1.out.own.dr
      simp only [HLN.out] at hdr
      obtain ⟨gd, hDA, hgd1, hgd2⟩ := own_some hdr (by omega)
      subst hDA
      obtain ⟨d0, d1, d2, d3⟩ := rsr_cells (k := u) (x := dk.getD u Resr.none) (own_cellAt hdr) (by rw [HLN.out]; exact hul) rfl
      simp only [Nat.zero_add] at d0 d1 d2 d3
      have zd := own_free hdr
      have u0 : (0 : Int) <= (u : Int) := by omega
      have u1 : (u : Int) < (dl : Int) := by omega
      have hg1 : g ≠ gd := by have h1 := own_blk_neL hdr HS1.out.box (by decide); simpa [Value.ownBlock] using h1
      have hg2 : gx ≠ gd := by have h1 := own_blk_neL hdr HBX.out (by decide); simpa [Value.ownBlock] using h1
      have hg1' := hg1.symm
      have hg2' := hg2.symm
      have HDN' := Zd (fun N => Below.drewN' (Below.refl W1.heap.size W1) N)
      have HNX := Zd (fun N => (HS1.out.below (HDN'.out N)).setDone (gd := gd) rfl (u := u) (by rw [HLN.out]; exact hul) ⟨xs, xc, xe, xv⟩)
      have HNT := Zd (fun N => own_sets (own_below HTD1.out (HDN'.out N)) (own_below hdr (HDN'.out N)) (by decide) (u * 4) (Resr.cells ⟨xs, xc, xe, xv⟩))
      have HNG : Hid (∀ N, w.grownBy (setsAt (W1.drewN N) gd (u * 4) (Resr.cells ⟨xs, xc, xe, xv⟩)) (Value.ownBlock (.slice (some ⟨gd, 0, none⟩) dl dc))) := Zd (fun N => (HGR1.out.trans ((HDN'.out N).to_grown)).trans (grown_sets (g := gd) (Resr.cells ⟨xs, xc, xe, xv⟩) (W1.drewN N) (u * 4)))
      clear hdr hin hin'
      go_quiet (fail)
      go_upto_region 4 with (fail)
      go_region
      have HW2 : Hid (HSt base g ((((W1.drewN (nq + 1)).setCell ⟨gd, u * 4, none⟩ (.int .i64 xs)).setCell ⟨gd, u * 4 + 1, none⟩ (.int .i64 xc)).setCell ⟨gd, u * 4 + 2, none⟩ (.int .i64 xe) |>.setCell ⟨gd, u * 4 + 3, none⟩ (.int .i64 xv)) ⟨tk, CA, cc, chs, WA, wc, wts, some ⟨gd, 0, none⟩, dc, dk.set u ⟨xs, xc, xe, xv⟩⟩ c t n) := Zd (HNX.out (nq + 1)).1
      have HT2 : Hid (((((W1.drewN (nq + 1)).setCell ⟨gd, u * 4, none⟩ (.int .i64 xs)).setCell ⟨gd, u * 4 + 1, none⟩ (.int .i64 xc)).setCell ⟨gd, u * 4 + 2, none⟩ (.int .i64 xe) |>.setCell ⟨gd, u * 4 + 3, none⟩ (.int .i64 xv)).ownsRow b0 233 5 (.slice (some ⟨gT, 0, none⟩) m tc) m (rows tl)) := Zd (HNT.out (nq + 1))
      have HG2 : Hid (w.grownBy ((((W1.drewN (nq + 1)).setCell ⟨gd, u * 4, none⟩ (.int .i64 xs)).setCell ⟨gd, u * 4 + 1, none⟩ (.int .i64 xc)).setCell ⟨gd, u * 4 + 2, none⟩ (.int .i64 xe) |>.setCell ⟨gd, u * 4 + 3, none⟩ (.int .i64 xv)) (Value.ownBlock (.slice (some ⟨gd, 0, none⟩) dl dc))) := Zd (HNG.out (nq + 1))
      clear s3 x0 x1 x2 x3 x4 d0 d1 d2 d3 zd
      generalize ((((W1.drewN (nq + 1)).setCell ⟨gd, u * 4, none⟩ (.int .i64 xs)).setCell ⟨gd, u * 4 + 1, none⟩ (.int .i64 xc)).setCell ⟨gd, u * 4 + 2, none⟩ (.int .i64 xe)).setCell ⟨gd, u * 4 + 3, none⟩ (.int .i64 xv) = W2 at *
      go_wp2_with fail
      go_roundg (m - (k + 1))
      case measure => rw [HG.out]; omega
      case rel => exact ⟨k + 1, by omega, rfl, by go_num, by rw [HTK.out, HUP.out]; exact HW2.out, HT2.out, HG2.out⟩
    . have HUP : Hid (updT dk (xt, (⟨xs, xc, xe, xv⟩ : Resr)) = dk) := Zd (by unfold updT; rw [HLN.out, if_neg hin])
      have HDN' := Zd (fun N => Below.drewN' (Below.refl W1.heap.size W1) N)
      have HEND : Hid (∀ N, HSt base g (W1.drewN N) ⟨tk, CA, cc, chs, WA, wc, wts, DA, dc, tellS dn (tl.take (k + 1))⟩ c t n /\ (W1.drewN N).ownsRow b0 233 5 (.slice (some ⟨gT, 0, none⟩) m tc) m (rows tl) /\ w.grownBy (W1.drewN N) (Value.ownBlock (.slice DA dl dc))) := Zd (fun N => ⟨by rw [HTK.out, HUP.out]; exact HS1.out.below (HDN'.out N), own_below HTD1.out (HDN'.out N), HGR1.out.trans ((HDN'.out N).to_grown)⟩)
      by_cases h0 : 0 <= xt
      . have d0 : decide (0 <= xt) = true := decide_eq_true h0
        have d1 : decide (xt < (dl : Int)) = false := decide_eq_false (fun h => hin ⟨h0, h⟩)
        clear hin h0
        go_quiet (fail)
        go_wp2_with fail
        go_roundg (m - (k + 1))
        case measure => rw [HG.out]; omega
        case rel => exact ⟨k + 1, by omega, rfl, by go_num, HEND.out _⟩
      . have d0 : decide (0 <= xt) = false := decide_eq_false h0
        clear hin h0
        go_quiet (fail)
        go_wp2_with fail
        go_roundg (m - (k + 1))
        case measure => rw [HG.out]; omega
        case rel => exact ⟨k + 1, by omega, rfl, by go_num, HEND.out _⟩
  . obtain rfl : k = m := by omega
    have HTE : Hid (tl.take k = tl) := Zd (List.take_of_length_le (by rw [HTN.out]; exact Nat.le_refl _))
    rw [HTE.out] at HS
    go_wp2_with fail
    (try simp only [Exit.inBlock, Exit.then])
    refine bodyPost_end (results_none rfl _ _ _) rfl ⟨rfl, HS.out, HGR.out⟩
theorem find_yes {l : List Chn} {h : Int} (hf : findB (l.map Chn.p) h = true) : ∃ k : Nat, findI (l.map Chn.p) h = k /\ findP h = k /\ k < l.length /\ k <= 7 /\ (l.getD k Chn.none).used = true /\ (l.getD k Chn.none).gen = h / 8 := by
 have h0 := hf
 unfold findB plcOk at hf
 simp only [Bool.and_eq_true, decide_eq_true_eq, List.length_map, beq_iff_eq] at hf
 obtain ⟨⟨⟨⟨h1, h2⟩, h3⟩, h4⟩, h5⟩ := hf
 obtain ⟨k, hk⟩ : ∃ k : Nat, h % 8 = k := ⟨(h % 8).toNat, by omega⟩
 rw [hk, Int.toNat_natCast, chP_getD] at h4 h5
 refine ⟨k, ?_, ?_, by omega, by omega, h4, h5⟩
 . unfold findI; rw [if_pos h0, hk]
 . unfold findP; rw [hk, Int.toNat_natCast]
theorem HSt.hal {base g : Nat} {w : World} {h : Hal} {c : Cfg} {t n : Int} (H : HSt base g w h c t n) : w.cell? ⟨g, 0, none⟩ = some (.int .i64 h.ticket) /\ w.cell? ⟨g, 1, none⟩ = some (.slice h.CA h.chans.length h.cc) /\ w.cell? ⟨g, 2, none⟩ = some (.slice h.WA h.waits.length h.wc) /\ w.cell? ⟨g, 3, none⟩ = some (.slice h.DA h.done.length h.dc) :=
 ⟨H.box.cell (i := 0) rfl, H.box.cell (i := 1) rfl, H.box.cell (i := 2) rfl, H.box.cell (i := 3) rfl⟩
theorem hLook_any (base g : Nat) (h : Hal) (c : Cfg) (t n : Int) (q : Reqr) (cs : List Cse) (w : World) (H : HSt base g w h c t n) (hf : h.chans.length <= 4096) :
  Calls Tryz.prog 175 #[.pointer (some ⟨g, 0, none⟩), reqV q] w fun e w' => e = .returned (rsV (lookS h.p (q.p cs))) /\ Below w.heap.size w w' := by
 obtain ⟨b0, b1, hb2⟩ := box2 w 40 42 q.cells [.int .i64 0, .int .i64 0, .int .i64 0, .int .i64 0]
 have HY0 := Zd b0
 have HY1 := Zd b1
 have HBX := Zd hb2
 have HFI := Zd (fun W (hb : Below w.heap.size w W) => hFind_any h q.arg W (H.below hb |>.own.cr |> own_rd) hf)
 have HH := Zd (fun W (hb : Below w.heap.size w W) => H.below hb)
 have HVL : Hid (lookS h.p (q.p cs) = if findB (h.chans.map Chn.p) q.arg = false then rC 8 else if q.kind = 6 then rV ((h.chans.map Chn.p).getD (findP q.arg) ChP.none).cap else rV (((h.chans.map Chn.p).getD (findP q.arg) ChP.none).buf.length : Int)) := Zd rfl
 have hgl := H.lt
 generalize lookS h.p (q.p cs) = R at *
 clear b0 b1 hb2 H
 unfold Reqr.cells at HY0 HY1 HBX
 unfold reqV
 unfold halV at HFI
 have hg1 : g ≠ w.heap.size := Nat.ne_of_lt hgl
 have hg2 : g ≠ w.heap.size + 1 := by omega
 go_enter Tryz.func175, Tryz.ntmps175
 go_upto_region 1 with fail
 generalize ((w.alloc (.cells #[.int .i64 q.kind, .int .i64 q.arg, .int .i64 q.value, .bool q.dflt, .slice q.A q.n q.c] 40)).alloc (.cells #[.int .i64 0, .int .i64 0, .int .i64 0, .int .i64 0] 42)) = W0 at *
 obtain ⟨s0, s1, s2, s3⟩ := (HH.out _ HBX.out).hal
 obtain ⟨q0, q1, q2, q3, q4⟩ := reqBox (q := q) HY0.out
 have k0 : g < W0.heap.size := (HH.out _ HBX.out).lt
 have k1 : w.heap.size < W0.heap.size := HY0.out.lt
 go_region_held3 (fun w' => w'.cell? ⟨g, 0, none⟩ = some (.int .i64 h.ticket) /\ w'.cell? ⟨g, 1, none⟩ = some (.slice h.CA h.chans.length h.cc) /\ w'.cell? ⟨g, 2, none⟩ = some (.slice h.WA h.waits.length h.wc) /\ w'.cell? ⟨g, 3, none⟩ = some (.slice h.DA h.done.length h.dc) /\ w'.cell? ⟨w.heap.size, 1, none⟩ = some (.int .i64 q.arg)) (first | go_keep | (simp only [hk1, hk2]; go_keep)) (first
  | (go_at_call 194
     refine (HFI.out _ ?_).mono ?_
     . first | exact HBX.out | exact HBX.out.drew
     rintro er w1 ⟨rfl, hb1'⟩
     have hb1 : Below W0.heap.size W0 w1 := ⟨hb1'.os, hb1'.tape, hb1'.output, hb1'.size, hb1'.block⟩
     have hk1 := fun o => hb1.cell (p := ⟨g, o, none⟩) k0
     have hk2 := fun o => hb1.cell (p := ⟨w.heap.size, o, none⟩) k1))
 have HB1 := Zd (btr HBX.out hb1)
 have HQ1 := Zd (HY0.out.below hb1 HY0.out.lt)
 have HX1 := Zd (HY1.out.below hb1 HY1.out.lt)
 have HS1 := Zd (HH.out _ HB1.out)
 clear hk1 hk2 hb1 hb1' s0 s1 s2 s3 q0 q1 q2 q3 q4
 obtain ⟨s0, s1, s2, s3⟩ := HS1.out.hal
 obtain ⟨q0, q1, q2, q3, q4⟩ := reqBox (q := q) HQ1.out
 have e0 := HX1.out.cell (i := 0) rfl
 have ze0 := HX1.out.frozen 0
 have e1 := HX1.out.cell (i := 1) rfl
 have ze1 := HX1.out.frozen 1
 have e2 := HX1.out.cell (i := 2) rfl
 have ze2 := HX1.out.frozen 2
 have e3 := HX1.out.cell (i := 3) rfl
 have ze3 := HX1.out.frozen 3
 cases hfb : findB (h.chans.map Chn.p) q.arg
 . rw [hfb] at HVL
   have HR : Hid (R = rC 8) := Zd (by rw [HVL.out]; rfl)
   clear HVL
   generalize findI (h.chans.map Chn.p) q.arg = fi at *
   go_wp2_with fail
   refine bodyPost_ret (v := rsV ⟨0, 0, 8, 0⟩) (ret_cell (g := w.heap.size + 1) rfl rfl (rsl_load (r := ⟨0, 0, 8, 0⟩) (put4 HX1.out))) rfl ⟨by rw [HR.out]; rfl, below4 HB1.out (by omega)⟩
 . obtain ⟨k, hk1, hk2, hk3, hk4, _, _⟩ := find_yes hfb
   rw [hfb] at HVL
   rw [hk2, chP_getD] at HVL
   rw [hk1]
   have HC := Zd HS1.out.own.cr
   obtain ⟨gc, hCA, hgc1, hgc2⟩ := own_some HC.out (by omega)
   rw [hCA] at HC
   obtain ⟨c0, c1, c2, c3, c4⟩ := chn_cells (k := k) (x := h.chans.getD k Chn.none) (own_cellAt HC.out) hk3 rfl
   simp only [Nat.zero_add] at c0 c1 c2 c3 c4
   rw [hCA] at s1
   rw [hCA]
   have u0 : (0 : Int) <= (k : Int) := by omega
   have u1 : (k : Int) < (h.chans.length : Int) := by omega
   generalize h.chans.getD k Chn.none = x at *
   generalize h.chans.length = nc at *
   by_cases h6 : q.kind = 6
   . have d6 : (q.kind == 6) = true := by simp [h6]
     have HR : Hid (R = rV x.cap) := Zd (by rw [HVL.out, if_neg (by decide), if_pos h6]; rfl)
     clear HVL h6
     go_wp2_with fail
     refine bodyPost_ret (v := rsV ⟨0, 0, 0, x.cap⟩) (ret_cell (g := w.heap.size + 1) rfl rfl (rsl_load (r := ⟨0, 0, 0, x.cap⟩) (put4 HX1.out))) rfl ⟨by rw [HR.out]; rfl, below4 HB1.out (by omega)⟩
   . have d6 : (q.kind == 6) = false := by simp [h6]
     have HR : Hid (R = rV (x.buf.length : Int)) := Zd (by rw [HVL.out, if_neg (by decide), if_neg h6]; rfl)
     clear HVL h6
     go_wp2_with fail
     refine bodyPost_ret (v := rsV ⟨0, 0, 0, (x.buf.length : Int)⟩) (ret_cell (g := w.heap.size + 1) rfl rfl (rsl_load (r := ⟨0, 0, 0, (x.buf.length : Int)⟩) (put4 HX1.out))) rfl ⟨by rw [HR.out]; rfl, below4 HB1.out (by omega)⟩
section
open Go.RowKit Go.Sort
def HalBlk (h : Hal) (k : Nat) : Prop := Value.ownBlock (.slice h.CA h.chans.length h.cc) = some k ∨ Value.ownBlock (.slice h.DA h.done.length h.dc) = some k
def HKeeps (g : Nat) (h : Hal) (w w' : World) : Prop := ∀ k, k < w.heap.size -> k ≠ g -> ¬ HalBlk h k -> w'.heap[k]? = w.heap[k]?
section
variable {g : Nat} {h : Hal} {w w1 w2 : World}
theorem HKeeps.below (H : HKeeps g h w w1) (hs : w.heap.size <= w1.heap.size) (hb : Below w1.heap.size w1 w2) : HKeeps g h w w2 :=
 fun k hk hg hn => (hb.block k (Nat.lt_of_lt_of_le hk hs)).trans (H k hk hg hn)
theorem HKeeps.of {base : Nat} (hb : Below base w w1) (hs : w.heap.size <= base) : HKeeps g h w w1 :=
 fun k hk _ _ => hb.block k (Nat.lt_of_lt_of_le hk hs)
theorem HKeeps.sets (H : HKeeps g h w w1) {b : Nat} (hb : b = g ∨ HalBlk h b ∨ w.heap.size <= b) (o : Nat) (vs : List Value) : HKeeps g h w (setsAt w1 b o vs) :=
 fun k hk hg hn => (setsAt_other vs w1 o k (fun e => by
  rcases hb with h1 | h1 | h1
  . exact hg (e.trans h1)
  . exact hn (e ▸ h1)
  . omega)).trans (H k hk hg hn)
theorem HKeeps.set (H : HKeeps g h w w1) {b : Nat} (hb : b = g ∨ HalBlk h b ∨ w.heap.size <= b) (o : Nat) (v : Value) : HKeeps g h w (w1.setCell ⟨b, o, none⟩ v) :=
 H.sets hb o [v]
theorem HKeeps.drew (H : HKeeps g h w w1) : HKeeps g h w w1.drew := H
theorem HKeeps.set4 (H : HKeeps g h w w1) {b : Nat} (hb : b = g ∨ HalBlk h b ∨ w.heap.size <= b) (i j k l : Nat) (v0 v1 v2 v3 : Value) :
  HKeeps g h w ((((w1.setCell ⟨b, i, none⟩ v0).setCell ⟨b, j, none⟩ v1).setCell ⟨b, k, none⟩ v2).setCell ⟨b, l, none⟩ v3) := (((H.set hb i v0).set hb j v1).set hb k v2).set hb l v3
theorem HKeeps.set5 (H : HKeeps g h w w1) {b : Nat} (hb : b = g ∨ HalBlk h b ∨ w.heap.size <= b) (i j k l m : Nat) (v0 v1 v2 v3 v4 : Value) :
  HKeeps g h w (((((w1.setCell ⟨b, i, none⟩ v0).setCell ⟨b, j, none⟩ v1).setCell ⟨b, k, none⟩ v2).setCell ⟨b, l, none⟩ v3).setCell ⟨b, m, none⟩ v4) := (H.set4 hb i j k l v0 v1 v2 v3).set hb m v4
theorem HKeeps.grown (H : HKeeps g h w w1) (hs : w.heap.size <= w1.heap.size) {row : Option Nat} (hr : ∀ k, row = some k -> HalBlk h k ∨ w.heap.size <= k) (hb : w1.grownBy w2 row) : HKeeps g h w w2 :=
 fun k hk hg hn => ((show ∀ j, j < w1.heap.size -> row ≠ some j -> w2.heap[j]? = w1.heap[j]? from by obtain ⟨_, _, _, _, hB⟩ := hb; exact fun j hj hne => hB j hj (fun e => hne e.symm)) k (Nat.lt_of_lt_of_le hk hs) (fun e => by
  rcases hr k e with h1 | h1
  . exact hn h1
  . omega)).trans (H k hk hg hn)
theorem HKeeps.blk (H : HKeeps g h w w1) {k : Nat} {t : TypeId} {cs : List Value} (hb : Blk w k t cs) (hg : k ≠ g) (hn : ¬ HalBlk h k) : Blk w1 k t cs :=
 (H k hb.lt hg hn).trans hb
end
theorem HKeeps.trans {g : Nat} {h : Hal} {w w1 w2 : World} (H : HKeeps g h w w1) (hs : w.heap.size <= w1.heap.size) (H2 : HKeeps g h w1 w2) : HKeeps g h w w2 :=
 fun k hk hg hn => (H2 k (Nat.lt_of_lt_of_le hk hs) hg hn).trans (H k hk hg hn)
structure SameRows (h h' : Hal) : Prop where
 ca : h'.CA = h.CA
 cc : h'.cc = h.cc
 cl : h'.chans.length = h.chans.length
 da : h'.DA = h.DA
 dc : h'.dc = h.dc
 dl : h'.done.length = h.done.length
theorem SameRows.refl (h : Hal) : SameRows h h := ⟨rfl, rfl, rfl, rfl, rfl, rfl⟩
theorem SameRows.done {h h' : Hal} (H : SameRows h h') : Value.ownBlock (.slice h'.DA h'.done.length h'.dc) = Value.ownBlock (.slice h.DA h.done.length h.dc) := by rw [H.da, H.dc, H.dl]
def RetStK (base g : Nat) (h : Hal) (c : Cfg) (t n : Int) (p : HallP) (r : Resr) (w : World) (e : Ending) (w' : World) : Prop :=
 ∃ h' : Hal, e = .returned (rsV r) /\ h'.p = p /\ HSt base g w' h' c t n /\ Below base w w' /\ HKeeps g h w w' /\ SameRows h h'
end
theorem own_notIn {w : World} {base s n : Nat} {e : TypeId} {v : Value} {xs : List Value} (h : w.ownsRow base e s v n xs) {g : Nat} (hg : w.heap.size <= g) : some g ≠ v.ownBlock := fun e1 => by
 have := own_in h g e1.symm
 omega
theorem RetWtsB.own {r : List WtP × Bool} {w w' : World} {e : Ending} (h : RetWtsB r w e w') : ∃ A c l, e = .returned (.tuple #[.slice A l.length c, .bool r.2]) /\ l.map Wtr.p = r.1 /\ OwnWts w.heap.size w' A l.length c l /\ Below w.heap.size w w' := by
 obtain ⟨A, c, l, h1, h2, h3, h4⟩ := h
 have hl : r.1.length = l.length := by rw [<- h2, List.length_map]
 rw [hl] at h1 h3
 exact ⟨A, c, l, h1, h2, h3, h4⟩
theorem HSt.far1 {base g g2 N : Nat} {w : World} {h : Hal} {c : Cfg} {t n : Int} {cs : List Value} (H : HSt base g w h c t n) (hN : ∀ k, Value.ownBlock (.slice h.DA h.done.length h.dc) = some k -> k < N) (hb : Blk w g2 42 cs) (hg : N <= g2) (i : Nat) (v : Value) : HSt base g (w.setCell ⟨g2, i, none⟩ v) h c t n :=
 ⟨H.box.other (fun e => by
   subst e
   have h1 : w.heap[g]? = some (.cells (hstCells h c t n).toArray 181 (0, 0)) := H.box
   have h2 : w.heap[g]? = some (.cells cs.toArray 42 (0, 0)) := hb
   rw [h1] at h2
   simp only [Option.some.injEq, Obj.cells.injEq] at h2
   exact absurd h2.2.1 (by decide)) i v,
  ⟨own_ty H.own.cr hb (by decide) i v, fun x hx => own_ty (H.own.cb x hx) hb (by decide) i v, H.own.wr.box hb (by decide) (by decide) i v, own_far H.own.dr hN hg i v⟩, H.new⟩
theorem HSt.far4 {base g g2 N : Nat} {w : World} {h : Hal} {c : Cfg} {t n : Int} {cs : List Value} {v0 v1 v2 v3 : Value} (H : HSt base g w h c t n) (hN : ∀ k, Value.ownBlock (.slice h.DA h.done.length h.dc) = some k -> k < N) (hb : Blk w g2 42 cs) (hg : N <= g2) :
  HSt base g ((((w.setCell ⟨g2, 0, none⟩ v0).setCell ⟨g2, 1, none⟩ v1).setCell ⟨g2, 2, none⟩ v2).setCell ⟨g2, 3, none⟩ v3) h c t n :=
 (((H.far1 hN hb hg 0 v0).far1 hN (hb.set_ 0 v0) hg 1 v1).far1 hN ((hb.set_ 0 v0).set_ 1 v1) hg 2 v2).far1 hN (((hb.set_ 0 v0).set_ 1 v1).set_ 2 v2) hg 3 v3
theorem own_ge {w : World} {base s n : Nat} {e : TypeId} {v : Value} {xs : List Value} (h : w.ownsRow base e s v n xs) : ∀ k, v.ownBlock = some k -> base <= k := fun k hk => own_block h k hk
theorem hCancel_any (base g : Nat) (h : Hal) (c : Cfg) (t n t2 n2 : Int) (w : World) (H : HSt base g w h c t n) (hf : HalFew h) :
  Calls Tryz.prog 176 #[.pointer (some ⟨g, 0, none⟩), .int .i64 t2, .int .i64 n2] w (RetStK base g h c t n (cancelS h.p t t2 n2).1 (cancelS h.p t t2 n2).2 w) := by
 have HZ := Zd (Blk.new w 42 [.int .i64 0, .int .i64 0, .int .i64 0, .int .i64 0])
 have HA := Zd ((Below.refl w.heap.size w).alloc (Nat.le_refl _) (.cells #[.int .i64 0, .int .i64 0, .int .i64 0, .int .i64 0] 42))
 have HH := Zd (fun W (hb : Below w.heap.size w W) => H.below hb)
 have HF := Zd hf
 have HO := Zd H
 have hgl := H.lt
 have hnw := H.new
 have HVL : Hid (cancelS h.p t t2 n2 = if inL h.waits.length t2 /\ t2 ≠ t /\ (h.p.waits.getD t2.toNat WtP.none).on = true /\ (h.p.waits.getD t2.toNat WtP.none).seq = n2
  then ({ h.p with waits := h.p.waits.set t2.toNat WtP.none, done := if inL h.p.done.length t2 then h.p.done.set t2.toNat ⟨n2, 0, 11, 0⟩ else h.p.done }, rC 0) else (h.p, rC 12)) := Zd (by
   unfold cancelS
   rw [show h.p.waits.length = h.waits.length by show (h.waits.map Wtr.p).length = _; rw [List.length_map]])
 generalize cancelS h.p t t2 n2 = R at *
 clear H hf
 have hg1 : g ≠ w.heap.size := Nat.ne_of_lt hgl
 obtain ⟨s0, s1, s2, s3⟩ := (HH.out _ HA.out).hal
 have st : (w.alloc (.cells #[.int .i64 0, .int .i64 0, .int .i64 0, .int .i64 0] 42)).cell? ⟨g, 15, none⟩ = some (.int .i64 t) := (HH.out _ HA.out).box.cell (i := 15) rfl
 have g0 : g < (w.alloc (.cells #[.int .i64 0, .int .i64 0, .int .i64 0, .int .i64 0] 42)).heap.size := (HH.out _ HA.out).lt
 have z0 := HZ.out.cell (i := 0) rfl
 have z0f := HZ.out.frozen 0
 have z1 := HZ.out.cell (i := 1) rfl
 have z1f := HZ.out.frozen 1
 have z2 := HZ.out.cell (i := 2) rfl
 have z2f := HZ.out.frozen 2
 have z3 := HZ.out.cell (i := 3) rfl
 have z3f := HZ.out.frozen 3
 by_cases a1 : t2 < 0
 . have d1 : decide (t2 < 0) = true := decide_eq_true a1
   have HR : Hid (R = (h.p, rC 12)) := Zd (by rw [HVL.out, if_neg (by rintro ⟨hx, _⟩; unfold inL at hx; omega)])
   clear HVL
   clear a1
   go_enter Tryz.func176, Tryz.ntmps176
   go_upto_region 1 with fail
   generalize w.alloc (.cells #[.int .i64 0, .int .i64 0, .int .i64 0, .int .i64 0] 42) = W0 at *
   go_wp2_with fail
   refine bodyPost_ret (v := rsV ⟨0, 0, 12, 0⟩) (ret_cell (g := w.heap.size) rfl rfl (rsl_load (r := ⟨0, 0, 12, 0⟩) (put4 HZ.out))) rfl ?_
   rw [HR.out]
   have hb4 := below4 HA.out (g := w.heap.size) (Nat.le_refl _) (i := 0) (j := 1) (k := 2) (l := 3) (u := .int .i64 0) (v := .int .i64 0) (x := .int .i64 12) (y := .int .i64 0)
   exact ⟨h, rfl, rfl, HH.out _ hb4, hb4.mono (by omega), HKeeps.of hb4 (Nat.le_refl _), .refl h⟩
 have d1 : decide (t2 < 0) = false := decide_eq_false a1
 by_cases a2 : (h.waits.length : Int) <= t2
 . have d2 : decide ((h.waits.length : Int) <= t2) = true := decide_eq_true a2
   have HR : Hid (R = (h.p, rC 12)) := Zd (by rw [HVL.out, if_neg (by rintro ⟨hx, _⟩; unfold inL at hx; omega)])
   clear HVL
   clear a1 a2
   go_enter Tryz.func176, Tryz.ntmps176
   go_upto_region 1 with fail
   generalize w.alloc (.cells #[.int .i64 0, .int .i64 0, .int .i64 0, .int .i64 0] 42) = W0 at *
   go_wp2_with fail
   refine bodyPost_ret (v := rsV ⟨0, 0, 12, 0⟩) (ret_cell (g := w.heap.size) rfl rfl (rsl_load (r := ⟨0, 0, 12, 0⟩) (put4 HZ.out))) rfl ?_
   rw [HR.out]
   have hb4 := below4 HA.out (g := w.heap.size) (Nat.le_refl _) (i := 0) (j := 1) (k := 2) (l := 3) (u := .int .i64 0) (v := .int .i64 0) (x := .int .i64 12) (y := .int .i64 0)
   exact ⟨h, rfl, rfl, HH.out _ hb4, hb4.mono (by omega), HKeeps.of hb4 (Nat.le_refl _), .refl h⟩
 obtain ⟨u, rfl⟩ : ∃ u : Nat, t2 = u := ⟨t2.toNat, by omega⟩
 have hul : u < h.waits.length := by omega
 have d2 : decide (h.waits.length <= u) = false := decide_eq_false (by omega)
 have d2' : decide ((h.waits.length : Int) <= (u : Int)) = false := decide_eq_false (by omega)
 have u0 : (0 : Int) <= (u : Int) := by omega
 have u1 : (u : Int) < (h.waits.length : Int) := by omega
 clear a1 a2
 by_cases a3 : (u : Int) = t
 . have d3 : ((u : Int) == t) = true := by simp [a3]
   have HR : Hid (R = (h.p, rC 12)) := Zd (by rw [HVL.out, if_neg (by rintro ⟨_, hx, _⟩; exact hx a3)])
   clear HVL
   clear a3
   go_enter Tryz.func176, Tryz.ntmps176
   go_upto_region 1 with fail
   generalize w.alloc (.cells #[.int .i64 0, .int .i64 0, .int .i64 0, .int .i64 0] 42) = W0 at *
   go_wp2_with fail
   refine bodyPost_ret (v := rsV ⟨0, 0, 12, 0⟩) (ret_cell (g := w.heap.size) rfl rfl (rsl_load (r := ⟨0, 0, 12, 0⟩) (put4 HZ.out))) rfl ?_
   rw [HR.out]
   have hb4 := below4 HA.out (g := w.heap.size) (Nat.le_refl _) (i := 0) (j := 1) (k := 2) (l := 3) (u := .int .i64 0) (v := .int .i64 0) (x := .int .i64 12) (y := .int .i64 0)
   exact ⟨h, rfl, rfl, HH.out _ hb4, hb4.mono (by omega), HKeeps.of hb4 (Nat.le_refl _), .refl h⟩
 have d3 : ((u : Int) == t) = false := by simp [a3]
 have hwr := (HH.out _ HA.out).own.wr.row
 obtain ⟨gw, hWA, hgw1, hgw2⟩ := own_some hwr (by omega)
 rw [hWA] at hwr s2
 obtain ⟨w0, w1, w2, w3⟩ := wtr_cells (k := u) (x := h.waits.getD u Wtr.none) (own_cellAt hwr) hul rfl
 simp only [Nat.zero_add] at w0 w1 w2 w3
 have HPW : Hid ((h.p.waits.getD u WtP.none).on = (h.waits.getD u Wtr.none).on /\ (h.p.waits.getD u WtP.none).seq = (h.waits.getD u Wtr.none).seq) := Zd (by
  show (((h.waits.map Wtr.p).getD u WtP.none).on = _) /\ (((h.waits.map Wtr.p).getD u WtP.none).seq = _)
  rw [wtr_map_getD]
  exact ⟨rfl, rfl⟩)
 rw [Int.toNat_natCast, HPW.out.1, HPW.out.2] at HVL
 clear hwr w1 w3
 generalize (h.waits.getD u Wtr.none).on = on at *
 generalize (h.waits.getD u Wtr.none).seq = sq at *
 cases on
 . have HR : Hid (R = (h.p, rC 12)) := Zd (by rw [HVL.out, if_neg (by rintro ⟨_, _, hx, _⟩; cases hx)])
   clear HVL
   clear a3
   go_enter Tryz.func176, Tryz.ntmps176
   go_upto_region 1 with fail
   generalize w.alloc (.cells #[.int .i64 0, .int .i64 0, .int .i64 0, .int .i64 0] 42) = W0 at *
   go_wp2_with fail
   refine bodyPost_ret (v := rsV ⟨0, 0, 12, 0⟩) (ret_cell (g := w.heap.size) rfl rfl (rsl_load (r := ⟨0, 0, 12, 0⟩) (put4 HZ.out))) rfl ?_
   rw [HR.out]
   have hb4 := below4 HA.out (g := w.heap.size) (Nat.le_refl _) (i := 0) (j := 1) (k := 2) (l := 3) (u := .int .i64 0) (v := .int .i64 0) (x := .int .i64 12) (y := .int .i64 0)
   exact ⟨h, rfl, rfl, HH.out _ hb4, hb4.mono (by omega), HKeeps.of hb4 (Nat.le_refl _), .refl h⟩
 by_cases a5 : sq = n2
 case neg =>
  have d5 : (sq == n2) = false := by simp [a5]
  have HR : Hid (R = (h.p, rC 12)) := Zd (by rw [HVL.out, if_neg (by rintro ⟨_, _, _, hx⟩; exact a5 hx)])
  clear HVL
  clear a3 a5
  go_enter Tryz.func176, Tryz.ntmps176
  go_upto_region 1 with fail
  generalize w.alloc (.cells #[.int .i64 0, .int .i64 0, .int .i64 0, .int .i64 0] 42) = W0 at *
  go_wp2_with fail
  refine bodyPost_ret (v := rsV ⟨0, 0, 12, 0⟩) (ret_cell (g := w.heap.size) rfl rfl (rsl_load (r := ⟨0, 0, 12, 0⟩) (put4 HZ.out))) rfl ?_
  rw [HR.out]
  have hb4 := below4 HA.out (g := w.heap.size) (Nat.le_refl _) (i := 0) (j := 1) (k := 2) (l := 3) (u := .int .i64 0) (v := .int .i64 0) (x := .int .i64 12) (y := .int .i64 0)
  exact ⟨h, rfl, rfl, HH.out _ hb4, hb4.mono (by omega), HKeeps.of hb4 (Nat.le_refl _), .refl h⟩
 have d5 : (sq == n2) = true := by simp [a5]
 have HR : Hid (R = ({ h.p with waits := h.p.waits.set u WtP.none, done := if inL h.p.done.length u then h.p.done.set u ⟨n2, 0, 11, 0⟩ else h.p.done }, rC 0)) := Zd (by rw [HVL.out, if_pos ⟨by unfold inL; omega, a3, rfl, a5⟩])
 have HCT : Hid ((cutS (h.waits.map Wtr.p) (u : Int)).1 = h.p.waits.set u WtP.none) := Zd (by
  unfold cutS
  have hon : ((h.waits.map Wtr.p).getD u WtP.none).on = true := HPW.out.1
  rw [if_pos ⟨by unfold inL; rw [List.length_map]; omega, by rw [Int.toNat_natCast]; exact hon⟩, Int.toNat_natCast]
  rfl)
 have HCU := Zd (fun W (hb : Below w.heap.size w W) => (wCut_any h.WA h.waits.length h.wc h.waits (u : Int) W ((HH.out W hb).own.at_ HF.out).wr).mono (fun _ _ hr => hr.own))
 rw [HCT.out, hWA] at HCU
 generalize (cutS (h.waits.map Wtr.p) (u : Int)).2 = bb at *
 clear HVL a3 a5 HPW HCT
 go_enter Tryz.func176, Tryz.ntmps176
 go_upto_region 1 with fail
 generalize w.alloc (.cells #[.int .i64 0, .int .i64 0, .int .i64 0, .int .i64 0] 42) = W0 at *
 go_upto_region 4 with (go_at_call 202
                        refine (HCU.out _ HA.out).mono ?_
                        rintro er w4 ⟨A4, c4, l4, rfl, hm4, ho4, hb4⟩
                        have HM4 := Zd hm4
                        have HO4 := Zd ho4
                        have HB4 := Zd (btr HA.out hb4)
                        have HZ4 := Zd (HZ.out.below hb4 HZ.out.lt)
                        have HS4 := Zd (HH.out _ HB4.out)
                        have HK4 := Zd hb4.size
                        clear hm4 ho4 hb4 s0 s1 s2 s3 st w0 w2 z0 z0f z1 z1f z2 z2f z3 z3f
                        have s2 := HS4.out.box.cell (i := 2) rfl
                        have s2f := HS4.out.box.frozen 2)
 have HW4 := Zd (HO4.out.lower (b := base) (by have := HA.out.size; omega))
 have HS5 := Zd (HS4.out.setWaits HW4.out)
 have HZ5 := Zd (HZ4.out.other (g' := g) (Ne.symm hg1) 2 (.slice A4 l4.length c4))
 have HB5 := Zd ((HB4.out.mono (by omega : base <= w.heap.size)).trans HS5.out.2)
 have hsz : w.heap.size < (w4.setCell ⟨g, 2, none⟩ (.slice A4 l4.length c4)).heap.size := HZ5.out.lt
 have HQ5 := Zd (show HKeeps g h w (w4.setCell ⟨g, 2, none⟩ (.slice A4 l4.length c4)) from (HKeeps.of HB4.out (Nat.le_refl _)).set (.inl rfl) 2 _)
 clear s2 s2f
 generalize w4.setCell ⟨g, 2, none⟩ (.slice A4 l4.length c4) = W5 at *
 have HBS := Zd (show base <= W5.heap.size by omega)
 have HA6 := Zd ((Below.refl W5.heap.size W5).alloc (Nat.le_refl _) (.cells #[.int .i64 (u : Int), .int .i64 n2, .int .i64 0, .int .i64 11, .int .i64 0] 233))
 have HT6 : Hid ((W5.alloc (.cells #[.int .i64 (u : Int), .int .i64 n2, .int .i64 0, .int .i64 11, .int .i64 0] 233)).ownsRow 0 233 5 (.slice (some ⟨W5.heap.size, 0, none⟩) 1 1) 1 (rows [((u : Int), (⟨n2, 0, 11, 0⟩ : Resr))])) := Zd (own_blk1 (blk_new rfl) (Nat.zero_le _) rfl (by unfold maxLen; omega))
 have HTE : Hid (Calls Tryz.prog 201 #[.pointer (some ⟨g, 0, none⟩), .slice (some ⟨W5.heap.size, 0, none⟩) 1 1] (W5.alloc (.cells #[.int .i64 (u : Int), .int .i64 n2, .int .i64 0, .int .i64 11, .int .i64 0] 233)) _) := Zd (hTell_any base g 0 _ c t n (some ⟨W5.heap.size, 0, none⟩) 1 [((u : Int), (⟨n2, 0, 11, 0⟩ : Resr))] _ (HS5.out.1.below HA6.out) HF.out.df HT6.out (show 1 <= 1048576 by omega))
 go_wp2_with (go_at_call 201
              refine HTE.out.mono ?_
              rintro er w7 ⟨rfl, hs7, hg7⟩
              have HS7 := Zd hs7
              have HG7 := Zd hg7
              have HZ7 := Zd (blk_grown (HZ5.out.below HA6.out HZ5.out.lt) hg7 (own_notIn HO.out.own.dr (Nat.le_refl _)))
              have HB7 := Zd ((HB5.out.trans (HA6.out.mono HBS.out)).grown hg7 (Nat.le_trans HBS.out HA6.out.size) (own_ge HO.out.own.dr))
              have HQ7 := Zd ((HQ5.out.below (Nat.le_of_lt hsz) HA6.out).grown (Nat.le_trans (Nat.le_of_lt hsz) HA6.out.size) (fun k hk => .inl (.inr hk)) hg7)
              clear hs7 hg7
              have z0 := HZ7.out.cell (i := 0) rfl
              have z0f := HZ7.out.frozen 0
              have z1 := HZ7.out.cell (i := 1) rfl
              have z1f := HZ7.out.frozen 1
              have z2 := HZ7.out.cell (i := 2) rfl
              have z2f := HZ7.out.frozen 2
              have z3 := HZ7.out.cell (i := 3) rfl
              have z3f := HZ7.out.frozen 3)
 refine bodyPost_ret (v := rsV ⟨0, 0, 0, 0⟩) (ret_cell (g := w.heap.size) rfl rfl (rsl_load (r := ⟨0, 0, 0, 0⟩) (put4 HZ7.out))) rfl ?_
 rw [HR.out]
 have hb8 := below4 (Below.refl w.heap.size w7) (g := w.heap.size) (Nat.le_refl _) (i := 0) (j := 1) (k := 2) (l := 3) (u := .int .i64 0) (v := .int .i64 0) (x := .int .i64 0) (y := .int .i64 0)
 have hfin := HS7.out.far4 (v0 := .int .i64 0) (v1 := .int .i64 0) (v2 := .int .i64 0) (v3 := .int .i64 0) (N := w.heap.size) (fun k hk => by
  simp only [tellS_len] at hk
  exact own_in HO.out.own.dr k hk) HZ7.out (Nat.le_refl _)
 refine ⟨_, rfl, ?_, hfin, HB7.out.trans (hb8.mono (by omega)), HQ7.out.set4 (.inr (.inr (Nat.le_refl _))) 0 1 2 3 _ _ _ _, ⟨rfl, rfl, by simp, rfl, rfl, by simp [tellS_len]⟩⟩
 show (⟨_, _, l4.map Wtr.p, _⟩ : HallP) = _
 rw [HM4.out]
 rfl
def shutC (c : ChP) : ChP := if mayShut c = true then ⟨c.gen, c.cap, c.used, true, c.buf⟩ else c
def shutW (c : ChP) (handle : Int) (l : List WtP) : List WtP := if mayShut c = true then l.map (freeW handle) else l
def shutE (c : ChP) : Int := if mayShut c = true then 0 else 9
def IsTold (c : ChP) (handle : Int) (l : List WtP) (tl : List TldP) : Prop := if mayShut c = true then ∃ ts : List Int, ts.Perm (onsS l handle) /\ tl = toldS l handle ts else tl = []
theorem told_few {c : ChP} {handle : Int} {l : List WtP} {tl : List TldP} (h : IsTold c handle l tl) : tl.length <= l.length := by
 unfold IsTold at h
 split at h
 . obtain ⟨ts, hp, rfl⟩ := h
   unfold toldS
   rw [List.length_map, hp.length_eq]
   unfold onsS
   rw [List.length_map]
   exact Nat.le_trans (List.length_filter_le _ _) (by simp)
 . rw [h]; exact Nat.zero_le _
theorem cShut_any (x : Chn) (handle : Int) (A : Option Addr) (n c : Nat) (l : List Wtr) (w : World) (h : WtsAt w A n l) (hx : ChAt w x) :
  Calls Tryz.prog 200 #[chnV x, .int .i64 handle, .slice A n c] w (fun e w' => ∃ tl, IsTold x.p handle (l.map Wtr.p) tl /\ RetFour (shutC x.p) (shutW x.p handle (l.map Wtr.p)) (shutE x.p) tl w e w') := by
 obtain ⟨gen, cap, us, cl, BA, bc, bl⟩ := x
 cases us
 . exact (cShut_no1 gen cap cl BA bc bl handle A n c l w h hx).mono fun e w' hr => ⟨[], rfl, hr⟩
 . cases cl
   . exact (cShut_yes gen cap BA bc bl handle A n c l w h hx).mono fun e w' hr => by
      obtain ⟨ts, hp, hr⟩ := hr
      exact ⟨_, ⟨ts, hp, rfl⟩, hr⟩
   . exact (cShut_no2 gen cap BA bc bl handle A n c l w h hx).mono fun e w' hr => ⟨[], rfl, hr⟩
theorem set_sameP {α : Type} (l : List α) (d : α) {t : Nat} (h : t < l.length) : l.set t (l.getD t d) = l := by
 apply List.ext_getElem (by simp)
 intro i h1 h2
 simp only [List.getElem_set]
 split
 . rename_i e; subst e; simp [List.getD, h]
 . rfl
theorem shutH_eq (tk : Int) (cl : List ChP) (wl : List WtP) (d : List Resr) {handle : Int} {k : Nat} (hf : findB cl handle = true) (hk : findP handle = k) (hl : k < cl.length) {tl : List TldP} (ht : IsTold (cl.getD k ChP.none) handle wl tl) :
  shutH ⟨tk, cl, wl, d⟩ handle = (⟨tk, cl.set k (shutC (cl.getD k ChP.none)), shutW (cl.getD k ChP.none) handle wl, tellS d tl⟩, rC (shutE (cl.getD k ChP.none))) := by
 have e2 := set_sameP cl ChP.none hl
 unfold shutH
 simp only [hf, hk]
 unfold shutC shutW shutE
 unfold IsTold at ht
 generalize cl.getD k ChP.none = cp at *
 cases hm : mayShut cp
 . rw [hm] at ht
   simp only [Bool.false_eq_true, if_false] at ht
   subst ht
   simp only [Bool.false_eq_true, if_false]
   rw [if_neg (by simp), if_pos trivial, e2]
   rfl
 . rw [hm] at ht
   simp only [if_true] at ht
   obtain ⟨ts, hp, rfl⟩ := ht
   simp only [if_true]
   rw [if_neg (by simp), if_neg (by simp), shut_done _ _ _ _ hp]
end Go.Proofs.YtieglgahfeecbaaGreatDoor

/- An evaluator of calls: slices of rows that were appended to; copies, appends. -/
import Derived.Test.YtedipingocmmdaaGreatEvS6
namespace Go.Proofs.YtedipingocmmdaaGreat.Ev
open Go Go.RowKit

section
variable {P : Program} {w : World} {base : Nat} {w0 : World} {ρ : Nat → Loc} {U : Nat → Prop} {H : Mem}
theorem map_nat {e : Operand → Value} {a : Act} {d n : Nat} {x : Option Operand} (hx : ∀ y, x = some y → a.eval y = ren ρ (e y)) (h : IsNat d (Option.rec none (fun y => some (e y)) x) n) : IsNat d (x.map a.eval) n := by
  cases x with
  | none => exact h
  | some y =>
    rcases h with ⟨h, _⟩ | ⟨k, h⟩
    · cases h
    · refine .inr ⟨k, ?_⟩
      show some (a.eval y) = _
      rw [hx y rfl]
      have h : e y = .int k (Int.ofNat n) := Option.some.inj h
      rw [h]; rfl
theorem add0 (A : Addr) (h C : Nat) : Value.slice (some A) h C = .slice (if C = 0 then some A else (some A).map (·.add 0)) (h - 0) (C - 0) := by
  by_cases hC : C = 0
  · rw [if_pos hC]; rfl
  · rw [if_neg hC]; rfl
theorem s_slice {o : Oper} {t el : TypeId} {x : Operand} {lo hi mx : Option Operand} {size : Nat} (ho : o.op = .slice t x lo hi mx) (ht : sliceT P t = some el) (hs : sizeT P el = some size) (hmh : (mx.isSome && hi.isNone) = false) : SoundO P (oSlice el size x lo hi mx) o := by
  intro e cl a base w0 ρ U H w g c lg v c' H' l' hx hR _ hr
  rw [ho] at hx
  obtain ⟨hx1, hx2⟩ := hx x (by simp [Op.operands])
  have hlo : ∀ y, lo = some y → a.eval y = ren ρ (e y) := fun y hy => (hx y (by simp [Op.operands, hy])).1
  have hhi : ∀ y, hi = some y → a.eval y = ren ρ (e y) := fun y hy => (hx y (by simp [Op.operands, hy])).1
  have hmx : ∀ y, mx = some y → a.eval y = ren ρ (e y) := fun y hy => (hx y (by simp [Op.operands, hy])).1
  obtain ⟨q, len, cap, hq, hr⟩ := slice_ok hr
  obtain ⟨l, hl, hr⟩ := natOr_ok hr
  obtain ⟨h, hh, hr⟩ := natOr_ok hr
  have hl2 := map_nat hlo hl
  have hh2 := map_nat hhi hh
  have h4 : (mx.map a.eval).isSome = true → (hi.map a.eval).isSome = true := by
    rw [Option.isSome_map, Option.isSome_map]
    intro hm
    rw [hm] at hmh
    cases hi with
    | none => cases hmh
    | some _ => rfl
  rw [hq] at hx1 hx2
  have fin : ∀ {cap' m : Nat} {A : Option Addr}, a.eval x = .slice A len cap' → IsNat cap' (mx.map a.eval) m → l ≤ h → h ≤ m → m ≤ cap' → Ok ρ U v → ren ρ v = .slice (if m = l then A else A.map (·.add (l * size))) (h - l) (m - l) → Rel P base w0 ρ U H w → Goes P o a base w0 ρ U w c c H v := fun {cap' m A} hA hm h1 h2 h3 hOk hren hR => by
    refine goes_same hR hOk ?_
    unfold execOp
    rw [ho]
    simp only [hA]
    refine run_value ?_
    rw [hren]
    exact run_sliceAt ht hs hl2 hh2 hm h1 h2 h3 h4
  rcases ble_cases 18446744073709551616 cap with ⟨hc, hroom⟩ | ⟨hc, hlt⟩
  · -- it may have room
    replace hr : (Bool.rec _ (sliceR el size q len cap l h (Option.rec none (fun y => some (e y)) mx)) (Nat.ble 18446744073709551616 cap) : M Value) g c H lg = .ok v c' H' l' := hr
    rw [hc] at hr
    replace hr : sliceR el size q len cap l h (Option.rec none (fun y => some (e y)) mx) g c H lg = .ok v c' H' l' := hr
    cases q with
    | none => cases hr
    | some q =>
      obtain ⟨b, p, s⟩ := q
      obtain ⟨k, l2, hk, hr⟩ := read_ok (show M.read b _ g c H lg = .ok v c' H' l' from hr)
      obtain ⟨hb, hr⟩ := iff_ok hr
      obtain ⟨b1, hb⟩ := andK_true hb
      obtain ⟨b2, b3⟩ := andK_true hb
      have ke := beq_true b1
      have hs1 := ble_true b3
      obtain ⟨hU, hOkS⟩ := hx2
      unfold OkS at hOkS
      rw [if_pos (by unfold roomy; exact hroom)] at hOkS
      obtain ⟨o1, o2, o3⟩ := hOkS
      obtain ⟨-, rest, -, -, hr2⟩ := hR.row b k hk
      obtain ⟨s1, -, -⟩ := hr2 b2
      rw [ke, hs] at s1
      have hsz : (ρ b).size = size := (Option.some.inj s1).symm
      simp only at o1 o2 o3
      rw [hsz] at o2
      have hA : a.eval x = .slice (some (renA ρ ⟨b, p, s⟩)) len ((ρ b).cap - (cap - roomy)) := by
        rw [hx1]
        show Value.slice (some (renA ρ ⟨b, p, s⟩)) len (renC ρ ⟨b, p, s⟩ cap) = _
        unfold renC
        rw [if_pos (by unfold roomy; exact hroom)]
      cases mx with
      | some y =>
        obtain ⟨kd, m, hm, hr⟩ := nat_ok (show onNat (e y) .fail (fun m => M.iff (Nat.ble m 1048576) (sliceK size (some ⟨b, p, s⟩) len l h m)) g c H l2 = .ok v c' H' l' from hr)
        obtain ⟨hmb, hr⟩ := iff_ok hr
        have hmb2 := ble_true hmb
        obtain ⟨rfl, rfl, k1, k2, k3, k4, k5⟩ := sliceK_sound (ρ := ρ) (U := U) (n0 := len) hr (by unfold roomy; omega) (fun q hq => by injection hq with hq; subst hq; exact hU) (fun q hq => by
          injection hq with hq; subst hq
          cases s with
          | none => exact .inl rfl
          | some s => exact .inr o3.2)
        exact fin hA (.inr ⟨kd, by show some (a.eval y) = _; rw [hmx y rfl, hm]; rfl⟩) k1 k2 (by omega) k4 k5 hR
      | none =>
        obtain ⟨hb, hr⟩ := iff_ok (show M.iff (andK (Nat.ble l h) (Nat.ble h len)) _ g c H l2 = .ok v c' H' l' from hr)
        obtain ⟨b4, b5⟩ := andK_true hb
        have c1 := ble_true b4
        have c2 := ble_true b5
        have hmn : IsNat ((ρ b).cap - (cap - roomy)) ((none : Option Operand).map a.eval) ((ρ b).cap - (cap - roomy)) := .inl ⟨rfl, rfl⟩
        have hroom2 : roomy ≤ cap := by unfold roomy; exact hroom
        cases s with
        | some s =>
          obtain ⟨e0, hr⟩ := iff_ok (show M.iff (Nat.beq l 0) (.ret (.slice (some ⟨b, p, some s⟩) h cap)) g c H l2 = .ok v c' H' l' from hr)
          obtain ⟨rfl, rfl, rfl, rfl⟩ := ret_ok hr
          have e0 := beq_true e0
          subst e0
          have hn0 : len = 0 := o3.2
          refine fin hA hmn c1 (by omega) (Nat.le_refl _) ⟨hU, by unfold OkS; rw [if_pos hroom2]; exact ⟨by simp only; omega, by rw [hsz]; exact o2, o3.1, by omega⟩⟩ ?_ hR
          show Value.slice (some (renA ρ ⟨b, p, some s⟩)) h (renC ρ ⟨b, p, some s⟩ cap) = _
          unfold renC
          rw [if_pos hroom2, Nat.zero_mul]
          exact add0 _ _ _
        | none =>
          replace hr : (Bool.rec (Bool.rec (.ret (.slice (some ⟨b, p, some (Nat.mul l size)⟩) (Nat.sub h l) (Nat.add cap l))) (.ret (.slice (some ⟨b, Nat.add p (Nat.mul l size), none⟩) (Nat.sub h l) (Nat.add cap l))) (Nat.blt l len)) (.ret (.slice (some ⟨b, p, none⟩) h cap)) (Nat.beq l 0) : M Value) g c H l2 = .ok v c' H' l' := hr
          rcases beq_cases l 0 with ⟨e0, e1⟩ | ⟨e0, e1⟩
          · rw [e0] at hr
            obtain ⟨rfl, rfl, rfl, rfl⟩ := ret_ok (show M.ret (.slice (some ⟨b, p, none⟩) h cap) g c H l2 = .ok v c' H' l' from hr)
            subst e1
            refine fin hA hmn c1 (by omega) (Nat.le_refl _) ⟨hU, by unfold OkS; rw [if_pos hroom2]; exact ⟨by simp only; omega, by rw [hsz]; exact o2, o3⟩⟩ ?_ hR
            show Value.slice (some (renA ρ ⟨b, p, none⟩)) h (renC ρ ⟨b, p, none⟩ cap) = _
            unfold renC
            rw [if_pos hroom2, Nat.zero_mul]
            exact add0 _ _ _
          · rw [e0] at hr
            replace hr : (Bool.rec (.ret (.slice (some ⟨b, p, some (Nat.mul l size)⟩) (Nat.sub h l) (Nat.add cap l))) (.ret (.slice (some ⟨b, Nat.add p (Nat.mul l size), none⟩) (Nat.sub h l) (Nat.add cap l))) (Nat.blt l len) : M Value) g c H l2 = .ok v c' H' l' := hr
            have hmul : ∀ x y : Nat, (x + y) * size = x * size + y * size := fun x y => Nat.add_mul x y size
            have o3' : p = (cap - roomy) * size := by rw [o3, hsz]
            have hcl : cap + l - roomy = (cap - roomy) + l := by omega
            rcases blt_cases l len with ⟨f0, f1⟩ | ⟨f0, f1⟩
            · rw [f0] at hr
              obtain ⟨rfl, rfl, rfl, rfl⟩ := ret_ok (show M.ret (.slice (some ⟨b, p + l * size, none⟩) (h - l) (cap + l)) g c H l2 = .ok v c' H' l' from hr)
              refine fin hA hmn c1 (by omega) (Nat.le_refl _) ⟨hU, by
                unfold OkS; rw [if_pos (by omega)]
                refine ⟨by simp only; omega, by rw [hsz]; exact o2, ?_⟩
                simp only
                rw [hsz, hcl, hmul, o3']⟩ ?_ hR
              show Value.slice (some (renA ρ ⟨b, p + l * size, none⟩)) (h - l) (renC ρ ⟨b, p + l * size, none⟩ (cap + l)) = _
              unfold renC
              rw [if_pos (by omega), if_neg (by omega)]
              show _ = Value.slice (some ((Addr.mk (ρ b).blk p none).add (l * size))) _ _
              rw [add_at]
              show Value.slice (some ⟨(ρ b).blk, p + l * size, none⟩) (h - l) ((ρ b).cap - (cap + l - roomy)) = _
              rw [show (ρ b).cap - (cap + l - roomy) = (ρ b).cap - (cap - roomy) - l by omega]
            · rw [f0] at hr
              obtain ⟨rfl, rfl, rfl, rfl⟩ := ret_ok (show M.ret (.slice (some ⟨b, p, some (l * size)⟩) (h - l) (cap + l)) g c H l2 = .ok v c' H' l' from hr)
              refine fin hA hmn c1 (by omega) (Nat.le_refl _) ⟨hU, by
                unfold OkS; rw [if_pos (by omega)]
                refine ⟨by simp only; omega, by rw [hsz]; exact o2, ?_⟩
                simp only
                exact ⟨by rw [hsz, hcl, hmul, o3'], by omega⟩⟩ ?_ hR
              show Value.slice (some (renA ρ ⟨b, p, some (l * size)⟩)) (h - l) (renC ρ ⟨b, p, some (l * size)⟩ (cap + l)) = _
              unfold renC
              rw [if_pos (by omega)]
              have hcond : ((ρ b).cap * (ρ b).size = p + l * size) ↔ ((ρ b).cap - (cap - roomy) = l) := by
                rw [hsz, o3', ← hmul]
                constructor
                · intro hh
                  have := Nat.eq_of_mul_eq_mul_right (show 0 < size by omega) hh
                  omega
                · intro hh
                  have : (ρ b).cap = (cap - roomy) + l := by omega
                  rw [this]
              by_cases hcc : (ρ b).cap - (cap - roomy) = l
              · rw [if_pos hcc]
                have : renA ρ ⟨b, p, some (l * size)⟩ = ⟨(ρ b).blk, p, none⟩ := by
                  show (if (ρ b).cap * (ρ b).size = p + l * size then _ else _) = _
                  rw [if_pos (hcond.mpr hcc)]
                rw [this]
                show Value.slice (some ⟨(ρ b).blk, p, none⟩) (h - l) ((ρ b).cap - (cap + l - roomy)) = .slice (some ⟨(ρ b).blk, p, none⟩) (h - l) _
                rw [show (ρ b).cap - (cap + l - roomy) = (ρ b).cap - (cap - roomy) - l by omega]
              · rw [if_neg hcc]
                have : renA ρ ⟨b, p, some (l * size)⟩ = ⟨(ρ b).blk, p + l * size, none⟩ := by
                  show (if (ρ b).cap * (ρ b).size = p + l * size then _ else _) = _
                  rw [if_neg (fun h => hcc (hcond.mp h))]
                rw [this]
                show Value.slice (some ⟨(ρ b).blk, p + l * size, none⟩) (h - l) ((ρ b).cap - (cap + l - roomy)) = Value.slice (some ((Addr.mk (ρ b).blk p none).add (l * size))) _ _
                rw [add_at, show (ρ b).cap - (cap + l - roomy) = (ρ b).cap - (cap - roomy) - l by omega]
  · replace hr : (Bool.rec (natOr cap (Option.rec none (fun y => some (e y)) mx) fun m => sliceK size q cap l h m) _ (Nat.ble 18446744073709551616 cap) : M Value) g c H lg = .ok v c' H' l' := hr
    rw [hc] at hr
    obtain ⟨m, hm, hr⟩ := natOr_ok (show natOr cap (Option.rec none (fun y => some (e y)) mx) (fun m => sliceK size q cap l h m) g c H lg = .ok v c' H' l' from hr)
    have hm2 := map_nat hmx hm
    have hcapr : ¬ roomy ≤ cap := by unfold roomy; omega
    have hmc : m < roomy := by
      obtain ⟨hb, -⟩ := iff_ok hr
      have := ble_true (andK_true (andK_true hb).2).2
      unfold roomy; omega
    obtain ⟨rfl, rfl, k1, k2, k3, k4, k5⟩ := sliceK_sound (ρ := ρ) (U := U) (n0 := len) hr hmc (fun q' hq' => by subst hq'; exact hx2.1) (fun q' hq' => by
      subst hq'
      have := hx2.2
      unfold OkS at this
      rw [if_neg hcapr] at this
      exact this)
    refine fin (A := q.map (renA ρ)) (cap' := cap) ?_ hm2 k1 k2 k3 k4 k5 hR
    rw [hx1]
    cases q with
    | none => rfl
    | some q =>
      show Value.slice (some (renA ρ q)) len (renC ρ q cap) = _
      unfold renC
      rw [if_neg hcapr]
      rfl
end
end Go.Proofs.YtedipingocmmdaaGreat.Ev


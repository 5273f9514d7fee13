/- An evaluator of calls: codes, functions. -/
import Derived.Test.YtedipingocmmdaaGreatEvX5
namespace Go.Proofs.YtedipingocmmdaaGreat.Ev
open Go Go.RowKit

section
variable {P : Program} {n : Nat} {ops : Array Oper}
theorem oper_opok {o : Oper} {s : SOper} (h : compileOper P n ops o = some s) : OpOk P o s.op := by
  unfold compileOper at h
  split at h
  · split at h
    · split at h
      · rename_i op hc
        injection h with h; subst h
        exact compileOp_ok hc
      · injection h with h; subst h
        exact bad_ok
    · cases h
  · cases h
theorem frL_of : ∀ {os : List Oper} {ss : List SOper}, mapO (compileOper P n ops) os = some ss → FrL ss
  | [], ss, h => by injection h with h; subst h; intro o ho; cases ho
  | o :: os, ss, h => by
    obtain ⟨s, ss2, hs, hss, rfl⟩ := mapO_cons h
    intro x hx
    rcases List.mem_cons.mp hx with rfl | hx
    · exact (oper_opok hs).fr
    · exact frL_of hss x hx
theorem pairs_mem {i j : Nat} (hij : i < j) (hj : j < ops.size) (ho : ordB (Region.before ops) i j ≠ true) (hp : pairOk ops i j = true) : (ops.size - 1 - i, ops.size - 1 - j) ∈ pairsOf ops := by
  unfold pairsOf
  rw [List.mem_flatMap]
  refine ⟨j, List.mem_range.mpr hj, List.mem_filterMap.mpr ⟨i, List.mem_range.mpr hij, ?_⟩⟩
  rw [if_pos]
  rw [Bool.and_eq_true]
  exact ⟨by simpa using ho, hp⟩
theorem region_ok {id : Nat} {draw : Bool} {ec : EC} (h : compileRegion P n ops draw = some ec) : FrC ec ∧ ∀ cl, CallsOk P cl → (∀ f l, Framed (cl f l)) → P.follows .mixedOrders = true → SoundC P cl n (.region id ops draw) ec := by
  unfold compileRegion at h
  cases hl : mapO (compileOper P n ops) ops.toList with
  | none => rw [hl] at h; cases h
  | some ss =>
    rw [hl] at h
    simp only at h
    cases draw with
    | false =>
      injection h with h; subst h
      refine ⟨fr_cSeqR (frL_of hl), fun cl hcl hfr _ T g c H l x T' c' H' l' base w0 ρ U a w hr hF hR hU Q hQ => ?_⟩
      obtain ⟨T1, c1, H1, l1, h1, h2⟩ := bind_ok hr
      obtain ⟨h3, rfl, rfl, rfl⟩ := ret_ok h2
      injection h3 with h3 h4
      subst h3 h4
      exact wp_region_list (list_sound hcl hfr ops.toList ss 0 (fun t => by simp) hl h1 hF hR hU hQ)
    | true =>
      rw [if_pos rfl] at h
      split at h
      · rename_i hd
        split at h
        · rename_i hp
          injection h with h; subst h
          refine ⟨fr_cSeqR (frL_of hl), fun cl hcl hfr hmix T g c H l x T' c' H' l' base w0 ρ U a w hr hF hR hU Q hQ => ?_⟩
          obtain ⟨T1, c1, H1, l1, h1, h2⟩ := bind_ok hr
          obtain ⟨h3, rfl, rfl, rfl⟩ := ret_ok h2
          injection h3 with h3 h4
          subst h3 h4
          obtain ⟨its, hi, hch, -⟩ := seq_items hcl hfr ops.toList ss 0 hl h1
          refine draw_sound hmix hi (left_all hi hd fun i j x y hij hx hy ho hpo => ?_) hch hF hR hU hQ
          have hj : j < ops.size := by
            have h5 := (List.getElem?_eq_some_iff.mp hy).1
            rw [hi.len, Array.length_toList] at h5; exact h5
          have := pairs_mem hij hj ho hpo
          rw [hp] at this
          cases this
        · rename_i p ps hp
          injection h with h; subst h
          refine ⟨fr_cDraw (frL_of hl), fun cl hcl hfr hmix T g c H l x T' c' H' l' base w0 ρ U a w hr hF hR hU Q hQ => ?_⟩
          obtain ⟨T1, c1, H1, l1, h1, h2⟩ := bind_ok hr
          obtain ⟨h3, rfl, rfl, rfl⟩ := ret_ok h2
          injection h3 with h3 h4
          subst h3 h4
          obtain ⟨r, c2, H2, l2, h5, h6⟩ := bind_ok h1
          obtain ⟨T2, ds⟩ := r
          obtain ⟨hpk, h7⟩ := iff_ok (show M.iff (pairsOk ds (p :: ps)) (.ret T2) g c2 H2 l2 = .ok T' c' H' l' from h6)
          obtain ⟨rfl, rfl, rfl, rfl⟩ := ret_ok h7
          obtain ⟨its, hi, hch, -, hds⟩ := log_items hcl hfr ops.toList ss 0 hl h5
          have hlen : its.length = ops.size := by rw [hi.len, Array.length_toList]
          refine draw_sound hmix hi (left_all hi hd fun i j x y hij hx hy ho hpo => ?_) hch hF hR hU hQ
          have hj : j < ops.size := by
            have h5 := (List.getElem?_eq_some_iff.mp hy).1
            omega
          have hmem := pairs_mem hij hj ho hpo
          rw [hp] at hmem
          obtain ⟨A, B, hA, hB, hAB⟩ := pairsOk_spec hpk _ _ hmem
          have hget : ∀ k z, its[k]? = some (k, z) → ds[ops.size - 1 - k]? = some ⟨z.c, z.d, z.l⟩ := fun k z hz => by
            have hk := (List.getElem?_eq_some_iff.mp hz).1
            have hds2 : ds = (its.map didOf).reverse := by rw [show ds = _ from hds, List.append_nil]
            rw [hds2, List.getElem?_reverse (by rw [List.length_map]; omega), List.length_map, show its.length - 1 - (ops.size - 1 - k) = k by omega, List.getElem?_map, hz]
            rfl
          rw [hget i x hx] at hA
          rw [hget j y hy] at hB
          injection hA with hA
          injection hB with hB
          rw [hA, hB]; exact hAB
      · cases h
theorem exit_ok {α : Type} {x : IExit} {A C : M α} {B : Nat → M α} {g : Bool} {c : Nat} {H : Mem} {l : Log} {r : Res α} (h : onExit x A B C g c H l = r) : (x = .normal ∧ A g c H l = r) ∨ (∃ i, x = .exit i ∧ B i g c H l = r) ∨ (x = .ret ∧ C g c H l = r) := by
  cases x with
  | normal => exact .inl ⟨rfl, h⟩
  | exit i => exact .inr (.inl ⟨i, rfl, h⟩)
  | ret => exact .inr (.inr ⟨rfl, h⟩)
theorem loop_sound {cl : CL} {code : Code} {ec : EC} (hfr : ∀ T, Framed (ec cl T)) (hs : SoundC P cl n code ec) {base : Nat} {w0 : World} {Q : Exit → Act → World → Prop} : ∀ (k : Nat) (T : Trie Value) (g : Bool) (c : Nat) (H : Mem) (l : Log) (x : IExit) (T' : Trie Value) (c' : Nat) (H' : Mem) (l' : Log) (ρ : Nat → Loc) (U : Nat → Prop) (a : Act) (w : World),
    loopN (ec cl) k T g c H l = .ok (x, T') c' H' l' → Frm ρ U n T.get a → Rel P base w0 ρ U H w → (∀ j, c ≤ j → j < c' → ¬ U j) →
    (∀ ρ' U' a' w', More ρ U ρ' U' → (∀ j, U' j → U j ∨ (c ≤ j ∧ j < c')) → Frm ρ' U' n T'.get a' → Rel P base w0 ρ' U' H' w' → Q (exitOf x) a' w') → Code.rounds P code Q k a w
  | 0, T, g, c, H, l, x, T', c', H', l', ρ, U, a, w, h, _, _, _, _ => by cases h
  | k + 1, T, g, c, H, l, x, T', c', H', l', ρ, U, a, w, h, hF, hR, hU, hQ => by
    obtain ⟨r, c1, H1, l1, h1, h2⟩ := bind_ok (show M.bind (ec cl T) (fun r => Prod.rec (fun x T => onExit x (loopN (ec cl) k T) (fun i => .ret (.exit i, T)) (.ret (.ret, T))) r) g c H l = .ok (x, T') c' H' l' from h)
    obtain ⟨x1, T1⟩ := r
    have hc1 := mono_of (hfr T) h1
    show code.wp P (Exit.then (Code.rounds P code Q k) Q) a w
    rcases exit_ok h2 with ⟨rfl, h3⟩ | ⟨i, rfl, h3⟩ | ⟨rfl, h3⟩
    · have hc2 := mono_of (fr_loopN hfr k T1) h3
      refine hs T g c H l .normal T1 c1 H1 l1 base w0 ρ U a w h1 hF hR (fun j a b => hU j a (by omega)) _ fun ρ' U' a' w' m1 m2 m3 m4 => ?_
      refine loop_sound hfr hs k T1 g c1 H1 l1 x T' c' H' l' ρ' U' a' w' h3 m3 m4 (fun j a b hj => ?_) fun ρ2 U2 a2 w2 k1 k2 k3 k4 => hQ ρ2 U2 a2 w2 (m1.trans k1) (fun j hj => ?_) k3 k4
      · rcases m2 j hj with h5 | h5
        · exact hU j (by omega) b h5
        · omega
      · rcases k2 j hj with h5 | h5
        · rcases m2 j h5 with h6 | h6
          · exact .inl h6
          · exact .inr (by omega)
        · exact .inr (by omega)
    · obtain ⟨h4, rfl, rfl, rfl⟩ := ret_ok h3
      injection h4 with h4 h5
      subst h4 h5
      exact hs T g c H l (.exit i) T' c' H' l' base w0 ρ U a w h1 hF hR hU _ hQ
    · obtain ⟨h4, rfl, rfl, rfl⟩ := ret_ok h3
      injection h4 with h4 h5
      subst h4 h5
      exact hs T g c H l .ret T' c' H' l' base w0 ρ U a w h1 hF hR hU _ hQ
theorem code_ok : ∀ (code : Code) (ec : EC), compileC P n code = some ec → FrC ec ∧ ∀ cl, CallsOk P cl → (∀ f l, Framed (cl f l)) → P.follows .mixedOrders = true → SoundC P cl n code ec
  | .skip, ec, h => by
    injection h with h; subst h
    refine ⟨fr_cSkip, fun cl _ _ _ T g c H l x T' c' H' l' base w0 ρ U a w hr hF hR hU Q hQ => ?_⟩
    obtain ⟨h3, rfl, rfl, rfl⟩ := ret_ok hr
    injection h3 with h3 h4
    subst h3 h4
    exact wp_skip (hQ ρ U a w .refl (fun j hj => .inl hj) hF hR)
  | .region id ops draw, ec, h => region_ok h
  | .seq A B, ec, h => by
    simp only [compileC] at h
    split at h
    · rename_i x y hx hy
      injection h with h; subst h
      obtain ⟨fx, sx⟩ := code_ok A x hx
      obtain ⟨fy, sy⟩ := code_ok B y hy
      refine ⟨fr_cSeq fx fy, fun cl hcl hfr hmix T g c H l xe T' c' H' l' base w0 ρ U a w hr hF hR hU Q hQ => ?_⟩
      obtain ⟨r, c1, H1, l1, h1, h2⟩ := bind_ok hr
      obtain ⟨x1, T1⟩ := r
      have hc1 := mono_of (fx cl hfr T) h1
      refine wp_seq ?_
      rcases exit_ok h2 with ⟨rfl, h3⟩ | ⟨i, rfl, h3⟩ | ⟨rfl, h3⟩
      · have hc2 := mono_of (fy cl hfr T1) h3
        refine sx cl hcl hfr hmix T g c H l .normal T1 c1 H1 l1 base w0 ρ U a w h1 hF hR (fun j a b => hU j a (by omega)) _ fun ρ' U' a' w' m1 m2 m3 m4 => ?_
        refine sy cl hcl hfr hmix T1 g c1 H1 l1 xe T' c' H' l' base w0 ρ' U' a' w' h3 m3 m4 (fun j a b hj => ?_) Q fun ρ2 U2 a2 w2 k1 k2 k3 k4 => hQ ρ2 U2 a2 w2 (m1.trans k1) (fun j hj => ?_) k3 k4
        · rcases m2 j hj with h5 | h5
          · exact hU j (by omega) b h5
          · omega
        · rcases k2 j hj with h5 | h5
          · rcases m2 j h5 with h6 | h6
            · exact .inl h6
            · exact .inr (by omega)
          · exact .inr (by omega)
      · obtain ⟨h4, rfl, rfl, rfl⟩ := ret_ok h3
        injection h4 with h4 h5
        subst h4 h5
        exact sx cl hcl hfr hmix T g c H l (.exit i) T' c' H' l' base w0 ρ U a w h1 hF hR hU _ hQ
      · obtain ⟨h4, rfl, rfl, rfl⟩ := ret_ok h3
        injection h4 with h4 h5
        subst h4 h5
        exact sx cl hcl hfr hmix T g c H l .ret T' c' H' l' base w0 ρ U a w h1 hF hR hU _ hQ
    · cases h
  | .cond q A B, ec, h => by
    simp only [compileC] at h
    split at h
    · rename_i x y hq hx hy
      injection h with h; subst h
      obtain ⟨fx, sx⟩ := code_ok A x hx
      obtain ⟨fy, sy⟩ := code_ok B y hy
      refine ⟨fr_cCond fx fy, fun cl hcl hfr hmix T g c H l xe T' c' H' l' base w0 ρ U a w hr hF hR hU Q hQ => ?_⟩
      obtain ⟨b, hb, h1⟩ := bool_ok hr
      have he := (hF.eval hq).1
      rw [hb] at he
      refine wp_cond (t := b) he ?_
      cases b
      · exact sy cl hcl hfr hmix T g c H l xe T' c' H' l' base w0 ρ U a w h1 hF hR hU Q hQ
      · exact sx cl hcl hfr hmix T g c H l xe T' c' H' l' base w0 ρ U a w h1 hF hR hU Q hQ
    · cases h
  | .block id A, ec, h => by
    simp only [compileC] at h
    split at h
    · rename_i x hx
      injection h with h; subst h
      obtain ⟨fx, sx⟩ := code_ok A x hx
      refine ⟨fr_cBlock fx, fun cl hcl hfr hmix T g c H l xe T' c' H' l' base w0 ρ U a w hr hF hR hU Q hQ => ?_⟩
      obtain ⟨r, c1, H1, l1, h1, h2⟩ := bind_ok hr
      obtain ⟨x1, T1⟩ := r
      refine wp_block ?_
      rcases exit_ok h2 with ⟨rfl, h3⟩ | ⟨i, rfl, h3⟩ | ⟨rfl, h3⟩
      · obtain ⟨h4, rfl, rfl, rfl⟩ := ret_ok h3
        injection h4 with h4 h5
        subst h4 h5
        exact sx cl hcl hfr hmix T g c H l .normal T' c' H' l' base w0 ρ U a w h1 hF hR hU _ hQ
      · refine sx cl hcl hfr hmix T g c H l (.exit i) T1 c1 H1 l1 base w0 ρ U a w h1 hF hR (fun j a b => hU j a (by
          obtain ⟨-, rfl, -, -⟩ := ret_ok h3; exact b)) _ fun ρ' U' a' w' m1 m2 m3 m4 => ?_
        show if i = id then Q .normal a' w' else Q (.exit i) a' w'
        obtain ⟨h4, rfl, rfl, rfl⟩ := ret_ok h3
        rcases beq_cases i id with ⟨e, e2⟩ | ⟨e, e2⟩
        · rw [e] at h4
          injection h4 with h4 h5
          subst h4 h5
          rw [if_pos e2]
          exact hQ ρ' U' a' w' m1 m2 m3 m4
        · rw [e] at h4
          injection h4 with h4 h5
          subst h4 h5
          rw [if_neg e2]
          exact hQ ρ' U' a' w' m1 m2 m3 m4
      · obtain ⟨h4, rfl, rfl, rfl⟩ := ret_ok h3
        injection h4 with h4 h5
        subst h4 h5
        exact sx cl hcl hfr hmix T g c H l .ret T' c' H' l' base w0 ρ U a w h1 hF hR hU _ hQ
    · cases h
  | .loop A, ec, h => by
    simp only [compileC] at h
    split at h
    · rename_i x hx
      injection h with h; subst h
      obtain ⟨fx, sx⟩ := code_ok A x hx
      refine ⟨fr_cLoop fx, fun cl hcl hfr hmix T g c H l xe T' c' H' l' base w0 ρ U a w hr hF hR hU Q hQ => ?_⟩
      exact wp_loop_rounds rounds (loop_sound (fx cl hfr) (sx cl hcl hfr hmix) rounds T g c H l xe T' c' H' l' ρ U a w hr hF hR hU hQ)
    · cases h
  | .exit id, ec, h => by
    injection h with h; subst h
    refine ⟨fr_cExit, fun cl _ _ _ T g c H l x T' c' H' l' base w0 ρ U a w hr hF hR hU Q hQ => ?_⟩
    obtain ⟨h3, rfl, rfl, rfl⟩ := ret_ok hr
    injection h3 with h3 h4
    subst h3 h4
    exact wp_exit (hQ ρ U a w .refl (fun j hj => .inl hj) hF hR)
  | .ret, ec, h => by
    injection h with h; subst h
    refine ⟨fr_cRet, fun cl _ _ _ T g c H l x T' c' H' l' base w0 ρ U a w hr hF hR hU Q hQ => ?_⟩
    obtain ⟨h3, rfl, rfl, rfl⟩ := ret_ok hr
    injection h3 with h3 h4
    subst h3 h4
    exact wp_ret (hQ ρ U a w .refl (fun j hj => .inl hj) hF hR)
  | .rangeFunc .., ec, h => by cases h
  | .scope _, ec, h => by cases h
  | .label _, ec, h => by cases h
  | .goto _, ec, h => by cases h
  | .refuse _, ec, h => by cases h
end
end Go.Proofs.YtedipingocmmdaaGreat.Ev


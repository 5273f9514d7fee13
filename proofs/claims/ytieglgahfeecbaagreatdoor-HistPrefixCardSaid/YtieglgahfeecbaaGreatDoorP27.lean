/- A history that some order explains is explained up to each of its calls, too: the statement HistPrefix, whole: for every input the call returns true, and what came in reads as before. Conditions: none but what the row lists. -/
import Derived.Test.YtieglgahfeecbaaGreatDoorRows
import Derived.ProofKit
import Derived.OpenShut
import Derived.Deep.Slices
import Derived.Deep.Fields
import Derived.SizedLaws
import Derived.LaidMore
import Derived.Lib.LaidTab
import Derived.Lib.TrailingZeros
import Derived.Test.YtieglgahfeecbaaGreatDoorCards
import Derived.Test.YtieglgahfeecbaaGreatDoorTie
import Derived.Deep.DeepHandedRow
import Derived.Stop.LaidErr
import Derived.Test.YtieglgahfeecbaaGreatDoorP1
import Derived.Test.YtieglgahfeecbaaGreatDoorP2
import Derived.Test.YtieglgahfeecbaaGreatDoorP6
import Derived.Test.YtieglgahfeecbaaGreatDoorP7
import Derived.Test.YtieglgahfeecbaaGreatDoorP12
import Derived.Test.YtieglgahfeecbaaGreatDoorP26
set_option maxHeartbeats 64000000
set_option maxRecDepth 100000
namespace Go.Proofs.YtieglgahfeecbaaGreatDoor
open Go.RowKit Go.Sort
attribute [local go_sem ↓] Go.wp_at_zero Go.wp_at_succ
def nte22 (v : Int) : List Nte := [⟨1,0,1,1,8,0,7,false,none,0,0,0,0,0,0⟩,⟨1,1,1,2,9,0,0,false,none,0,0,0,0,0,0⟩,⟨3,1,1,3,9,0,0,false,none,0,0,1,0,0,v⟩,⟨3,0,1,4,8,0,7,false,none,0,0,1,0,0,0⟩]
theorem nts22_in {W : World} {NA : Option Addr} {v : Int} (h : Rd W NA (rows (nte22 v))) : NtsIn W NA (nte22 v) (nts22 v) :=
 ⟨h,rfl,by show 4 <= 4096; omega,fun k hk => by
  match k,hk with
  | 0,_ => exact ⟨[],⟨rfl,.inl rfl⟩,rfl⟩
  | 1,_ => exact ⟨[],⟨rfl,.inl rfl⟩,rfl⟩
  | 2,_ => exact ⟨[],⟨rfl,.inl rfl⟩,rfl⟩
  | 3,_ => exact ⟨[],⟨rfl,.inl rfl⟩,rfl⟩
  | k + 4,hk => exact absurd hk (by show ¬ k + 4 < 4; omega)⟩
theorem nts22_drop {W : World} {NA : Option Addr} {v : Int} (h : Rd W NA (rows ((nte22 v).drop 2))) : NtsIn W NA ((nte22 v).drop 2) ((nts22 v).drop 2) :=
 ⟨h,rfl,by show 2 <= 4096; omega,fun k hk => by
  match k,hk with
  | 0,_ => exact ⟨[],⟨rfl,.inl rfl⟩,rfl⟩
  | 1,_ => exact ⟨[],⟨rfl,.inl rfl⟩,rfl⟩
  | k + 2,hk => exact absurd hk (by show ¬ k + 2 < 2; omega)⟩
theorem rd26 {W : World} {g : Nat} {v : Int} (h : Blk W g 44 (rows (nte22 v))) : Rd W (some ⟨g,26,none⟩) (rows ((nte22 v).drop 2)) :=
 .inr ⟨g,26,rfl,h.lt,fun k u hk => h.cell (i := 26 + k) ((show (rows (nte22 v))[26 + k]? = (rows ((nte22 v).drop 2))[k]? from by
  rw [<- List.getElem?_drop]; rfl).trans hk)⟩
theorem cfg22_in (W : World) : CfgIn W cfg22 := ⟨.inl rfl,by show 0 <= maxLen; exact Nat.zero_le _⟩
theorem legal22_any (NA : Option Addr) (nc : Nat) (NS : List Nte) (PS : List NtP) (W : World) (hN : NtsIn W NA NS PS) (h60 : NS.length <= 60) (hz : Tz16 W) (k : Int) (b : Bool) (hk : checkS cfg22 PS = k) (hb : b = true ↔ k = 0/\legalB cfg22 PS) :
  Calls Tryz.prog 7 #[.agg #[.int .i64 1,.int .i64 2,.int .i64 0,.int .i64 2,.int .i64 3,.int .i64 2,.int .i64 1,.int .i64 99,.int .i64 99,.int .i64 0,.slice none 0 0],.slice NA NS.length nc] W fun e w' => e = .returned (.tuple #[.bool b,.int .i64 k])/\Below W.heap.size W w' := by
 refine (hLegal_any cfg22 NA nc NS PS W (objOk_any cfg22 chk22) (cfg22_in W) hN (by decide) h60 hz (startO_len _)).mono ?_
 rintro e w' ⟨b',rfl,hb',hw⟩
 rw [hk] at hb' ⊢
 have : b' = b := by
  rw [Bool.eq_iff_iff]
  exact hb'.trans hb.symm
 rw [this]
 exact ⟨rfl,hw⟩
theorem small22_any (w : World) : Calls Tryz.prog 14 #[] w fun e w' => e = .returned (.agg #[.int .i64 1,.int .i64 2,.int .i64 0,.int .i64 2,.int .i64 3,.int .i64 2,.int .i64 1,.int .i64 99,.int .i64 99,.int .i64 0,.slice none 0 0])/\Below w.heap.size w w' := by
 go_enter Tryz.func14,Tryz.ntmps14
 go_wp2_with fail
 refine bodyPost_ret (v := .agg #[.int .i64 1,.int .i64 2,.int .i64 0,.int .i64 2,.int .i64 3,.int .i64 2,.int .i64 1,.int .i64 99,.int .i64 99,.int .i64 0,.slice none 0 0]) (ret_cell (g := w.heap.size) rfl rfl (run_loadVar_row (P := Tryz.prog) _ w.heap.size 24 24 _ (0,0) _ (blk_new (cs := cfgCells cfg22) rfl) Tryz.underlying24 rfl (by kernel_rfl))) rfl ?_
 exact ⟨rfl,(Below.refl _ _).alloc (Nat.le_refl _) _⟩
theorem awake22_any (w : World) (hz : Tz16 w) : Calls Tryz.prog 6 #[] w fun e w' => e = .returned (.bool true)/\Below w.heap.size w w' := by
 have HZ := Zd (fun W (hb : Below w.heap.size w W) => hz.below hb)
 clear hz
 go_enter Tryz.func6,Tryz.ntmps6
 go_upto_region 4 with fail
 have HGL : Hid (w.heap.size <= w.heap.size + 1 + 1) := Zd (by omega)
 have HX : Hid (Blk ((((w.alloc (.cells #[.int .i64 8,.int .i64 0,.int .i64 7,.bool false,.slice none 0 0] 40)).alloc (.cells #[.int .i64 9,.int .i64 0,.int .i64 0,.bool false,.slice none 0 0] 40)).alloc (.cells #[.int .i64 1,.int .i64 0,.int .i64 1,.int .i64 1,.int .i64 8,.int .i64 0,.int .i64 7,.bool false,.slice none 0 0,.int .i64 0,.int .i64 0,.int .i64 0,.int .i64 0,.int .i64 1,.int .i64 1,.int .i64 1,.int .i64 2,.int .i64 9,.int .i64 0,.int .i64 0,.bool false,.slice none 0 0,.int .i64 0,.int .i64 0,.int .i64 0,.int .i64 0,.int .i64 3,.int .i64 1,.int .i64 1,.int .i64 3,.int .i64 9,.int .i64 0,.int .i64 0,.bool false,.slice none 0 0,.int .i64 1,.int .i64 0,.int .i64 0,.int .i64 7,.int .i64 3,.int .i64 0,.int .i64 1,.int .i64 4,.int .i64 8,.int .i64 0,.int .i64 7,.bool false,.slice none 0 0,.int .i64 1,.int .i64 0,.int .i64 0,.int .i64 0] 44))) (w.heap.size + 1 + 1) 44 (rows (nte22 7))) := Zd (blk_new (w := (w.alloc (.cells #[.int .i64 8,.int .i64 0,.int .i64 7,.bool false,.slice none 0 0] 40)).alloc (.cells #[.int .i64 9,.int .i64 0,.int .i64 0,.bool false,.slice none 0 0] 40)) (cs := rows (nte22 7)) (by simp))
 have HB3 := Zd ((((Below.refl w.heap.size w).alloc (Nat.le_refl _) (.cells #[.int .i64 8,.int .i64 0,.int .i64 7,.bool false,.slice none 0 0] 40)).alloc (by simp) (.cells #[.int .i64 9,.int .i64 0,.int .i64 0,.bool false,.slice none 0 0] 40)).alloc (by simp; omega) (.cells #[.int .i64 1,.int .i64 0,.int .i64 1,.int .i64 1,.int .i64 8,.int .i64 0,.int .i64 7,.bool false,.slice none 0 0,.int .i64 0,.int .i64 0,.int .i64 0,.int .i64 0,.int .i64 1,.int .i64 1,.int .i64 1,.int .i64 2,.int .i64 9,.int .i64 0,.int .i64 0,.bool false,.slice none 0 0,.int .i64 0,.int .i64 0,.int .i64 0,.int .i64 0,.int .i64 3,.int .i64 1,.int .i64 1,.int .i64 3,.int .i64 9,.int .i64 0,.int .i64 0,.bool false,.slice none 0 0,.int .i64 1,.int .i64 0,.int .i64 0,.int .i64 7,.int .i64 3,.int .i64 0,.int .i64 1,.int .i64 4,.int .i64 8,.int .i64 0,.int .i64 7,.bool false,.slice none 0 0,.int .i64 1,.int .i64 0,.int .i64 0,.int .i64 0] 44))
 generalize (((w.alloc (.cells #[.int .i64 8,.int .i64 0,.int .i64 7,.bool false,.slice none 0 0] 40)).alloc (.cells #[.int .i64 9,.int .i64 0,.int .i64 0,.bool false,.slice none 0 0] 40)).alloc (.cells #[.int .i64 1,.int .i64 0,.int .i64 1,.int .i64 1,.int .i64 8,.int .i64 0,.int .i64 7,.bool false,.slice none 0 0,.int .i64 0,.int .i64 0,.int .i64 0,.int .i64 0,.int .i64 1,.int .i64 1,.int .i64 1,.int .i64 2,.int .i64 9,.int .i64 0,.int .i64 0,.bool false,.slice none 0 0,.int .i64 0,.int .i64 0,.int .i64 0,.int .i64 0,.int .i64 3,.int .i64 1,.int .i64 1,.int .i64 3,.int .i64 9,.int .i64 0,.int .i64 0,.bool false,.slice none 0 0,.int .i64 1,.int .i64 0,.int .i64 0,.int .i64 7,.int .i64 3,.int .i64 0,.int .i64 1,.int .i64 4,.int .i64 8,.int .i64 0,.int .i64 7,.bool false,.slice none 0 0,.int .i64 1,.int .i64 0,.int .i64 0,.int .i64 0] 44)) = W3 at *
 generalize w.heap.size + 1 + 1 = gl at *
 have HL1 := Zd (fun W (hb : Below W3.heap.size W3 W) => legal22_any (some ⟨gl,0,none⟩) 4 (nte22 7) (nts22 7) W (nts22_in (HX.out.below hb HX.out.lt).rd) (by show 4 <= 60; omega) (HZ.out W (btr HB3.out hb)) 0 true check22_7 ⟨fun _ => ⟨rfl,legal22_7⟩,fun _ => rfl⟩)
 go_upto_region 5 with (first
  | (go_at_call 14; refine (small22_any _).mono ?_; rintro e w4 ⟨rfl,hb4⟩; have HB4 := Zd hb4; clear hb4)
  | (go_at_call 7; refine (HL1.out _ HB4.out).mono ?_; rintro e w5 ⟨rfl,hb5⟩; have HB5 := Zd (btr HB4.out hb5); clear hb5))
 have HX5 := Zd (HX.out.below HB5.out HX.out.lt)
 have hg3 := HX.out.lt
 have x38 : w5.cell? ⟨gl,38,none⟩ = some (.int .i64 7) := HX5.out.cell (i := 38) rfl
 have x38f := HX5.out.frozen 38
 go_upto_region 6 with fail
 have HX6 : Hid (Blk (w5.setCell ⟨gl,38,none⟩ (.int .i64 8)) gl 44 (rows (nte22 8))) := Zd (HX5.out.set_ 38 (.int .i64 8))
 have hgb : w.heap.size <= gl := HGL.out
 have HB6 : Hid (Below w.heap.size w (w5.setCell ⟨gl,38,none⟩ (.int .i64 8))) := Zd (((HB3.out.trans (HB5.out.mono HB3.out.size))).setCell (p := ⟨gl,38,none⟩) hgb _)
 clear x38 x38f HX5 HL1 HX HB5 HB4 HB3
 generalize w5.setCell ⟨gl,38,none⟩ (.int .i64 8) = W6 at *
 have HL2 := Zd (fun W (hb : Below W6.heap.size W6 W) => legal22_any (some ⟨gl,0,none⟩) 4 (nte22 8) (nts22 8) W (nts22_in (HX6.out.below hb HX6.out.lt).rd) (by show 4 <= 60; omega) (HZ.out W (btr HB6.out hb)) 0 false check22_8 ⟨fun h => (by cases h),fun h => absurd h.2 legal22_8⟩)
 have HL3 := Zd (fun W (hb : Below W6.heap.size W6 W) => legal22_any (some ⟨gl,26,none⟩) 2 ((nte22 8).drop 2) ((nts22 8).drop 2) W (nts22_drop (rd26 (HX6.out.below hb HX6.out.lt))) (by show 2 <= 60; omega) (HZ.out W (btr HB6.out hb)) 3 false check22_d ⟨fun h => (by cases h),fun h => absurd h.1 (by decide)⟩)
 go_upto_region 7 with (first
  | (go_at_call 14; refine (small22_any _).mono ?_; rintro e w7 ⟨rfl,hb7⟩; have HB7 := Zd hb7; clear hb7)
  | (go_at_call 7; refine (HL2.out _ HB7.out).mono ?_; rintro e w8 ⟨rfl,hb8⟩; have HB8 := Zd (btr HB7.out hb8); clear hb8))
 refine wp_region_held_drew (S := fun w' => True) (by kernel_rfl) (trivial) (fun hHeld => ?_)
 refine tkHp 1 (.slice (some ⟨gl,0,none⟩) 4 4) rfl hHeld ?_
 refine tkHp 2 (.slice (some ⟨gl,26,none⟩) 2 2) rfl hHeld ?_
 try simp only [Nrq,Nrs]
 have HB9 := Zd HB8.out.drew
 clear HB8 HB7
 generalize w8.drew = W9 at *
 refine wpAnyH_ready (rs := [0]) (by kernel_rfl) (by simp) ?_
 refine AllReadyH.cons rfl (fun K hK => ?_) AllReadyH.nil
 clear hHeld
 rw [if_pos (by rfl)]
 simp only [Nrq]
 go_simp
 refine (small22_any W9).mono ?_
 rintro er w10 ⟨rfl,hb10⟩
 have HB10 := Zd (btr HB9.out hb10)
 clear hb10
 go_wp2_with fail
 refine hK.out _ _ (trivial) (fun hHeld => ?_)
 clear hK K
 try simp only [Nrq,Nrs]
 refine wpAnyH_ready (rs := [3]) (by kernel_rfl) (by simp) ?_
 refine AllReadyH.cons rfl (fun K hK => ?_) AllReadyH.nil
 clear hHeld
 rw [if_pos (by rfl)]
 simp only [Nrq]
 go_simp
 refine (HL3.out _ HB10.out).mono ?_
 rintro er w11 ⟨rfl,hb11⟩
 have HB11 := Zd (btr HB10.out hb11)
 clear hb11
 go_wp2_with fail
 refine hK.out _ _ (trivial) (fun hHeld => ?_)
 clear hK K
 try simp only [Nrq,Nrs]
 refine tkHp 4 (.tuple #[.bool false,.int .i64 3]) rfl hHeld ?_
 refine tkHp 5 (.bool false) rfl hHeld ?_
 refine tkHp 6 (.int .i64 3) rfl hHeld ?_
 refine tkHp 7 (.bool false) rfl hHeld ?_
 refine tkHp 8 (.int .i64 3) rfl hHeld ?_
 try simp only [Nrq,Nrs]
 clear hHeld
 refine wpAnyH_done (by kernel_rfl) ?_ _
 have HXE := Zd (HX6.out.below HB11.out HX6.out.lt)
 have HCA := Zd (fun W (hb : Below W6.heap.size W6 W) => hCalls_any (some ⟨gl,0,none⟩) 4 (nte22 8) W (by show 4 <= 1048576; omega) (HX6.out.below hb HX6.out.lt).rd)
 have HFI := Zd (fun W (hb : Below W6.heap.size W6 W) => First_any (some ⟨gl,0,none⟩) 4 (nte22 8) 1 W (by show 4 <= 1048576; omega) (by show 4 <= 4; omega) (by decide) (HX6.out.below hb HX6.out.lt).rd)
 have e1 : kindN 1 (nte22 8) = 2 := by kernel_rfl
 have e3 : kindN 3 (nte22 8) = 2 := by kernel_rfl
 have e4 : fstN (nte22 8) (max (1 : Int) 0).toNat = 1 := by kernel_rfl
 rw [e1,e3] at HCA
 rw [e4] at HFI
 clear e1 e3 e4
 go_wp2_with (first
  | (go_at_call 15; refine (HCA.out _ HB11.out).mono ?_; rintro e w12 ⟨rfl,hb12⟩; have HB12 := Zd (btr HB11.out hb12); clear hb12)
  | (go_at_call 11; refine (HFI.out _ HB12.out).mono ?_; rintro e w13 ⟨A,d,rfl,_,hb13⟩; have HB13 := Zd (btr HB12.out hb13); clear hb13))
 go_ret
 exact ⟨rfl,HB6.out.trans (HB13.out.mono HB6.out.size)⟩
section
open Go.ChangeShapes Go.WideShapes Go.ChangeAt Go.RowKit Go.Deep
theorem own_knob : ownKnob Tryz.prog.godebug = none := by kernel_rfl
theorem laid_out : laidOutB Tryz.prog = true := by kernel_rfl
section
variable {H : Type} {enc : TypeId × Value->H} {P : Program}
theorem trodAll_stays (hl : laidOutB P = true) {W W' : World} (hb : Below W.heap.size W W') {sp' : Nat->Bool} : ∀ (ts : List TypeId) (vs : List Value) (ds : List (DataW H)) (ps : List MemPlace),
  (∀ t ∈ ts,P.readableRec t = true/\t < P.types.size)->DataW.TrodAll enc P W 0 (fun _ => true) true ts vs ds ps->(∀ x ∈ ps,x.block < W.heap.size)->(∀ x ∈ ps,sp' x.block = true) ->
  DataW.TrodAll enc P W' 0 sp' true ts vs ds ps
 | [],vs,ds,ps,_,h,_,_ => by
   obtain ⟨rfl,rfl,rfl⟩ := trodAll_nil h
   exact trodAll_mk0
 | t :: ts,vs,ds,ps,ht,h,hlt,hs => by
   obtain ⟨v,vs',d,ds',p,q,rfl,rfl,rfl,h0,h1⟩ := trodAll_cons h
   have h2 := ht t (by simp)
   exact ⟨p,q,WideElems.Trod_stays hl h2.1 h2.2 h0 (fun x hx => hb.same (hlt x (by simp [hx]))) (fun x hx => hs x (by simp [hx])),
    trodAll_stays hl hb ts vs' ds' q (fun t' h' => ht t' (by simp [h'])) h1 (fun x hx => hlt x (by simp [hx])) (fun x hx => hs x (by simp [hx])),rfl⟩
theorem law_post {f : Func} {s : ChangeSpec} {tb : TypeId} {W W' : World} {args : Array Value} {ds gs : List (DataW H)} {before : List MemPlace}
  (hl : laidOutB P = true) (hts : (f.params.toList.all fun t => P.readableRec t && decide (t < P.types.size)) = true) (hrt : f.resultTypes = #[tb]) (hub : P.underlying tb = some .bool) (hsv : s.vars = [])
  (hW : DataW.Whole enc P f.params.toList s.vars false W args.toList ds gs before) (hfn : s.fn H (ds ++ []) = { results := [.lit (.bool true)],args := ds })
  (hb : Below W.heap.size W W') : s.post enc P f false true false false W args (.bool true) W' := by
 have hlt : ∀ p ∈ before,p.block < W.heap.size := fun p hp => hW.lt p hp
 have hW' := hW
 obtain ⟨p,q,hA,hV,rfl,hfz,hnd⟩ := hW
 rw [hsv] at hV
 obtain ⟨rfl,rfl⟩ := trodVars_none hV
 rw [List.append_nil] at hlt hW'
 have hts' : ∀ t ∈ f.params.toList,P.readableRec t = true/\t < P.types.size := fun t ht => by
  have := List.all_eq_true.1 hts t ht
  simpa using this
 refine ⟨ds,[],p,[],p,[],hW',?_,?_,?_,?_,fun h => by cases h⟩
 . rw [hfn,hrt]
   exact trodAll_mk1 ⟨1,by simp [DataW.trod,Value.cells,hub]⟩
 . rw [hfn]
   exact trodAll_stays hl hb _ _ _ _ hts' hA hlt (fun x hx => by simpa using hlt x hx)
 . rw [hfn,hsv]; rfl
 . exact hb.frame _
theorem open_struct {r : Reach} {b0 : Nat} {w : World} {base : Nat} {spare : Nat->Bool} {held : Bool} {t : TypeId} {fs : Array Field} {v : Value} {d : DataW H} {p : List MemPlace} (hs : P.underlying t = some (.struct fs)) (hone : oneCellFields P fs = true) (hC : P.cellsOf t = fs.size)
  (hv : Value.okWide P w r b0 t v) (h : DataW.Trod enc P w base spare held t v d p) :
  ∃ vs : List Value,v = .agg vs.toArray/\vs.length = fs.size/\∀ (j : Nat) (f : Field),fs[j]? = some f->∃ x y n,vs[j]? = some x/\DataW.trod enc P w base spare held n f.type [x] = some y := by
 obtain ⟨cs,rfl,hsz⟩ := okWide_struct hs hv
 obtain ⟨l⟩ := cs
 refine ⟨l,rfl,by simpa using hsz.trans hC,fun j f hj => ?_⟩
 obtain ⟨fuel,hf⟩ := h
 obtain ⟨xs,n,_,hx,hl,hlen,hg⟩ := DataW.trod_struct hs hf
 obtain ⟨o,k⟩ := hone_of hone j f hj
 have hjl : j < fs.size := (Array.getElem?_eq_some_iff.1 hj).1
 have hll : l.length = fs.size := by simpa using hsz.trans hC
 have h1 := hg j f hj
 rw [o,k] at h1
 simp only [Value.cells] at h1
 rw [List.drop_eq_getElem_cons (by simpa using (by omega : j < l.length))] at h1
 simp only [List.take_succ_cons,List.take_zero] at h1
 exact ⟨l[j]'(by omega),xs[j]'(by omega),n,List.getElem?_eq_getElem (by omega),h1.trans (List.getElem?_eq_getElem (by omega))⟩
theorem spot_of_cell {w : World} {a : Addr} {v : Value} (h : w.cell? a = some v) : a.spot = none := by
 unfold World.cell? at h
 split at h
 . by_cases hs : a.spot.isSome = true
   . rw [if_pos hs] at h; cases h
   . simpa using hs
 . cases h
theorem rd_ints {w : World} {base : Nat} {held : Bool} {t e : TypeId} {n : Nat} {x : Value} {y : DataW H × List MemPlace} (ht : P.underlying t = some (.slice e)) (he : P.underlying e = some (.int .i64)) (hc : P.cellsOf e = 1)
  (h : DataW.trod enc P w base (fun _ => true) held n t [x] = some y) :
  ∃ (A : Option Addr) (l : List Int) (cap : Nat),x = .slice A l.length cap/\Rd w A (ints l)/\l.length <= maxLen/\l.length <= cap/\∀ z ∈ l,(Lit.int .i64 z).wf = true := by
 rcases open_ints ht he hc h with ⟨hcs,_⟩ | ⟨a,len,cap,zs,hcs,_,hl,hm,hz,_,hcell,hwf⟩
 . simp only [List.cons.injEq,and_true] at hcs
   exact ⟨none,[],0,hcs,.inl rfl,by simp,by simp,by simp⟩
 . simp only [List.cons.injEq,and_true] at hcs
   simp only [if_true] at hz
   have hlen : (zs.take len).length = len := by rw [List.length_take]; omega
   refine ⟨some a,zs.take len,cap,by rw [hlen]; exact hcs,?_,by omega,by omega,fun z hz' => hwf z (List.mem_of_mem_take hz')⟩
   rcases Nat.eq_zero_or_pos len with h0 | h0
   . left; simp [h0,ints]
   . right
     have c0 := hcell 0 (by omega)
     obtain ⟨b,o,sp⟩ := a
     have hsp := spot_of_cell c0
     simp [Addr.add] at hsp
     subst hsp
     refine ⟨b,o,rfl,block_lt_of_cell (a := ⟨b,o,none⟩) (by simpa [Addr.add] using c0),fun k v hk => ?_⟩
     have hkl : k < (zs.take len).length := by
      have := (List.getElem?_eq_some_iff.1 hk).1
      simpa [ints] using this
     rw [ints_at hkl] at hk
     have hck := hcell k (by omega)
     have e1 : (Addr.add ⟨b,o,none⟩ k) = ⟨b,o + k,none⟩ := by
      unfold Addr.add; split
      . simp_all
      . rfl
     rw [e1] at hck
     rw [hck,<- hk]
     congr 2
     simp only [List.getD,List.getElem?_take]
     rw [if_pos (by omega)]
end
end
section
open Go.ChangeShapes Go.WideShapes Go.ChangeAt Go.RowKit Go.Deep
section
variable {H : Type} {enc : TypeId × Value->H} {P : Program} {w : World} {base : Nat} {spare : Nat->Bool} {held : Bool}
theorem addr_add (b o k : Nat) : (Addr.add ⟨b,o,none⟩ k) = ⟨b,o + k,none⟩ := by
 unfold Addr.add; split
 . simp_all
 . rfl
theorem fld {e : TypeId} {fs : Array Field} {n : Nat} {cs : List Value} {y : DataW H × List MemPlace} (he : P.underlying e = some (.struct fs)) (h : DataW.trod enc P w base spare held n e cs = some y) (j o c : Nat) (t : TypeId)
  (hj : fs[j]?.map (fun f => (f.offset,f.type)) = some (o,t)) (hc : P.cellsOf t = c) : ∃ y' n',DataW.trod enc P w base spare held n' t ((cs.drop o).take c) = some y' := by
 obtain ⟨xs,m,_,_,_,hlen,hg⟩ := DataW.trod_struct he h
 obtain ⟨f,hf,hp⟩ := Option.map_eq_some_iff.1 hj
 simp only [Prod.mk.injEq] at hp
 obtain ⟨rfl,rfl⟩ := hp
 have h1 := hg j f hf
 have hjl : j < fs.size := (Array.getElem?_eq_some_iff.1 hf).1
 rw [hc,List.getElem?_eq_getElem (by omega)] at h1
 exact ⟨_,m,h1⟩
theorem fld_len {e : TypeId} {fs : Array Field} {n : Nat} {cs : List Value} {y : DataW H × List MemPlace} (he : P.underlying e = some (.struct fs)) (h : DataW.trod enc P w base spare held n e cs = some y) : cs.length = P.cellsOf e := by
 obtain ⟨_,_,_,_,hl,_⟩ := DataW.trod_struct he h
 exact hl
theorem take1 {cs : List Value} {o : Nat} {v : Value} (h : (cs.drop o).take 1 = [v]) : cs[o]? = some v := by
 have := congrArg (fun l : List Value => l[0]?) h
 simpa [List.getElem?_take] using this
theorem leaf_int {t : TypeId} {k : IntKind} {n o : Nat} {cs : List Value} {y : DataW H × List MemPlace} (ht : P.underlying t = some (.int k)) (h : DataW.trod enc P w base spare held n t ((cs.drop o).take 1) = some y) : ∃ z,cs[o]? = some (.int k z)/\(Lit.int k z).wf = true := by
 obtain ⟨z,e,_,hw⟩ := DataW.trod_int ht h
 exact ⟨z,take1 e,hw⟩
theorem leaf_bool {t : TypeId} {n o : Nat} {cs : List Value} {y : DataW H × List MemPlace} (ht : P.underlying t = some .bool) (h : DataW.trod enc P w base spare held n t ((cs.drop o).take 1) = some y) : ∃ z,cs[o]? = some (.bool z) := by
 obtain ⟨z,e,_⟩ := DataW.trod_bool ht h
 exact ⟨z,take1 e⟩
theorem leaf_slice {t e : TypeId} {n o : Nat} {cs : List Value} {y : DataW H × List MemPlace} (ht : P.underlying t = some (.slice e)) (h : DataW.trod enc P w base spare held n t ((cs.drop o).take 1) = some y) : ∃ A l c,cs[o]? = some (.slice A l c)/\DataW.trod enc P w base spare held n t [.slice A l c] = some y := by
 rcases DataW.trod_slice ht h with ⟨hcs,_⟩ | ⟨a,len,cap,_,_,_,_,hcs,_⟩
 . exact ⟨_,_,_,take1 hcs,by rw [<- hcs]; exact h⟩
 . exact ⟨_,_,_,take1 hcs,by rw [<- hcs]; exact h⟩
theorem part_at {cs : List Value} {o c i : Nat} {v : Value} (h : ((cs.drop o).take c)[i]? = some v) : cs[o + i]? = some v := by
 rw [List.getElem?_take] at h
 split at h
 . simpa using h
 . cases h
theorem rd_recs {α : Type} [C : Cellful α] (Ok : α->Prop) {t e : TypeId} {n : Nat} {x : Value} {y : DataW H × List MemPlace} (ht : P.underlying t = some (.slice e)) (hC : P.cellsOf e = C.s) (hpos : 0 < C.s)
  (hopen : ∀ (n : Nat) (cs : List Value) (y : DataW H × List MemPlace),DataW.trod enc P w base (fun _ => true) held n e cs = some y->∃ a : α,cs = C.cells a/\Ok a)
  (h : DataW.trod enc P w base (fun _ => true) held n t [x] = some y) :
  ∃ (A : Option Addr) (l : List α) (cap : Nat),x = .slice A l.length cap/\Rd w A (rows l)/\l.length <= maxLen/\l.length <= cap/\(A = none->cap = 0)/\∀ a ∈ l,Ok a := by
 rcases open_slice ht h with ⟨hcs,_⟩ | ⟨a,len,cap,m,n',D,Pl,hcs,_,hl,hm,hmm,_,hi⟩
 . simp only [List.cons.injEq,and_true] at hcs
   exact ⟨none,[],0,hcs,.inl rfl,by simp,by simp,fun _ => rfl,by simp⟩
 . simp only [List.cons.injEq,and_true] at hcs
   simp only [if_true] at hmm
   rw [hC] at hi
   have hall : ∀ i,i < len->∃ b : α,(∀ j,j < C.s->w.cell? ((a.add (i * C.s)).add j) = (C.cells b)[j]?)/\Ok b := by
    intro i hil
    obtain ⟨cs',hc,ht'⟩ := hi i (by omega)
    obtain ⟨b,rfl,hb⟩ := hopen _ _ _ ht'
    obtain ⟨_,_,hat⟩ := World.cells?_some hc
    exact ⟨b,fun j hj => hat j hj,hb⟩
   have hall' : ∀ i,∃ b : α,i < len->(∀ j,j < C.s->w.cell? ((a.add (i * C.s)).add j) = (C.cells b)[j]?)/\Ok b := fun i => by
    by_cases hil : i < len
    . obtain ⟨b,hb⟩ := hall i hil
      exact ⟨b,fun _ => hb⟩
    . exact ⟨C.dflt,fun h => absurd h hil⟩
   obtain ⟨g,hg⟩ := Classical.axiomOfChoice hall'
   have hlen : ((List.range len).map g).length = len := by simp
   refine ⟨some a,(List.range len).map g,cap,by rw [hlen]; exact hcs,?_,by omega,by omega,(fun h => by cases h),fun b hb => ?_⟩
   . rcases Nat.eq_zero_or_pos len with h0 | h0
     . left; simp [h0,rows]
     . right
       have c0 := (hg 0 h0).1 0 hpos
       have hsome : ∃ v,(C.cells (g 0))[0]? = some v := ⟨_,List.getElem?_eq_getElem (by rw [C.len]; exact hpos)⟩
       obtain ⟨v0,hv0⟩ := hsome
       rw [hv0] at c0
       obtain ⟨b,o,sp⟩ := a
       have hsp := spot_of_cell c0
       have hsp' : sp = none := by
        cases sp with
        | none => rfl
        | some s => simp [Addr.add] at hsp
       subst hsp'
       rw [addr_add,addr_add] at c0
       refine ⟨b,o,rfl,block_lt_of_cell c0,fun k v hk' => ?_⟩
       have hkl : k < len * C.s := by
        have := (List.getElem?_eq_some_iff.1 hk').1
        rw [rows_length,hlen] at this
        exact this
       have hd : k / C.s * C.s + k % C.s = k := by rw [Nat.mul_comm]; exact Nat.div_add_mod k C.s
       have hq : k / C.s < len := (Nat.div_lt_iff_lt_mul hpos).2 hkl
       have hr : k % C.s < C.s := Nat.mod_lt _ hpos
       have hat := rows_at (l := (List.range len).map g) (k := k / C.s) (by omega) (k % C.s) hr
       rw [hd,hk'] at hat
       have hgd : ((List.range len).map g).getD (k / C.s) C.dflt = g (k / C.s) := by
        simp [List.getD,hq]
       rw [hgd] at hat
       have hck := (hg (k / C.s) hq).1 (k % C.s) hr
       rw [addr_add,addr_add,Nat.add_assoc,hd,<- hat] at hck
       exact hck
   . simp only [List.mem_map,List.mem_range] at hb
     obtain ⟨i,hil,rfl⟩ := hb
     exact (hg i hil).2
end
end
section
open Go.ChangeShapes Go.WideShapes Go.ChangeAt Go.RowKit Go.Deep
section
variable {H : Type} {enc : TypeId × Value->H} {w : World} {held : Bool}
theorem open_cse {n : Nat} {cs : List Value} {y : DataW H × List MemPlace} (h : DataW.trod enc Tryz.prog w 0 (fun _ => true) held n 100 cs = some y) : ∃ a : Cse,cs = a.cells := by
 have hl := fld_len Tryz.underlying100 h
 rw [show Tryz.prog.cellsOf 100 = 3 by kernel_rfl] at hl
 have c1 : Tryz.prog.cellsOf 3 = 1 := by kernel_rfl
 obtain ⟨_,_,h0⟩ := fld Tryz.underlying100 h 0 0 1 3 rfl c1
 obtain ⟨_,_,h1⟩ := fld Tryz.underlying100 h 1 1 1 3 rfl c1
 obtain ⟨_,_,h2⟩ := fld Tryz.underlying100 h 2 2 1 3 rfl c1
 obtain ⟨z0,e0,_⟩ := leaf_int Tryz.underlying3 h0
 obtain ⟨z1,e1,_⟩ := leaf_int Tryz.underlying3 h1
 obtain ⟨z2,e2,_⟩ := leaf_int Tryz.underlying3 h2
 refine ⟨⟨z0,z1,z2⟩,?_⟩
 match cs,hl with
 | [a0,a1,a2],_ =>
   simp at e0 e1 e2
   subst e0 e1 e2
   rfl
theorem open_noteQ {n : Nat} {cs : List Value} {y : DataW H × List MemPlace} (h : DataW.trod enc Tryz.prog w 0 (fun _ => true) held n 44 cs = some y) : ∃ a : Nte,cs = a.cells/\(Lit.int .i64 a.thread).wf = true/\∃ l,ReqAt w a.q l := by
 have hl := fld_len Tryz.underlying44 h
 rw [show Tryz.prog.cellsOf 44 = 13 by kernel_rfl] at hl
 have c1 : Tryz.prog.cellsOf 3 = 1 := by kernel_rfl
 have cb : Tryz.prog.cellsOf 4 = 1 := by kernel_rfl
 have cr : Tryz.prog.cellsOf 40 = 5 := by kernel_rfl
 have cq : Tryz.prog.cellsOf 42 = 4 := by kernel_rfl
 have cs1 : Tryz.prog.cellsOf 38 = 1 := by kernel_rfl
 have ce : Tryz.prog.cellsOf 27 = 1 := by kernel_rfl
 obtain ⟨_,_,h0⟩ := fld Tryz.underlying44 h 0 0 1 3 rfl c1
 obtain ⟨_,_,h1⟩ := fld Tryz.underlying44 h 1 1 1 3 rfl c1
 obtain ⟨_,_,h2⟩ := fld Tryz.underlying44 h 2 2 1 3 rfl c1
 obtain ⟨_,_,h3⟩ := fld Tryz.underlying44 h 3 3 1 3 rfl c1
 obtain ⟨_,_,hr⟩ := fld Tryz.underlying44 h 4 4 5 40 rfl cr
 obtain ⟨_,_,hq⟩ := fld Tryz.underlying44 h 5 9 4 42 rfl cq
 obtain ⟨_,_,r0⟩ := fld Tryz.underlying40 hr 0 0 1 3 rfl c1
 obtain ⟨_,_,r1⟩ := fld Tryz.underlying40 hr 1 1 1 3 rfl c1
 obtain ⟨_,_,r2⟩ := fld Tryz.underlying40 hr 2 2 1 3 rfl c1
 obtain ⟨_,_,r3⟩ := fld Tryz.underlying40 hr 3 3 1 4 rfl cb
 obtain ⟨_,_,r4⟩ := fld Tryz.underlying40 hr 4 4 1 38 rfl cs1
 obtain ⟨_,_,q0⟩ := fld Tryz.underlying42 hq 0 0 1 3 rfl c1
 obtain ⟨_,_,q1⟩ := fld Tryz.underlying42 hq 1 1 1 3 rfl c1
 obtain ⟨_,_,q2⟩ := fld Tryz.underlying42 hq 2 2 1 27 rfl ce
 obtain ⟨_,_,q3⟩ := fld Tryz.underlying42 hq 3 3 1 3 rfl c1
 obtain ⟨z0,e0,_⟩ := leaf_int Tryz.underlying3 h0
 obtain ⟨z1,e1,w1⟩ := leaf_int Tryz.underlying3 h1
 obtain ⟨z2,e2,_⟩ := leaf_int Tryz.underlying3 h2
 obtain ⟨z3,e3,_⟩ := leaf_int Tryz.underlying3 h3
 obtain ⟨z4,e4,_⟩ := leaf_int Tryz.underlying3 r0
 obtain ⟨z5,e5,_⟩ := leaf_int Tryz.underlying3 r1
 obtain ⟨z6,e6,_⟩ := leaf_int Tryz.underlying3 r2
 obtain ⟨z7,e7⟩ := leaf_bool Tryz.underlying4 r3
 obtain ⟨z8,l8,c8,e8,h8⟩ := leaf_slice Tryz.underlying38 r4
 obtain ⟨z9,e9,_⟩ := leaf_int Tryz.underlying3 q0
 obtain ⟨z10,e10,_⟩ := leaf_int Tryz.underlying3 q1
 obtain ⟨z11,e11,_⟩ := leaf_int Tryz.underlying27 q2
 obtain ⟨z12,e12,_⟩ := leaf_int Tryz.underlying3 q3
 obtain ⟨A,l,cap,ex,hR,_⟩ := rd_recs (α := Cse) (fun _ => True) Tryz.underlying38 (by kernel_rfl) (by decide) (fun n cs y h => by
  obtain ⟨a,h1⟩ := open_cse h
  exact ⟨a,h1,trivial⟩) h8
 injection ex with x1 x2 x3
 subst x1 x2 x3
 replace e4 := part_at e4
 replace e5 := part_at e5
 replace e6 := part_at e6
 replace e7 := part_at e7
 replace e8 := part_at e8
 replace e9 := part_at e9
 replace e10 := part_at e10
 replace e11 := part_at e11
 replace e12 := part_at e12
 refine ⟨⟨z0,z1,z2,z3,z4,z5,z6,z7,z8,l.length,c8,z9,z10,z11,z12⟩,?_,w1,l,⟨rfl,hR⟩⟩
 match cs,hl with
 | [a0,a1,a2,a3,a4,a5,a6,a7,a8,a9,a10,a11,a12],_ =>
   simp at e0 e1 e2 e3 e4 e5 e6 e7 e8 e9 e10 e11 e12
   subst e0 e1 e2 e3 e4 e5 e6 e7 e8 e9 e10 e11 e12
   rfl
end
theorem nts_plain {w : World} : ∀ (NS : List Nte),(∀ a ∈ NS,∃ l,ReqAt w a.q l)->∃ PS : List NtP,PS.length = NS.length/\∀ k,k < NS.length->∃ cs,ReqAt w (NS.getD k Nte.none).q cs/\PS.getD k NtP.none = (NS.getD k Nte.none).p cs
 | [],_ => ⟨[],rfl,fun k hk => absurd hk (by simp)⟩
 | a :: r,h => by
   obtain ⟨PS,h1,h2⟩ := nts_plain r (fun b hb => h b (List.mem_cons_of_mem _ hb))
   obtain ⟨l,h3⟩ := h a (List.mem_cons_self ..)
   refine ⟨a.p l :: PS,by simp [h1],fun k hk => ?_⟩
   cases k with
   | zero => exact ⟨l,h3,rfl⟩
   | succ k => simpa using h2 k (by simpa using hk)
theorem nts_in {w : World} {NA : Option Addr} {NS : List Nte} (hR : Rd w NA (rows NS)) (hl : NS.length <= 4096) (h : ∀ a ∈ NS,∃ l,ReqAt w a.q l) : ∃ PS,NtsIn w NA NS PS := by
 obtain ⟨PS,h1,h2⟩ := nts_plain NS h
 exact ⟨PS,hR,h1,hl,h2⟩
end
theorem hLegal_bad (c : Cfg) (NA : Option Addr) (nc : Nat) (NS : List Nte) (PS : List NtP) (w : World) (hk : chkB c = false) (hc : CfgIn w c) (hN : NtsIn w NA NS PS) :
  Calls Tryz.prog 7 #[cfgV c,.slice NA NS.length nc] w (RetLegal c PS w) := by
 have HCK := Zd (fun W (hb : Below w.heap.size w W) => hCheck_any c NA nc NS PS W (hc.below hb) (hN.below hb))
 have hck : checkS c PS = 1 := by unfold checkS; rw [if_pos hk]
 have HE := Zd hck
 rw [hck] at HCK
 clear hc hN hck hk
 unfold cfgV at HCK ⊢
 go_enter Tryz.func7,Tryz.ntmps7
 go_wp2_with (go_at_call 9
              refine (HCK.out _ ?_).mono ?_
              . exact (Below.refl w.heap.size w).alloc (Nat.le_refl _) _
              rintro e w1 ⟨rfl,hb1⟩
              have HB1 := Zd (((Below.refl w.heap.size w).alloc (Nat.le_refl _) _).trans (hb1.mono (by simp)))
              clear hb1)
 go_ret2
 exact ⟨false,by rw [HE.out]; rfl,⟨fun h => absurd h (by decide),fun h => absurd (HE.out.symm.trans h.1) (by decide)⟩,HB1.out⟩
theorem hLegal_all (c : Cfg) (NA : Option Addr) (nc : Nat) (NS : List Nte) (PS : List NtP) (w : World) (hc : CfgIn w c) (hN : NtsIn w NA NS PS) (h6 : c.threads <= 6) (h60 : NS.length <= 60) (hz : Tz16 w) :
  Calls Tryz.prog 7 #[cfgV c,.slice NA NS.length nc] w (RetLegal c PS w) := by
 cases hk : chkB c
 . exact hLegal_bad c NA nc NS PS w hk hc hN
 . exact hLegal_any c NA nc NS PS w (objOk_any c hk) hc hN h6 h60 hz (startO_len c)
theorem NtsIn.take {w w' : World} {NA A : Option Addr} {NS : List Nte} {PS : List NtP} (h : NtsIn w NA NS PS) (hb : Below w.heap.size w w') (m : Nat) (hm : m <= NS.length) (hR : Rd w' A (rows (NS.take m))) : NtsIn w' A (NS.take m) (PS.take m) :=
 ⟨hR,by rw [List.length_take,List.length_take,h.len],by have := h.few; rw [List.length_take]; omega,fun k hk => by
  rw [List.length_take] at hk
  have hk2 : k < m := by omega
  obtain ⟨cs,h1,h2⟩ := h.is_ k (by omega)
  have e1 : (NS.take m).getD k Nte.none = NS.getD k Nte.none := by simp [List.getD,hk2]
  have e2 : (PS.take m).getD k NtP.none = PS.getD k NtP.none := take_getD hk2
  rw [e1,e2]
  exact ⟨cs,h1.below hb,h2⟩⟩
theorem LawHP_any (c : Cfg) (NA : Option Addr) (nc : Nat) (NS : List Nte) (z : Int) (w : World) (hc : CfgIn w c) (hR : Rd w NA (rows NS)) (hlc : NS.length <= nc) (hzm : z <= 9223372036854775807) (hq : ∀ a ∈ NS,∃ l,ReqAt w a.q l) (hz : Tz16 w) :
  Calls Tryz.prog 4 #[cfgV c,.slice NA NS.length nc,.int .i64 z] w fun e w' => e = .returned (.bool true)/\Below w.heap.size w w' := by
 have HAW := Zd (fun W (hb : Below w.heap.size w W) => awake22_any W (hz.below hb))
 have HB0 := Zd ((Below.refl w.heap.size w).alloc (Nat.le_refl _) (.cells #[.int .i64 c.kind,.int .i64 c.threads,.int .i64 c.chans,.int .i64 c.cap,.int .i64 c.nodes,.int .i64 c.retire,.int .i64 c.patience,.int .i64 c.tags,.int .i64 c.seqs,.int .i64 c.gens,.slice c.sa c.start.length c.sc] 24))
 have HC0 : Hid (Blk (w.alloc (.cells #[.int .i64 c.kind,.int .i64 c.threads,.int .i64 c.chans,.int .i64 c.cap,.int .i64 c.nodes,.int .i64 c.retire,.int .i64 c.patience,.int .i64 c.tags,.int .i64 c.seqs,.int .i64 c.gens,.slice c.sa c.start.length c.sc] 24)) w.heap.size 24 [.int .i64 c.kind,.int .i64 c.threads,.int .i64 c.chans,.int .i64 c.cap,.int .i64 c.nodes,.int .i64 c.retire,.int .i64 c.patience,.int .i64 c.tags,.int .i64 c.seqs,.int .i64 c.gens,.slice c.sa c.start.length c.sc]) := Zd (blk_new rfl)
 by_cases h60 : 60 < NS.length
 . have d1 : (60 : Int) < (NS.length : Int) := by omega
   generalize NS.length = n at *
   clear hc hR hlc hzm hq hz h60 HC0
   unfold cfgV
   go_enter Tryz.func4,Tryz.ntmps4
   go_wp2_with (go_at_call 6; refine (HAW.out _ HB0.out).mono ?_; rintro e w1 ⟨rfl,hb1⟩; have HB1 := Zd (btr HB0.out hb1); clear hb1)
   go_ret
   exact ⟨rfl,HB1.out⟩
 have d1 : ¬ (60 : Int) < (NS.length : Int) := by omega
 by_cases h6 : 6 < c.threads
 . have f1 := HC0.out.cell (i := 1) rfl
   generalize NS.length = n at *
   clear hc hR hlc hzm hq hz h60 HC0
   unfold cfgV
   go_enter Tryz.func4,Tryz.ntmps4
   go_wp2_with (go_at_call 6; refine (HAW.out _ HB0.out).mono ?_; rintro e w1 ⟨rfl,hb1⟩; have HB1 := Zd (btr HB0.out hb1); clear hb1)
   go_ret
   exact ⟨rfl,HB1.out⟩
 obtain ⟨PS,hN⟩ := nts_in (NA := NA) hR (by omega) hq
 have HLG := Zd (fun W (hb : Below w.heap.size w W) => hLegal_all c NA nc NS PS W (hc.below hb) (hN.below hb) (by omega) (by omega) (hz.below hb))
 have HF1 := Zd (fun W (hb : Below w.heap.size w W) => First_any NA nc NS z W (by omega) hlc hzm (hR.below hb))
 have HM := Zd (fstN_le NS (max z 0).toNat)
 have HL2 := Zd (fun W A d (m : Nat) (hm : m <= NS.length) (hb : Below w.heap.size w W) (hA : Rd W A (rows (NS.take m))) => hLegal_all c A d (NS.take m) (PS.take m) W (hc.below hb) (hN.take hb m hm hA) (by omega) (by rw [List.length_take]; omega) (hz.below hb))
 have HTK : Hid (∀ m,m <= NS.length->checkS c PS = 0->legalB c PS->checkS c (PS.take m) = 0/\legalB c (PS.take m)) := Zd (fun m hm h1 h2 => ⟨check_take (by rw [hN.len]; exact hm) h1,expl_take (by rw [hN.len]; exact hm) h2 (Nat.zero_le _)⟩)
 have HTL : Hid (∀ m,m <= NS.length->(NS.take m).length = m) := Zd (fun m hm => by rw [List.length_take]; omega)
 unfold RetLegal at HLG HL2
 generalize fstN NS (max z 0).toNat = m at *
 have HL3 := Zd (fun W A d (hb : Below w.heap.size w W) (hA : Rd W A (rows (NS.take m))) => HL2.out W A d m HM.out hb hA)
 have HT3 := Zd (HTK.out m HM.out)
 rw [HTL.out m HM.out] at HL3
 have h6' : ¬ 6 < c.threads := h6
 clear hc hR hlc hzm hq hz h60 hN h6 HL2 HTK HTL HM
 generalize NS.take m = NT at *
 generalize checkS c (PS.take m) = E2 at *
 generalize legalB c (PS.take m) = G2 at *
 generalize checkS c PS = E at *
 generalize legalB c PS = G at *
 generalize NS.length = n at *
 unfold cfgV at HLG HL3 ⊢
 by_cases he : E = 0
 rotate_left
 . have hne : (E == 0) = false := by simpa using he
   have hne2 : (E != 0) = true := by simpa using he
   obtain ⟨f0,f1,f2,f3,f4,f5,f6,f7,f8,f9,f10⟩ := cfg_blkN HC0.out
   go_enter Tryz.func4,Tryz.ntmps4
   go_wp2_with (first
    | (go_at_call 7; refine (HLG.out _ HB0.out).mono ?_; rintro e w1 ⟨b,rfl,hb,hb1⟩; have HB1 := Zd (btr HB0.out hb1); clear hb hb1)
    | (go_at_call 6; refine (HAW.out _ HB1.out).mono ?_; rintro e w2 ⟨rfl,hb2⟩; have HB2 := Zd (btr HB1.out hb2); clear hb2))
   go_ret
   exact ⟨rfl,HB2.out⟩
 subst he
 obtain ⟨f0,f1,f2,f3,f4,f5,f6,f7,f8,f9,f10⟩ := cfg_blkN HC0.out
 go_enter Tryz.func4,Tryz.ntmps4
 go_upto_region 4 with (go_at_call 7; refine (HLG.out _ HB0.out).mono ?_; rintro e w1 ⟨b,rfl,hb,hb1⟩; have HB1 := Zd (btr HB0.out hb1); have HC1 := Zd (HC0.out.below hb1 HC0.out.lt); have HBL := Zd hb; clear hb hb1)
 clear f0 f1 f2 f3 f4 f5 f6 f7 f8 f9 f10
 cases b
 . go_wp2_with (go_at_call 6; refine (HAW.out _ HB1.out).mono ?_; rintro e w2 ⟨rfl,hb2⟩; have HB2 := Zd (btr HB1.out hb2); clear hb2)
   go_ret
   exact ⟨rfl,HB2.out⟩
 have HT4 := Zd (HT3.out (by trivial) (HBL.out.1 rfl).2)
 go_upto_region 6 with fail
 have HSS : Hid (∀ W',Blk W' w.heap.size 24 [.int .i64 c.kind,.int .i64 c.threads,.int .i64 c.chans,.int .i64 c.cap,.int .i64 c.nodes,.int .i64 c.retire,.int .i64 c.patience,.int .i64 c.tags,.int .i64 c.seqs,.int .i64 c.gens,.slice c.sa c.start.length c.sc]->(fun w' => w'.cell? ⟨w.heap.size,0,none⟩ = some (.int .i64 c.kind)/\w'.cell? ⟨w.heap.size,1,none⟩ = some (.int .i64 c.threads)/\w'.cell? ⟨w.heap.size,2,none⟩ = some (.int .i64 c.chans)/\w'.cell? ⟨w.heap.size,3,none⟩ = some (.int .i64 c.cap)/\w'.cell? ⟨w.heap.size,4,none⟩ = some (.int .i64 c.nodes)/\w'.cell? ⟨w.heap.size,5,none⟩ = some (.int .i64 c.retire)/\w'.cell? ⟨w.heap.size,6,none⟩ = some (.int .i64 c.patience)/\w'.cell? ⟨w.heap.size,7,none⟩ = some (.int .i64 c.tags)/\w'.cell? ⟨w.heap.size,8,none⟩ = some (.int .i64 c.seqs)/\w'.cell? ⟨w.heap.size,9,none⟩ = some (.int .i64 c.gens)/\w'.cell? ⟨w.heap.size,10,none⟩ = some (.slice c.sa c.start.length c.sc)) W') := Zd (fun W' hC => ⟨hC.cell (i := 0) rfl,hC.cell (i := 1) rfl,hC.cell (i := 2) rfl,hC.cell (i := 3) rfl,hC.cell (i := 4) rfl,hC.cell (i := 5) rfl,hC.cell (i := 6) rfl,hC.cell (i := 7) rfl,hC.cell (i := 8) rfl,hC.cell (i := 9) rfl,hC.cell (i := 10) rfl⟩)
 refine wp_region_held_drew (S := fun w' => w'.cell? ⟨w.heap.size,0,none⟩ = some (.int .i64 c.kind)/\w'.cell? ⟨w.heap.size,1,none⟩ = some (.int .i64 c.threads)/\w'.cell? ⟨w.heap.size,2,none⟩ = some (.int .i64 c.chans)/\w'.cell? ⟨w.heap.size,3,none⟩ = some (.int .i64 c.cap)/\w'.cell? ⟨w.heap.size,4,none⟩ = some (.int .i64 c.nodes)/\w'.cell? ⟨w.heap.size,5,none⟩ = some (.int .i64 c.retire)/\w'.cell? ⟨w.heap.size,6,none⟩ = some (.int .i64 c.patience)/\w'.cell? ⟨w.heap.size,7,none⟩ = some (.int .i64 c.tags)/\w'.cell? ⟨w.heap.size,8,none⟩ = some (.int .i64 c.seqs)/\w'.cell? ⟨w.heap.size,9,none⟩ = some (.int .i64 c.gens)/\w'.cell? ⟨w.heap.size,10,none⟩ = some (.slice c.sa c.start.length c.sc)) (by kernel_rfl) (HSS.out _ (Blk.drew HC1.out)) (fun hHeld => ?_)
 refine tkH 0 (.agg #[.int .i64 c.kind,.int .i64 c.threads,.int .i64 c.chans,.int .i64 c.cap,.int .i64 c.nodes,.int .i64 c.retire,.int .i64 c.patience,.int .i64 c.tags,.int .i64 c.seqs,.int .i64 c.gens,.slice c.sa c.start.length c.sc]) rfl (Or.inl ⟨by rfl,fun w hSw => by obtain ⟨f0,f1,f2,f3,f4,f5,f6,f7,f8,f9,f10⟩ := hSw; go_simp⟩) hHeld ?_
 refine tkHp 1 (.slice NA n nc) rfl hHeld ?_
 refine tkHp 2 (.int .i64 z) rfl hHeld ?_
 try simp only [Nrq,Nrs]
 have HCD := Zd (Blk.drew HC1.out)
 have HBD := Zd HB1.out.drew
 clear HC1 HB1
 generalize w1.drew = VD at *
 refine wpAnyH_ready (rs := [3]) (by kernel_rfl) (by simp) ?_
 refine AllReadyH.cons rfl (fun K hK => ?_) AllReadyH.nil
 clear hHeld
 rw [if_pos (by rfl)]
 simp only [Nrq]
 go_simp
 refine (HF1.out VD HBD.out).mono ?_
 rintro er w3 ⟨A3,d3,rfl,ho3,hb3⟩
 have HC3 := Zd (HCD.out.below hb3 HCD.out.lt)
 have HB3 := Zd (btr HBD.out hb3)
 have HR3 := Zd (own_rd ho3)
 clear ho3 hb3
 go_wp2_with fail
 refine hK.out _ _ (HSS.out _ HC3.out) (fun hHeld => ?_)
 clear hK K
 try simp only [Nrq,Nrs]
 refine wpAnyH_ready (rs := [4]) (by kernel_rfl) (by simp) ?_
 refine AllReadyH.cons rfl (fun K hK => ?_) AllReadyH.nil
 clear hHeld
 rw [if_pos (by rfl)]
 simp only [Nrq]
 go_simp
 refine (HL3.out w3 A3 d3 HB3.out HR3.out).mono ?_
 rintro er w4 ⟨b4,rfl,hl4,hb4⟩
 have HC4 := Zd (HC3.out.below hb4 HC3.out.lt)
 have HB4 := Zd (btr HB3.out hb4)
 obtain rfl : b4 = true := hl4.2 HT4.out
 have h40 : E2 = 0 := HT4.out.1
 clear hb4 hl4
 rw [h40]
 go_wp2_with fail
 refine hK.out _ _ (HSS.out _ HC4.out) (fun hHeld => ?_)
 clear hK K
 try simp only [Nrq,Nrs]
 refine tkHp 5 (.tuple #[.bool true,.int .i64 0]) rfl hHeld ?_
 refine tkHp 6 (.bool true) rfl hHeld ?_
 refine tkHp 7 (.int .i64 0) rfl hHeld ?_
 refine tkHp 8 (.bool true) rfl hHeld ?_
 refine tkHp 9 (.int .i64 0) rfl hHeld ?_
 try simp only [Nrq,Nrs]
 clear hHeld
 refine wpAnyH_done (by kernel_rfl) ?_ _
 go_wp2_with (go_at_call 6; refine (HAW.out _ HB4.out).mono ?_; rintro e w5 ⟨rfl,hb5⟩; have HB5 := Zd (btr HB4.out hb5); clear hb5)
 go_ret
 exact ⟨rfl,HB5.out⟩
section
open Go.ChangeShapes Go.WideShapes Go.ChangeAt Go.RowKit Go.Deep
section
variable {H : Type} {enc : TypeId × Value->H} {P : Program} {w : World} {base : Nat} {spare : Nat->Bool} {held : Bool}
def Fit (P : Program) (t : TypeId) (d : DataW H) : Prop := (d.weights P t).all (· <= reachBytes) = true
theorem fit_cons {t : TypeId} {ts : List TypeId} {d : DataW H} {ds : List (DataW H)} (h : (DataW.weightsEach P (t :: ts) (d :: ds)).all (· <= reachBytes) = true) : Fit P t d/\(DataW.weightsEach P ts ds).all (· <= reachBytes) = true := by
 simp only [DataW.weightsEach,List.all_append,Bool.and_eq_true] at h
 exact h
end
end
section
open Go.ChangeShapes Go.WideShapes Go.ChangeAt Go.RowKit Go.Deep
section
variable {H : Type} {enc : TypeId × Value->H} {w : World} {held : Bool}
theorem notes_arg2 {v : Value} {d : DataW H} {p : List MemPlace} {base : Nat} (hv : Value.okWide Tryz.prog w .any base 25 v) (h : DataW.Trod enc Tryz.prog w 0 (fun _ => true) held 25 v d p) :
  ∃ (A : Option Addr) (l : List Nte) (c : Nat),v = .slice A l.length c/\Rd w A (rows l)/\l.length <= c/\∀ a ∈ l,∃ cs,ReqAt w a.q cs := by
 obtain ⟨a0,l0,c0,rfl⟩ := okWide_slice Tryz.underlying25 hv
 obtain ⟨n0,h0⟩ := h
 obtain ⟨A1,l,cap1,e0,hR1,_,hlc,_,hok⟩ := rd_recs (fun a : Nte => (Lit.int .i64 a.thread).wf = true/\∃ cs,ReqAt w a.q cs) Tryz.underlying25 (by kernel_rfl) (by decide) (fun n cs y h => open_noteQ h) h0
 exact ⟨A1,l,cap1,e0,hR1,hlc,fun a ha => (hok a ha).2⟩
theorem i64_most {i : Int} (h : (Lit.int .i64 i).wf = true) : i <= 9223372036854775807 := by
 simp only [Lit.wf,Bool.and_eq_true,decide_eq_true_eq] at h
 exact h.2
theorem int_arg2 {t : TypeId} {base : Nat} {v : Value} {d : DataW H} {p : List MemPlace} (ht : Tryz.prog.underlying t = some (.int .i64)) (hv : Value.okWide Tryz.prog w .any base t v) (h : DataW.Trod enc Tryz.prog w 0 (fun _ => true) held t v d p) :
  ∃ z : Int,v = .int .i64 z/\z <= 9223372036854775807 := by
 obtain ⟨z,e1,_,_,hw⟩ := open_int ht hv h
 exact ⟨z,e1,i64_most hw⟩
end
end
section
open Go.ChangeShapes Go.WideShapes Go.ChangeAt Go.RowKit Go.Deep
theorem int_cells : Tryz.prog.cellsOf 3 = 1 := by kernel_rfl
theorem open_cfg {H : Type} {enc : TypeId × Value->H} {r : Reach} {b0 : Nat} {w : World} {base : Nat} {held : Bool} {v : Value} {d : DataW H} {p : List MemPlace}
  (hv : Value.okWide Tryz.prog w r b0 24 v) (h : DataW.Trod enc Tryz.prog w base (fun _ => true) held 24 v d p) : ∃ c : Cfg,v = cfgV c/\CfgIn w c := by
 obtain ⟨vs,rfl,hlen,hf⟩ := open_struct Tryz.underlying24 (by kernel_rfl) (by kernel_rfl) hv h
 obtain ⟨x0,y0,n0,e0,t0⟩ := hf 0 _ rfl
 obtain ⟨x1,y1,n1,e1,t1⟩ := hf 1 _ rfl
 obtain ⟨x2,y2,n2,e2,t2⟩ := hf 2 _ rfl
 obtain ⟨x3,y3,n3,e3,t3⟩ := hf 3 _ rfl
 obtain ⟨x4,y4,n4,e4,t4⟩ := hf 4 _ rfl
 obtain ⟨x5,y5,n5,e5,t5⟩ := hf 5 _ rfl
 obtain ⟨x6,y6,n6,e6,t6⟩ := hf 6 _ rfl
 obtain ⟨x7,y7,n7,e7,t7⟩ := hf 7 _ rfl
 obtain ⟨x8,y8,n8,e8,t8⟩ := hf 8 _ rfl
 obtain ⟨x9,y9,n9,e9,t9⟩ := hf 9 _ rfl
 obtain ⟨x10,y10,n10,e10,t10⟩ := hf 10 _ rfl
 obtain ⟨a0,q0,_,_⟩ := DataW.trod_int Tryz.underlying3 t0
 simp only [List.cons.injEq,and_true] at q0
 subst q0
 obtain ⟨a1,q1,_,_⟩ := DataW.trod_int Tryz.underlying3 t1
 simp only [List.cons.injEq,and_true] at q1
 subst q1
 obtain ⟨a2,q2,_,_⟩ := DataW.trod_int Tryz.underlying3 t2
 simp only [List.cons.injEq,and_true] at q2
 subst q2
 obtain ⟨a3,q3,_,_⟩ := DataW.trod_int Tryz.underlying3 t3
 simp only [List.cons.injEq,and_true] at q3
 subst q3
 obtain ⟨a4,q4,_,_⟩ := DataW.trod_int Tryz.underlying3 t4
 simp only [List.cons.injEq,and_true] at q4
 subst q4
 obtain ⟨a5,q5,_,_⟩ := DataW.trod_int Tryz.underlying3 t5
 simp only [List.cons.injEq,and_true] at q5
 subst q5
 obtain ⟨a6,q6,_,_⟩ := DataW.trod_int Tryz.underlying3 t6
 simp only [List.cons.injEq,and_true] at q6
 subst q6
 obtain ⟨a7,q7,_,_⟩ := DataW.trod_int Tryz.underlying3 t7
 simp only [List.cons.injEq,and_true] at q7
 subst q7
 obtain ⟨a8,q8,_,_⟩ := DataW.trod_int Tryz.underlying3 t8
 simp only [List.cons.injEq,and_true] at q8
 subst q8
 obtain ⟨a9,q9,_,_⟩ := DataW.trod_int Tryz.underlying3 t9
 simp only [List.cons.injEq,and_true] at q9
 subst q9
 obtain ⟨A,l,cap,rfl,hR,hm,_,_⟩ := rd_ints Tryz.underlying22 Tryz.underlying3 int_cells t10
 refine ⟨⟨a0,a1,a2,a3,a4,a5,a6,a7,a8,a9,l,A,cap⟩,?_,hR,hm⟩
 have hl11 : vs.length = 11 := hlen
 match vs,hl11 with
 | [b0,b1,b2,b3,b4,b5,b6,b7,b8,b9,b10],_ =>
   simp only [List.getElem?_cons_zero,List.getElem?_cons_succ,Option.some.injEq] at e0 e1 e2 e3 e4 e5 e6 e7 e8 e9 e10
   subst e0 e1 e2 e3 e4 e5 e6 e7 e8 e9 e10
   rfl
end
section
open Go.ChangeShapes Go.WideShapes Go.ChangeAt Go.RowKit Go.Deep
abbrev Tab64 (w : World) : Prop := Lib.TabIs Tryz.prog w "math/bits.deBruijn64tab" .u8 (List.map (fun n : Nat => (n : Int)) Lib.deBruijn64tab)
theorem Tab64.tz {w : World} (h : Tab64 w) : Tz16 w := by
 have hc := Lib.TabIs.cell h (show Tryz.prog.globalNamed "math/bits.deBruijn64tab" = some 2 by kernel_rfl) 15 (by decide)
 have hc' : w.cell? ⟨2,15,none⟩ = some (.int .u8 4) := by
  rw [hc]; rfl
 refine ⟨?_,hc'⟩
 rcases Nat.lt_or_ge 2 w.heap.size with hl | hl
 . exact hl
 . simp [World.cell?,Array.getElem?_eq_none hl] at hc'
end
section
open Go.ChangeShapes Go.WideShapes Go.ChangeAt Go.RowKit Go.Deep
theorem histPrefix_tab64 {W : World} (h : laidMetH Tryz.prog Rows.histPrefixRow.laid W) : Tab64 W := by
 have h' : laidMet Tryz.prog Rows.histPrefixRow.laid W := h
 exact Lib.tabIs_of_head (rest := [("internal/strconv.uint64pow10",Rows.laid_internal_strconv_uint64pow10)]) (show Tryz.prog.globalNamed "math/bits.deBruijn64tab" = some 2 by kernel_rfl) (show (Tryz.prog.globals[2]?).map (·.type) = some 241 by kernel_rfl) Tryz.underlying241 Tryz.underlying5 (by kernel_rfl) (by kernel_rfl) h'.tail
theorem histPrefix_met (os : Os) : laidMet Tryz.prog Rows.histPrefixRow.laid ((World.doorLaid Tryz.prog 31 os).forCall (fun _ _ => 0) ⟨#[],#[.agg #[.int .i64 0,.int .i64 0,.int .i64 0,.int .i64 0,.int .i64 0,.int .i64 0,.int .i64 0,.int .i64 0,.int .i64 0,.int .i64 0,.slice none 0 0],.slice none 0 0,.int .i64 0],[]⟩).memory :=
 laidMet_of_run' 8 (by kernel_rfl) (by kernel_rfl)
theorem histPrefix_reads (os : Os) {H : Type} (enc : TypeId × Value->H) : ∃ places,DataW.whole enc Tryz.prog ((World.doorLaid Tryz.prog 31 os).forCall (fun _ _ => 0) ⟨#[],#[.agg #[.int .i64 0,.int .i64 0,.int .i64 0,.int .i64 0,.int .i64 0,.int .i64 0,.int .i64 0,.int .i64 0,.int .i64 0,.int .i64 0,.slice none 0 0],.slice none 0 0,.int .i64 0],[]⟩).memory Tryz.f4.params.toList Rows.histPrefixSpec.vars false (#[.agg #[.int .i64 0,.int .i64 0,.int .i64 0,.int .i64 0,.int .i64 0,.int .i64 0,.int .i64 0,.int .i64 0,.int .i64 0,.int .i64 0,.slice none 0 0],.slice none 0 0,.int .i64 0] : Array Value).toList 8 = some ([.agg [.lit (.int .i64 0),.lit (.int .i64 0),.lit (.int .i64 0),.lit (.int .i64 0),.lit (.int .i64 0),.lit (.int .i64 0),.lit (.int .i64 0),.lit (.int .i64 0),.lit (.int .i64 0),.lit (.int .i64 0),.nil],.nil,.lit (.int .i64 0)],[],places) :=
 ⟨[],by kernel_rfl⟩
theorem histPrefix_lifted (os : Os) (started : os.Started) (H : Type) (enc : TypeId × Value->H) (F : Stop.Interp) :
  ReturnsInHanded {} Tryz.checked os 4 .any ((OpenSpec.ofChange Rows.histPrefixSpec).preRow enc Tryz.prog Tryz.f4 Rows.histPrefixRow.domain false Rows.histPrefixRow.laid) (((OpenSpec.ofChange Rows.histPrefixSpec).at F).post enc Tryz.prog Tryz.f4 false true false false) := by
 obtain ⟨places,hx⟩ := histPrefix_reads os enc
 refine returnsInHanded_of_row (C := Tryz.checked) (s := OpenSpec.ofChange Rows.histPrefixSpec) own_knob started (by kernel_rfl) Tryz.func4
  (witness_row_at (enc := enc) (C := Tryz.checked) false (World.doorLaid Tryz.prog 31 os) #[.agg #[.int .i64 0,.int .i64 0,.int .i64 0,.int .i64 0,.int .i64 0,.int .i64 0,.int .i64 0,.int .i64 0,.int .i64 0,.int .i64 0,.slice none 0 0],.slice none 0 0,.int .i64 0] rfl (by kernel_rfl) (by kernel_rfl) (by kernel_rfl)
    (OpenSpec.preRow_of_cond 8 hx (by kernel_rfl) (fun k hk => by cases hk) (by kernel_rfl) (histPrefix_met os))) ?_
 intro W base args ds gs before hval0 hW _ _ hsz0 hL _ _
 have hval : ∀ (j : Nat) t v,Tryz.f4.params[j]? = some t->args[j]? = some v->Value.okWide Tryz.prog W .any base t v := hval0
 have hW' := hW
 obtain ⟨p,q,hA0,hV,rfl,hfz,hnd⟩ := hW
 have hA : DataW.TrodAll enc Tryz.prog W 0 (fun _ => true) true Tryz.f4.params.toList args.toList ds p := hA0
 obtain ⟨rfl,rfl⟩ := trodVars_none hV
 have hsz : (DataW.weightsEach Tryz.prog (Tryz.f4.params.toList ++ []) (ds ++ [])).all (· <= reachBytes) = true := hsz0
 rw [List.append_nil,List.append_nil] at hsz
 rw [Tryz.params4] at hA hval hsz
 simp only at hA hsz
 obtain ⟨v0,vs0,d0,ds0,p0,q0,hargs0,rfl,rfl,h0,r0⟩ := trodAll_cons hA
 obtain ⟨v1,vs1,d1,ds1,p1,q1,hargs1,rfl,rfl,h1,r1⟩ := trodAll_cons r0
 obtain ⟨v2,vs2,d2,ds2,p2,q2,hargs2,rfl,rfl,h2,r2⟩ := trodAll_cons r1
 obtain ⟨rfl,rfl,rfl⟩ := trodAll_nil r2
 subst hargs2
 subst hargs1
 obtain rfl : args = #[v0,v1,v2] := by cases args; simp_all
 obtain ⟨f0,hz⟩ := fit_cons hsz
 obtain ⟨f1,hz⟩ := fit_cons hz
 obtain ⟨f2,hz⟩ := fit_cons hz
 clear hA0 hval0 hsz0 hsz hz
 obtain ⟨c,rfl,hcf⟩ := open_cfg (hval 0 24 v0 rfl rfl) h0
 obtain ⟨A,l,cap,rfl,hR,hlc,hq⟩ := notes_arg2 (hval 1 25 v1 rfl rfl) h1
 obtain ⟨z,rfl,hzm⟩ := int_arg2 Tryz.underlying3 (hval 2 3 v2 rfl rfl) h2
 have hT64 := histPrefix_tab64 hL
 refine (LawHP_any c A cap l z W hcf hR hlc hzm hq hT64.tz).mono fun e W' ⟨he,hb⟩ => ?_
 subst he
 exact ⟨_,rfl,law_post laid_out (by kernel_rfl) (by kernel_rfl) Tryz.underlying4 rfl hW' rfl hb⟩
theorem histPrefix_said : Rows.HistPrefixSaid :=
 OpenClaim.holds_of_cond 4 Tryz.f4 rfl rfl rfl rfl rfl rfl rfl ⟨rfl,rfl,rfl,rfl,rfl⟩ rfl rfl rfl rfl rfl (by kernel_rfl) Tryz.func4 (by kernel_rfl)
  (of_decide_eq_true (by kernel_rfl)) (by unfold Func.isWrapper; first | (rw [if_pos (by decide +kernel)]; kernel_rfl) | (rw [if_neg (by decide +kernel)]; exact ⟨rfl,rfl⟩))
  (fun os started H enc _ F => by rw [OpenClaim.pre_eq_preRow]; exact histPrefix_lifted os started H enc F)
theorem histPrefix_plain (f : FuncId) (fn : Func) (hf : Tryz.pinned.checked.prog.funcNamed "stopgate/stopgatelaw22.HistPrefix" = some f) (hfn : Tryz.pinned.checked.prog.funcs[f]? = some fn) :
  false = Tryz.pinned.checked.prog.looks []/\∀ (j : Nat) t,fn.params[j]? = some t->Tryz.pinned.checked.prog.wantsStandIn t = false := by
 obtain rfl : f = 4 := Option.some.inj ((show Tryz.prog.funcNamed "stopgate/stopgatelaw22.HistPrefix" = some 4 by kernel_rfl).symm.trans hf) |>.symm
 obtain rfl : fn = Tryz.f4 := (Option.some.inj (Tryz.func4.symm.trans hfn)).symm
 refine ⟨by kernel_rfl,fun j t ht => ?_⟩
 rw [Tryz.params4] at ht
 have hm : t ∈ [24,25,3] := by simpa using Array.mem_of_getElem? ht
 have hall : ([24,25,3].all fun u => !Tryz.prog.wantsStandIn u) = true := by kernel_rfl
 exact (show Tryz.prog.wantsStandIn t = false by simpa using List.all_eq_true.1 hall t hm)
theorem histPrefix_holds : Rows.HistPrefixCardSaid :=
 Claim7.holds_tied_plain_at .later [] _ _ _ _ histPrefix_said (fun _ h => by cases h) (by kernel_rfl) (fun _ h => by cases h) histPrefix_row_tie rfl ⟨rfl,rfl⟩ (by kernel_rfl) rfl histPrefix_plain (by kernel_rfl)
end
end Go.Proofs.YtieglgahfeecbaaGreatDoor

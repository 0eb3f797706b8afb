/- Part of the proof: Yb. -/
import Derived.Test.YtmjllchdhcdinaaGreatDoorX21
import Derived.Test.YtmjllchdhcdinaaGreatDoorRows
import Derived.Lib.LaidTab
import Derived.Stop.LaidErr
import Derived.SizedLaws
set_option linter.unusedVariables false
set_option linter.unusedSimpArgs false
set_option maxRecDepth 100000
set_option maxHeartbeats 8000000
namespace Go.Proofs.YtmjllchdhcdinaaGreatDoor
section
open Go Go.RowKit Go.Proofs.YtmjllchdhcdinaaGreatDoorW.PrintWords
open Go.ChangeShapes Go.WideShapes Go.ChangeAt
abbrev Ea : List (String × DataW Unit) := Rows.topResumedRow.laid
theorem glob_of {W : World} (h : laidMetH Tryz.prog Ea W) (hs : W.ShapedOpen Tryz.prog) : Glob W := by
 rw [MakeChecks.laidMetH_plain _ _ _ (by kernel_rfl)] at h
 have h1 := h.tail
 have h2 := h1.tail
 have e1 : (Rows.laid_math_bits_deBruijn64tab : DataW Unit) = Lib.tabData .u8 (Lib.deBruijn64tab.map fun n : Nat => (n : Int)) := by kernel_rfl
 have e2 : (Rows.laid_internal_strconv_uint64pow10 : DataW Unit) = Lib.tabData .u64 Lib.pow10Tab := by kernel_rfl
 rw [e1] at h1
 rw [e2] at h2
 have t1 := Lib.tabIs_of_head (show Tryz.prog.globalNamed "math/bits.deBruijn64tab" = some 0 by kernel_rfl) (show (Tryz.prog.globals[0]?).map (·.type) = some 231 by kernel_rfl) (show Tryz.prog.underlying 231 = some (.array 64 5) by kernel_rfl) Tryz.underlying5 (by kernel_rfl) (by kernel_rfl) h1
 have t2 := Lib.tabIs_of_head Hx (show (Tryz.prog.globals[1]?).map (·.type) = some 244 by kernel_rfl) (show Tryz.prog.underlying 244 = some (.array 20 49) by kernel_rfl) Tryz.underlying49 (by kernel_rfl) (by kernel_rfl) h2
 obtain ⟨cs,hh,hz,hr⟩ := hs.1 2 #[.int .i64 0] 3 (show 2 < Tryz.prog.globals.size from of_decide_eq_true (by kernel_rfl)) (by kernel_rfl)
 have hz : cs.size = 1 := hz
 have hlt : 2 < W.heap.size := (Array.getElem?_eq_some_iff.1 hh).1
 refine ⟨fun j hj => ?_,t2,?_,hlt⟩
 ·have := t1.cell (show Tryz.prog.globalNamed "math/bits.deBruijn64tab" = some 0 by kernel_rfl) j (by rw [List.length_map]; exact hj)
  rw [this,gD,List.getElem?_map,gE hj,gD,gE hj]
  rfl
 ·obtain ⟨ts,hts,_,hall⟩ := hr (by kernel_rfl)
  rw [show Tryz.prog.cellTypes Tryz.prog.depth 3 = some [3] by kernel_rfl] at hts
  cases hts
  have h1 : 0 < cs.size := by omega
  obtain ⟨u,hu',hok⟩ := hall 0 cs[0] (by simp [h1])
  have : u = 3 := by simpa using hu'.symm
  subst this
  have hcell : W.cell? ⟨2,0,none⟩ = some cs[0] := by simp [World.cell?,hh,h1]
  rw [hcell]
  unfold Cell.ok at hok
  rw [Tryz.underlying3] at hok
  cases hv : cs[0] <;> rw [hv] at hok <;> first | (obtain ⟨rfl,_⟩ := hok; exact ⟨_,rfl⟩) | exact hok.elim
theorem own : ownKnob Tryz.prog.godebug = none := by kernel_rfl
theorem Gb : laidOutB Tryz.prog = true := by kernel_rfl
abbrev seatArgs : Array Value := #[.agg #[.int .i64 0,.int .i64 0,.slice none 0 0,.slice none 0 0,.slice none 0 0],.agg #[.slice none 0 0,.slice none 0 0,.slice none 0 0],.slice none 0 0,.slice none 0 0]
theorem lifted (os : Os) (started : os.Started) (H : Type) (enc : TypeId × Value → H) :
  ReturnsInHanded {} Tryz.checked os 3 .any (fun w args => (Rows.topResumedSpec.pre enc Tryz.prog Tryz.f3 Rows.topResumedRow.domain false w args ∧ laidMetH Tryz.prog Ea w) ∧ sizedMet enc Tryz.prog Tryz.f3 (OpenSpec.ofChange Rows.topResumedSpec) false w args)
   (Rows.topResumedSpec.post enc Tryz.prog Tryz.f3 false true false false) := by
 refine returnsInHanded_of_calls own started (by kernel_rfl)
  (ChangeSpec.witness_shaped (enc := enc) (C := Tryz.checked) (os := os) (X := fun w _ => laidMetH Tryz.prog Ea w) false (World.laidAll Tryz.prog os Ea) seatArgs 8 (World.laidAll_os _ _ _)
   (World.shaped_of_ZipB (by kernel_rfl) (by kernel_rfl)) (by kernel_rfl) (by kernel_rfl) (by kernel_rfl)
   (by rw [MakeChecks.laidMetH_plain _ _ _ (by kernel_rfl)]; exact laidMet_laidAll _ (by kernel_rfl) (by kernel_rfl))) ?_
 intro w0 tape inp _ hsh _ hok hpre _
 obtain ⟨_,_,_,fn',hfn',_,_,_,_,hval⟩ := hok
 have e : fn' = Tryz.f3 := Option.some.inj (hfn'.symm.trans Tryz.func3)
 subst e
 obtain ⟨⟨⟨ds,gs,before,hw,hc⟩,hx⟩,hz⟩ := hpre
 have hW := DataW.Whole.of_heap (w' := w0.forCall tape inp) (by rfl) hw
 have hL : laidMetH Tryz.prog Ea (w0.forCall tape inp) := hx.of_heap (by rfl)
 suffices hh : Calls Tryz.prog 3 inp.args (w0.forCall tape inp) fun e W' => ∃ v,e = .returned v ∧ Rows.topResumedSpec.post enc Tryz.prog Tryz.f3 false true false false (w0.forCall tape inp) inp.args v W' from
  hh.mono fun e W' ⟨v,he,hp⟩ => by
   subst he
   exact ChangeSpec.post_blind hp
 have hval : ∀ (j : Nat) t v,Tryz.f3.params[j]? = some t → inp.args[j]? = some v → Value.okWide Tryz.prog (w0.forCall tape inp) .any w0.heap.size t v := hval
 generalize w0.forCall tape inp = W at *
 generalize inp.args = args at *
 generalize w0.heap.size = base at *
 have hG := glob_of hL hsh
 have hW' := hW
 obtain ⟨p,q,hA0,hV,rfl,_,_⟩ := hW
 have hA : DataW.TrodAll enc Tryz.prog W 0 (fun _ => true) true Tryz.f3.params.toList args.toList ds p := hA0
 rw [Tryz.params3] at hA hval
 obtain ⟨v0,vs0,d0,ds0,p0,q0,hargs,rfl,rfl,h0,r0⟩ := trodAll_cons hA
 obtain ⟨v1,vs1,d1,ds1,p1,q1,rfl,rfl,rfl,h1,r1⟩ := trodAll_cons r0
 obtain ⟨v2,vs2,d2,ds2,p2,q2,rfl,rfl,rfl,h2,r2⟩ := trodAll_cons r1
 obtain ⟨v3,vs3,d3,ds3,p3,q3,rfl,rfl,rfl,h3,r3⟩ := trodAll_cons r2
 obtain ⟨rfl,rfl,rfl⟩ := trodAll_nil r3
 obtain rfl : args = #[v0,v1,v2,v3] := by cases args; simp_all
 obtain ⟨rfl,rfl⟩ := trodVars_none hV
 have k0 := h0
 have k1 := h1
 have k2 := h2
 have k3 := h3
 have t0 : ∀ x ∈ p0,x.block < W.heap.size := by obtain ⟨m,hm⟩ := k0; exact DataW.trod_lt m _ _ _ hm
 have t1 : ∀ x ∈ p1,x.block < W.heap.size := by obtain ⟨m,hm⟩ := k1; exact DataW.trod_lt m _ _ _ hm
 have t2 : ∀ x ∈ p2,x.block < W.heap.size := by obtain ⟨m,hm⟩ := k2; exact DataW.trod_lt m _ _ _ hm
 have t3 : ∀ x ∈ p3,x.block < W.heap.size := by obtain ⟨m,hm⟩ := k3; exact DataW.trod_lt m _ _ _ hm
 obtain ⟨vv,s,st,fi,es,SA,FA,EA,cs,cf,ce,rfl,hst,hfi,hes,hby⟩ := open_na (hval 0 25 v0 rfl rfl) h0
 obtain ⟨g,OA,PA,UA,co,cp,cu,rfl,hgr,hown⟩ := open_gl (hval 1 29 v1 rfl rfl) h1
 obtain ⟨xs,XA,xc,rfl,hx,hxb⟩ := JJ (hval 2 26 v2 rfl rfl) h2
 obtain ⟨ys,YA,yc,rfl,hy,hyb⟩ := JJ (hval 3 26 v3 rfl rfl) h3
 refine (top3 vv s st fi es SA FA EA cs cf ce g OA PA UA co cp cu XA YA xc yc xs ys W hG hst hfi hes hby hgr hown hx hxb hy hyb).mono fun e W' ⟨he,bel⟩ => ?_
 subst he
 exact ⟨_,rfl,_,_,_,[],_,[],hW',trodAll_mk1 (shut_bool Tryz.underlying4 _),(trodAll_cons_mk (Below.trod Gb (by kernel_rfl) (of_decide_eq_true (by kernel_rfl)) k0 bel t0) (trodAll_cons_mk (Below.trod Gb (by kernel_rfl) (of_decide_eq_true (by kernel_rfl)) k1 bel t1) (trodAll_cons_mk (Below.trod Gb (by kernel_rfl) (of_decide_eq_true (by kernel_rfl)) k2 bel t2) (trodAll_cons_mk (Below.trod Gb (by kernel_rfl) (of_decide_eq_true (by kernel_rfl)) k3 bel t3) trodAll_mk0)))),rfl,bel.frame _,fun h => by cases h⟩
theorem topResumed_holds : Rows.TopResumedSaid :=
 OpenClaim.holds_of_wide 3 Tryz.f3 rfl rfl rfl rfl rfl rfl rfl ⟨rfl,rfl,rfl,rfl,rfl⟩ rfl rfl rfl rfl rfl (by kernel_rfl) Tryz.func3 (by kernel_rfl)
  (of_decide_eq_true (by kernel_rfl)) (by unfold Func.isWrapper; first | (rw [if_pos (by decide +kernel)]; kernel_rfl) | (rw [if_neg (by decide +kernel)]; exact ⟨rfl,rfl⟩))
  (fun os started H enc _ => lifted os started H enc)
end
end Go.Proofs.YtmjllchdhcdinaaGreatDoor

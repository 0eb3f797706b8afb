/- Part of the proof: Y7 Y8. -/
import Derived.Test.YtmjllchdhcdinaaGreatDoorX16
set_option linter.unusedVariables false
set_option linter.unusedSimpArgs false
set_option maxRecDepth 100000
set_option maxHeartbeats 8000000
namespace Go.Proofs.YtmjllchdhcdinaaGreatDoor
section
open Go Fm Go.RowKit Go.Proofs.YtmjllchdhcdinaaGreatDoorW.PrintWords
abbrev mdc (d : Df) (NA FA CA : Option Addr) (nc fc cc k : Nat) : List Value := [.int .i64 (d.vars : Nat),.int .i64 (d.start : Nat),.slice NA d.next.length nc,.slice FA d.fin.length fc,.int .i64 (k : Nat),.slice CA d.next.length cc]
structure MD (d : Df) (base p : Nat) (NA FA CA : Option Addr) (nc fc cc k : Nat) (W : World) : Prop where
 blk : W.heap[p]? = some (.cells (mdc d NA FA CA nc fc cc k).toArray 126 (0,0))
 nx : Kii.R 22 W base (fun _ => True) (.slice NA d.next.length nc) d.next
 fi : Kd.bool.R 4 W base (fun _ => True) (.slice FA d.fin.length fc) d.fin
 cl : (Kd.int .i64).R 3 W base (fun _ => True) (.slice CA d.next.length cc) (Bt (d.rnd k))
 glob : Glob W
 hp : base ≤ p
 h2 : 2 < base
section
variable {d : Df} {base p nc fc cc k : Nat} {NA FA CA : Option Addr} {W W1 : World}
theorem MD.dr (h : MD d base p NA FA CA nc fc cc k W) : DR d W NA FA := ⟨(Kd.R_reads' h.nx).2.2,(Kd.R_reads' h.fi).2.2⟩
theorem MD.below (h : MD d base p NA FA CA nc fc cc k W) (hb : Below W.heap.size W W1) : MD d base p NA FA CA nc fc cc k W1 :=
 ⟨Ab h.blk hb,Kd.R_below h.nx hb,Kd.R_below h.fi hb,Kd.R_below h.cl hb,h.glob.below hb,h.hp,h.h2⟩
theorem MD.lt (h : MD d base p NA FA CA nc fc cc k W) : base ≤ W.heap.size := Nat.le_trans h.hp (Nat.le_of_lt (Am h.blk))
theorem MD.turn {j : Nat} {cs : Array Value} (h : MD d base p NA FA CA nc fc cc k W) (hbj : base ≤ j) (hj : W.heap[j]? = some (.cells cs 113 (0,0))) (hg : W.grownBy W1 (some j)) : MD d base p NA FA CA nc fc cc k W1 :=
 ⟨(hg.block p (Am h.blk) (fun e => An h.blk hj (by decide) (by injection e))).trans h.blk,Ah h.nx hj (by decide) hg,Ah h.fi hj (by decide) hg,Ah h.cl hj (by decide) hg,h.glob.low ((Below.refl _ _).grown hg h.lt (fun k e => by cases e; exact hbj)) h.h2,h.hp,h.h2⟩
theorem MD.put {CA' : Option Addr} {cc' k' : Nat} (h : MD d base p NA FA CA nc fc cc k W) (hg : W.grownBy W1 (some p)) (hb : W1.heap[p]? = some (.cells (mdc d NA FA CA' nc fc cc' k').toArray 126 (0,0))) (hc : (Kd.int .i64).R 3 W base (fun _ => True) (.slice CA' d.next.length cc') (Bt (d.rnd k'))) : MD d base p NA FA CA' nc fc cc' k' W1 :=
 ⟨hb,Ah h.nx h.blk (by decide) hg,Ah h.fi h.blk (by decide) hg,Ah hc h.blk (by decide) hg,h.glob.low ((Below.refl _ _).grown hg h.lt (fun k e => by cases e; exact h.hp)) h.h2,h.hp,h.h2⟩
end
theorem IV (d : Df) (hd : d.Ok) (base p : Nat) (NA FA CA : Option Addr) (nc fc cc k : Nat) (w : World) (hk : k < 4096) (h : MD d base p NA FA CA nc fc cc k w) :
  Calls Tryz.prog 238 #[.pointer (some ⟨p,0,none⟩)] w fun e w' => ∃ A c,e = .returned (.slice A d.next.length c) ∧ (Kd.int .i64).R 3 w' w.heap.size (fun _ => True) (.slice A d.next.length c) (Bt (d.rnd (k + 1))) ∧ Below w.heap.size w w' := by
 refine enter 19 Tryz.func238 G G _ (by simp) ?_
 refine asl G<|Bu mixed (fun V => V.heap[p]? = some (.cells (mdc d NA FA CA nc fc cc k).toArray 126 (0,0))) ?_
 intro w1 hb1 _ _
 have h := h.below hb1
 have hS := h.blk
 refine Aj 0 G (by kernel_rfl) (fun _ _ _ h => h) G (fun v _ => mp_ G v) hS<|Aj 1 G (by kernel_rfl) (fun _ _ _ h => h) G (fun v _ => BN G v) hS<|Aj 2 G (by kernel_rfl) (fun _ _ _ h => h) G (fun v _ => AQ FP G v) hS<|Aj (v := .agg (d.vals NA FA nc fc).toArray) 3 rfl (by kernel_rfl) (fun _ _ _ h => h) rfl (fun v hv => Bs (vs := d.vals NA FA nc fc) G35 S35 rfl (Dx hv (fun j hj => by rcases j with _ | _ | _ | _ | j <;> first | rfl | (simp at hj; omega)))) hS<|?_
 refine Aj 4 G (by kernel_rfl) (fun _ _ _ h => h) G (fun v _ => mp_ G v) hS<|Aj 5 G (by kernel_rfl) (fun _ _ _ h => h) G (fun v _ => BN G v) hS<|Aj 6 G (by kernel_rfl) (fun _ _ _ h => h) G (fun v _ => AQ Jk G v) hS<|Aj 7 G (by kernel_rfl) (fun _ _ _ h => h) G (fun v hv => Ai G3 G ((Ac hv _).trans G)) hS<|Aj 8 G (by kernel_rfl) (fun _ _ _ h => h) G (fun v _ => Lz G G (by first | assumption | omega) v) hS<|?_
 refine AA 9 (by kernel_rfl) G<|cl C76 [] G ((Gq d hd NA FA nc fc (k + 1) (by omega) w1 h.dr h.glob).mono ?_)
 rintro e w2 ⟨A,c,rfl,hR,hb2⟩
 have h := h.below hb2
 have hS := h.blk
 have hR := Kd.R_lower hR hb1.size
 refine ⟨_,rfl,hS,?_⟩
 refine Aj 10 G (by kernel_rfl) (fun _ _ _ h => h) G (fun v _ => mv_ G v) hS<|Aj 11 G (by kernel_rfl) (fun _ _ _ h => h) G (fun v _ => Ef G G v) hS<|Aj 12 G (by kernel_rfl) (fun _ _ _ h => h) G (fun v _ => Ef G G v) hS<|Aj 13 G (by kernel_rfl) (fun _ _ _ h => h) G (fun v _ => K7 G v) hS<|Aj 14 G (by kernel_rfl) (fun _ _ _ h => h) G (fun v _ => ai_ G v) hS<|AY (by kernel_rfl)<|ms G<|asl G<|?_
 exact rt1 rfl rfl ⟨A,c,rfl,hR,Ad hb1 hb2⟩
theorem left236 (d : Df) (hd : d.Ok) (base p : Nat) (NA FA CA : Option Addr) (nc fc cc k : Nat) (w : World) (hk : k < 4096) (h : MD d base p NA FA CA nc fc cc k w) :
  Calls Tryz.prog 236 #[.pointer (some ⟨p,0,none⟩)] w fun e w' => e = .returned (.bool (!decide (d.rnd (k + 1) = d.rnd k))) ∧ Below w.heap.size w w' := by
 have hn := hd.n
 have hdec : ∀ m,decide (Bt (d.rnd m) = Bt (d.rnd k)) = decide (d.rnd m = d.rnd k) := fun m => by
  by_cases e : d.rnd m = d.rnd k
  ·rw [decide_eq_true e,decide_eq_true (by rw [e])]
  ·rw [decide_eq_false e,decide_eq_false (fun h => e (Gz h))]
 refine enter 11 Tryz.func236 G G _ (by simp) ?_
 refine ab G<|Bu mixed (fun V => V.heap[p]? = some (.cells (mdc d NA FA CA nc fc cc k).toArray 126 (0,0))) ?_
 intro w1 hb1 _ _
 have h := h.below hb1
 have hS := h.blk
 refine Aj 0 G (by kernel_rfl) (fun _ _ _ h => h) G (fun v _ => mp_ G v) hS<|Aj 2 G (by kernel_rfl) (fun _ _ _ h => h) G (fun v _ => mp_ G v) hS<|Aj 3 G (by kernel_rfl) (fun _ _ _ h => h) G (fun v _ => BN G v) hS<|Aj 4 G (by kernel_rfl) (fun _ _ _ h => h) G (fun v _ => AQ G6 G v) hS<|Aj 5 G (by kernel_rfl) (fun _ _ _ h => h) G (fun v hv => Ai G22 G ((Ac hv _).trans G)) hS<|AA 1 (by kernel_rfl) G<|cl LZ [] G ((IV d hd base p NA FA CA nc fc cc k w1 hk h).mono ?_)
 rintro e w2 ⟨A,c,rfl,hR,hb2⟩
 have h := h.below hb2
 have hS := h.blk
 refine ⟨_,rfl,hS,?_⟩
 refine AA 6 (by kernel_rfl) G ?_
 have hl1 : (Bt (d.rnd (k + 1))).length = d.next.length := by rw [Bp,Cb]
 have hl2 : (Bt (d.rnd k)).length = d.next.length := by rw [Bp,Cb]
 have he := GP A CA c cc (Bt (d.rnd (k + 1))) (Bt (d.rnd k)) w2 (Kd.R_reads' hR).2.2 (Kd.R_reads' h.cl).2.2 (by omega)
 rw [hl1,hl2,hdec] at he
 refine cl LF [] G (he.mono ?_)
 rintro e w3 ⟨rfl,hb3⟩
 have h := h.below hb3
 refine ⟨_,rfl,h.blk,?_⟩
 have hS := h.blk
 refine AA 7 (by kernel_rfl) G<|ont G ⟨hS,?_⟩
 refine AA 8 (by kernel_rfl) G<|ab G ⟨hS,?_⟩
 refine AY (by kernel_rfl) ?_
 exact rt1 rfl rfl ⟨rfl,Ad (Ad hb1 hb2) hb3⟩
theorem unit237 (d : Df) (hd : d.Ok) (base p : Nat) (NA FA CA : Option Addr) (nc fc cc k : Nat) (w : World) (hk : k < 4096) (h : MD d base p NA FA CA nc fc cc k w) :
  Calls Tryz.prog 237 #[.pointer (some ⟨p,0,none⟩)] w fun e w' => JB base w w' ∧ ((d.rnd (k + 1) = d.rnd k ∧ e = .returned (.tuple #[.bool false,.int .i64 0]) ∧ MD d base p NA FA CA nc fc cc k w') ∨ (d.rnd (k + 1) ≠ d.rnd k ∧ e = .returned (.tuple #[.bool true,.int .i64 0]) ∧ ∃ CA' cc',MD d base p NA FA CA' nc fc cc' (k + 1) w')) := by
 have hn := hd.n
 have hdec : ∀ m,decide (Bt (d.rnd m) = Bt (d.rnd k)) = decide (d.rnd m = d.rnd k) := fun m => by
  by_cases e : d.rnd m = d.rnd k
  ·rw [decide_eq_true e,decide_eq_true (by rw [e])]
  ·rw [decide_eq_false e,decide_eq_false (fun h => e (Gz h))]
 refine enter 24 Tryz.func237 G G _ (by simp) ?_
 refine ab G<|ai G<|mp G<|cl LZ [] G ((IV d hd base p NA FA CA nc fc cc k w hk h).mono ?_)
 rintro e w2 ⟨A,c,rfl,hR,hb2⟩
 have hJ := (JB.refl h.lt).new hb2
 have hz := h.lt
 have h := h.below hb2
 refine ⟨_,rfl,?_⟩
 refine asl G<|?_
 have hc5 : w2.cell? ⟨p,0 + 5,none⟩ = some (.slice CA d.next.length cc) := (Ac h.blk 5).trans rfl
 have hl1 : (Bt (d.rnd (k + 1))).length = d.next.length := by rw [Bp,Cb]
 have hl2 : (Bt (d.rnd k)).length = d.next.length := by rw [Bp,Cb]
 have he := GP A CA c cc (Bt (d.rnd (k + 1))) (Bt (d.rnd k)) w2 (Kd.R_reads' hR).2.2 (Kd.R_reads' h.cl).2.2 (by omega)
 rw [hl1,hl2,hdec] at he
 refine ms G<|mp G<|onc G<|ofa G6 G<|old G22 G ‹_›<|cl LF [] G (he.mono ?_)
 rintro e w3 ⟨rfl,hb3⟩
 have hJ := hJ.new hb3
 have hR := Kd.R_below hR hb3
 have h := h.below hb3
 refine ⟨_,rfl,?_⟩
 by_cases e : d.rnd (k + 1) = d.rnd k
 ·rw [decide_eq_true e]
  refine cdt G<|ab G<|ai G<|?_
  exact rt2 rfl rfl rfl ⟨hJ,.inl ⟨e,rfl,h⟩⟩
 ·rw [decide_eq_false e]
  refine cdf G<|mp G<|ms G<|onc G<|ofa G6 G<|Bc (v := .slice A d.next.length c) (cs := mdc d NA FA CA nc fc cc k) (i := 0 + 5) S22 G G G h.blk (by simp) ?_
  intro w4 hb4 hg4
  have hb4 : w4.heap[p]? = some (.cells (mdc d NA FA A nc fc c k).toArray 126 (0,0)) := hb4
  have hc4 : w4.cell? ⟨p,0 + 4,none⟩ = some (.int .i64 (k : Nat)) := (Ac hb4 4).trans rfl
  refine mp G<|onc G<|ofa Jk G<|old G3 G ‹_›<|oad G G (by first | assumption | omega)<|onc G<|ofa Jk G<|?_
  refine Bc (v := .int .i64 ((k : Nat) + 1)) (cs := mdc d NA FA A nc fc c k) (i := 0 + 4) S3 G G G hb4 (by simp) ?_
  intro w5 hb5 hg5
  have hb5 : w5.heap[p]? = some (.cells (mdc d NA FA A nc fc c (k + 1)).toArray 126 (0,0)) := hb5
  have hJ := (hJ.turn hg4 h.blk (by decide) h.hp).turn hg5 hb4 (by decide) h.hp
  refine ab G<|ai G<|?_
  have hg : w3.grownBy w5 (some p) := Cr hg4 hg5
  exact rt2 rfl rfl rfl ⟨hJ,.inr ⟨e,rfl,A,c,h.put hg hb5 (Kd.R_lower hR hz)⟩⟩
def LX (d : Df) (base p k : Nat) (W : World) : Prop := k ≤ d.cntQ (d.rnd k) d.next.length ∧ ∃ NA FA CA nc fc cc,MD d base p NA FA CA nc fc cc k W
def Hb (d : Df) (k : Nat) : Option Nat := if d.rnd (k + 1) = d.rnd k then none else some (k + 1)
theorem knMn (d : Df) (hd : d.Ok) (hN : d.next.length < 4096) (base p : Nat) : Kn 123 237 236 p base (LX d base p) (Hb d) where
 mu := mU123
 ml := mL123
 u := by
  rintro k W ⟨hk,NA,FA,CA,nc,fc,cc,hM⟩
  have h2 := Dw d (d.rnd k) d.next.length
  refine (unit237 d hd base p NA FA CA nc fc cc k W (by omega) hM).mono ?_
  rintro e W' ⟨hJ,⟨h1,rfl,h2⟩ | ⟨h1,rfl,CA',cc',h2⟩⟩
  ·exact ⟨false,rfl,hJ,.inl ⟨rfl,by unfold Hb; rw [if_pos h1],hk,NA,FA,CA,nc,fc,cc,h2⟩⟩
  ·have := Gs d k h1
   exact ⟨true,rfl,hJ,.inr ⟨rfl,k + 1,by unfold Hb; rw [if_neg h1],by omega,NA,FA,CA',nc,fc,cc',h2⟩⟩
 l := by
  rintro k W ⟨hk,NA,FA,CA,nc,fc,cc,hM⟩
  have h2 := Dw d (d.rnd k) d.next.length
  refine (left236 d hd base p NA FA CA nc fc cc k W (by omega) hM).mono ?_
  rintro e W' ⟨rfl,hb⟩
  refine ⟨?_,(JB.refl hM.lt).new hb,hk,NA,FA,CA,nc,fc,cc,hM.below hb⟩
  unfold Hb
  by_cases h : d.rnd (k + 1) = d.rnd k
  ·rw [if_pos h,decide_eq_true h]; rfl
  ·rw [if_neg h,decide_eq_false h]; rfl
 turn := by
  rintro k W W1 cs j ⟨hk,NA,FA,CA,nc,fc,cc,hM⟩ hbj hj hg
  exact ⟨hk,NA,FA,CA,nc,fc,cc,hM.turn hbj hj hg⟩
theorem new59 (d : Df) (hd : d.Ok) (NA FA : Option Addr) (nc fc : Nat) (w : World) (hr : DR d w NA FA) (hG : Glob w) :
  Calls Tryz.prog 59 #[.agg (d.vals NA FA nc fc).toArray] w fun e w' => ∃ p NA' FA' CA' nc' fc' cc',e = .returned (.pointer (some ⟨p,0,none⟩)) ∧ MD d w.heap.size p NA' FA' CA' nc' fc' cc' 0 w' ∧ Below w.heap.size w w' := by
 have hn := hd.n
 have hff := hd.f
 have h64 : 2 ^ d.vars ≤ 64 := Nat.pow_le_pow_right (n := 2) (by decide) hd.v
 have hrows : ∀ r ∈ d.next,r.length ≤ 1000000 := fun r h => by have := (hd.rows r h).1; omega
 refine enter 24 Tryz.func59 G G _ (by simp) ?_
 refine obx (cs := d.vals NA FA nc fc) G G ?_
 intro b w1 hbe hbb hb1
 refine ap G<|Bv 7 mixed (fun V => V.heap[b]? = some (.cells (d.vals NA FA nc fc).toArray 35 (0,0))) ?_
 intro w2 hb2 _ _
 have hS := Ab hbb hb2
 have hB := Ad hb1 hb2
 have hwb : w.heap.size ≤ b := by omega
 refine Ay 0 G (by kernel_rfl) (fun _ _ _ h => h) G (fun v _ => AQ Bz G v) hS<|Ay 1 G (by kernel_rfl) (fun _ _ _ h => h) G (fun v hv => Ai G27 G ((Ac hv _).trans G)) hS<|Ay 3 G (by kernel_rfl) (fun _ _ _ h => h) G (fun v _ => AQ BP G v) hS<|Ay 4 G (by kernel_rfl) (fun _ _ _ h => h) G (fun v hv => Ai G33 G ((Ac hv _).trans G)) hS<|Aq 2 (by kernel_rfl) G<|cl C51 [] G ((Fi NA nc d.next w2 (hr.below hB).next (by omega) hrows).mono ?_)
 rintro e w3 ⟨NA',nc',rfl,hrn,hb3⟩
 have hrn := Kd.R_lower hrn hB.size
 have hS := Ab hS hb3
 have hB := Ad hB hb3
 refine ⟨_,rfl,fun _ => hS,?_⟩
 refine Ay 6 G (by kernel_rfl) (fun _ _ _ h => h) G (fun v _ => AQ Bz G v) hS<|Aq 5 (by kernel_rfl) G<|cl C52 [] G ((JV FA fc d.fin w3 (hr.below hB).fin (by omega)).mono ?_)
 rintro e w4 ⟨FA',fc',rfl,hrf,hb4⟩
 have hrf := Kd.R_lower hrf hB.size
 have hrn := Kd.R_below hrn hb4
 have hS := Ab hS hb4
 have hB := Ad hB hb4
 refine ⟨_,rfl,fun _ => hS,?_⟩
 refine Aq 7 (by kernel_rfl) G<|Bc (v := .slice NA' d.next.length nc') (cs := d.vals NA FA nc fc) (i := 0 + 2) S27 G G G hS (by simp) ?_
 intro w6 hbb6 hg6
 refine ⟨fun h => absurd h (by decide),?_⟩
 have hbb6 : w6.heap[b]? = some (.cells (d.vals NA' FA nc' fc).toArray 35 (0,0)) := hbb6
 have hrn := Ah hrn hS (by decide) hg6
 have hrf := Ah hrf hS (by decide) hg6
 have hB := hB.grown hg6 hB.size (fun k e => by cases e; exact hwb)
 refine Aq 8 (by kernel_rfl) G<|ofa BP G ⟨fun h => absurd h (by decide),?_⟩
 refine Aq 9 (by kernel_rfl) G<|Bc (v := .slice FA' d.fin.length fc') (cs := d.vals NA' FA nc' fc) (i := 0 + 3) S33 G G G hbb6 (by simp) ?_
 intro w7 hbb7 hg7
 refine ⟨fun h => absurd h (by decide),?_⟩
 have hbb7 : w7.heap[b]? = some (.cells (d.vals NA' FA' nc' fc').toArray 35 (0,0)) := hbb7
 have hrn := Ah hrn hbb6 (by decide) hg7
 have hrf := Ah hrf hbb6 (by decide) hg7
 have hB := hB.grown hg7 hB.size (fun k e => by cases e; exact hwb)
 refine Bw (by kernel_rfl) ?_
 clear hbb hbb6 hg6 hg7 hb1 hb2 hb3 hb4 hS hbe
 refine AV (vs := d.vals NA' FA' nc' fc') G35 S35 G (Ak hbb7)<|pl (.agg ((mdc d NA' FA' none nc' fc' 0 0).set 5 (.slice none 0 0)).toArray) (fun _ => by kernel_rfl)<|obx (cs := (mdc d NA' FA' none nc' fc' 0 0).set 5 (.slice none 0 0)) G G ?_
 intro p w8 hpe hpb hb8
 have hrn := Kd.R_below hrn hb8
 have hrf := Kd.R_below hrf hb8
 have hbb := Ab hbb7 hb8
 have hz7 := hB.size
 have hB := Ad hB hb8
 have hGl := hG.lt
 refine ap G<|mp G<|AV (vs := d.vals NA' FA' nc' fc') G35 S35 G (Ak hbb)<|cl C76 [] G ((Gq d hd NA' FA' nc' fc' 0 (by omega) w8 ⟨(Kd.R_reads' hrn).2.2,(Kd.R_reads' hrf).2.2⟩ (hG.low hB hGl)).mono ?_)
 rintro e w9 ⟨A,c,rfl,hR,hb9⟩
 have hR := Kd.R_lower hR hB.size
 have hrn := Kd.R_below hrn hb9
 have hrf := Kd.R_below hrf hb9
 have hpb := Ab hpb hb9
 have hB := Ad hB hb9
 refine ⟨_,rfl,?_⟩
 refine mv G<|oex G G<|oex G G<|onc G<|ofa G6 G<|Bc (v := .slice A d.next.length c) (cs := (mdc d NA' FA' none nc' fc' 0 0).set 5 (.slice none 0 0)) (i := 0 + 5) S22 G G G hpb (by simp) ?_
 intro w10 hpb10 hg10
 have hpb10 : w10.heap[p]? = some (.cells (mdc d NA' FA' A nc' fc' c 0).toArray 126 (0,0)) := hpb10
 have hwp : w.heap.size ≤ p := by omega
 have hB10 := hB.grown hg10 hB.size (fun k e => by cases e; exact hwp)
 refine mp G<|ap G<|?_
 exact rt1 rfl rfl ⟨p,NA',FA',A,nc',fc',c,rfl,⟨hpb10,Ah hrn hpb (by decide) hg10,Ah hrf hpb (by decide) hg10,Ah hR hpb (by decide) hg10,hG.low hB10 hGl,hwp,hGl⟩,hB10⟩
theorem Jt (d : Df) (hd : d.Ok) (NA FA : Option Addr) (nc fc : Nat) (w : World) (hr : DR d w NA FA) (hG : Glob w) :
  Calls Tryz.prog 27 #[.agg (d.vals NA FA nc fc).toArray] w fun e w' => ∃ j p NA' FA' CA' nc' fc' cc',e = .returned (.tuple #[.pointer (some ⟨j,0,none⟩),.int .i64 0]) ∧ B8 j 123 p 0 w' ∧ w.heap.size ≤ j ∧ MD d w.heap.size p NA' FA' CA' nc' fc' cc' 0 w' ∧ Below w.heap.size w w' := by
 refine enter 15 Tryz.func27 G G _ (by simp) ?_
 refine obx (cs := d.vals NA FA nc fc) G G ?_
 intro b w1 hbe hbb hb1
 refine ap G<|ai G<|AV (vs := d.vals NA FA nc fc) G35 S35 G (Ak hbb)<|cl C43 [] G ((ED d hd NA FA nc fc w1 (hr.below hb1)).mono ?_)
 rintro e w2 ⟨rfl,hb2⟩
 refine ⟨_,rfl,?_⟩
 have hbb := Ab hbb hb2
 have hB := Ad hb1 hb2
 refine ai G<|mi G<|one G G<|isf (by omega)<|?_
 refine cdf G<|AV (vs := d.vals NA FA nc fc) G35 S35 G (Ak hbb)<|cl C59 [] G ((new59 d hd NA FA nc fc w2 (hr.below hB) (hG.below hB)).mono ?_)
 rintro e w3 ⟨p,NA',FA',CA',nc',fc',cc',rfl,hM,hb3⟩
 refine ⟨_,rfl,?_⟩
 refine pl (.iface 123 (.pointer (some ⟨p,0,none⟩))) (fun _ => by kernel_rfl)<|pl (.agg #[.iface 123 (.pointer (some ⟨p,0,none⟩)),.int .i64 0]) (fun _ => by kernel_rfl)<|obx (cs := [.iface 123 (.pointer (some ⟨p,0,none⟩)),.int .i64 (0 : Nat)]) G G ?_
 intro j w4 hje hjb hb4
 have hs2 := hB.size
 have hs3 := hb3.size
 refine ap G<|ai G<|?_
 have hM4 := hM.below hb4
 exact rt2 rfl rfl rfl ⟨j,p,NA',FA',CA',nc',fc',cc',rfl,hjb,by omega,⟨hM4.blk,Kd.R_lower hM4.nx hs2,Kd.R_lower hM4.fi hs2,Kd.R_lower hM4.cl hs2,hM4.glob,Nat.le_trans hs2 hM4.hp,hG.lt⟩,Ad (Ad hB hb3) hb4⟩
end
end Go.Proofs.YtmjllchdhcdinaaGreatDoor

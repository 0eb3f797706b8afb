/- Part of the proof: Q2 Q3 S1 S2 S3 Q4. -/
import Derived.Test.YtmjllchdhcdinaaGreatDoorX14
set_option linter.unusedVariables false
set_option linter.unusedSimpArgs false
set_option maxRecDepth 100000
set_option maxHeartbeats 8000000
namespace Go.Proofs.YtmjllchdhcdinaaGreatDoor
section
open Go Fm Go.RowKit Go.Proofs.YtmjllchdhcdinaaGreatDoorW.PrintWords
theorem quot29 (d : Df) (hd : d.Ok) (NA FA : Option Addr) (nc fc : Nat) (p : List Nat) (hpl : p.length = d.next.length) (hcan : d.Canon p) (PA : Option Addr) (pc : Nat) (w : World) (hr : DR d w NA FA) (hpr : (Kd.int .i64).C w PA d.next.length (Bt p)) :
  Calls Tryz.prog 29 #[.agg (d.vals NA FA nc fc).toArray,.slice PA d.next.length pc] w fun e w' => ∃ NB nb FB fb,e = .returned (.agg ((d.quo p).vals NB FB nb fb).toArray) ∧ Kii.R 22 w' w.heap.size (fun _ => True) (.slice NB (d.quo p).next.length nb) (d.quo p).next ∧ Kd.bool.R 4 w' w.heap.size (fun _ => True) (.slice FB (d.quo p).fin.length fb) (d.quo p).fin ∧ Below w.heap.size w w' := by
 have hn := hd.n
 have hs := hd.s
 have h64 : 2 ^ d.vars ≤ 64 := Nat.pow_le_pow_right (n := 2) (by decide) hd.v
 refine enter 76 Tryz.func29 G G _ (by simp) ?_
 refine obx (cs := d.vals NA FA nc fc) G G ?_
 intro b w1 hbe hb hb1
 have hbl0 := Am hb
 refine oal (v := .agg (dcs 0 0 none none 0 0 0 0).toArray) (cs := dcs 0 0 none none 0 0 0 0) (fun _ => by kernel_rfl) G ?_
 intro b4 w2 h4e h4 hb2
 have hb := Ab hb hb2
 have hB := Ad hb1 hb2
 have hz1 := hb1.size
 have hz2 := hb2.size
 have hbl := Am hb
 have h4l := Am h4
 have hc0 : w2.cell? ⟨b,0 + 0,none⟩ = some (.int .i64 (d.vars : Nat)) := (Ac hb 0).trans rfl
 refine ofa CE G<|old G3 G ‹_›<|pl (.agg (dcs d.vars 0 none none 0 0 0 0).toArray) (fun _ => by kernel_rfl)<|oal (v := .agg (dcs 0 0 none none 0 0 0 0).toArray) (cs := dcs 0 0 none none 0 0 0 0) (fun _ => by kernel_rfl) G ?_
 intro bz w3 hze hz hb3
 refine Bo (vs := dcs d.vars 0 none none 0 0 0 0) (cs := dcs 0 0 none none 0 0 0 0) S35 rfl rfl rfl (by intro u hu; simp only [dcs,List.mem_cons,List.not_mem_nil,or_false] at hu; rcases hu with rfl | rfl | rfl | rfl <;> rfl) hz (by simp) ?_
 intro w4 hz' hg4
 have hz' : w4.heap[bz]? = some (.cells (dcs d.vars 0 none none 0 0 0 0).toArray 35 (0,0)) := hz'
 have hneb : b ≠ bz := by omega
 have hne4 : b4 ≠ bz := by omega
 have hbzw : w.heap.size ≤ bz := by omega
 have hb4w : w.heap.size ≤ b4 := by omega
 have hne44 : b ≠ b4 := by omega
 have hb := Ar (Ab hb hb3) hg4 (fun e => hneb (by injection e))
 have h4 := Ar (Ab h4 hb3) hg4 (fun e => hne4 (by injection e))
 have hB3 := Ad hB hb3
 have hB := hB3.grown hg4 hB3.size (fun k e => by cases e; exact hbzw)
 clear hc0 hB3 hg4 hb1 hb2 hb3 hz hze h4e hbe hz1 hz2 hbl h4l
 obtain ⟨adp,hPA,_⟩ := Au (n := d.next.length) hpr (Da (show 0 < p.length by omega))
 subst hPA
 have hPof : ∀ V,Below w.heap.size w V → ∀ q,q < d.next.length → V.cell? (adp.add (q * 1)) = some (.int .i64 (p.getD q 0 : Nat)) := fun V hV q hq => by
  obtain ⟨ad',he,hc⟩ := Au (n := d.next.length) (Kd.C_below hpr hV) (Da (show q < p.length by omega))
  injection he with he
  subst he
  exact hc
 refine ai G<|lp (σ := Nat × Option Addr × Nat × Option Addr × Nat) (fun q => [(1,.slice (some adp) d.next.length pc),(2,.pointer (some ⟨b,0,none⟩)),(4,.pointer (some ⟨b4,0,none⟩)),(5,.pointer (some ⟨bz,0,none⟩)),(6,.int .i64 (q.1 : Nat))])
  (fun q V => q.1 ≤ d.next.length ∧ Below w.heap.size w V ∧ V.heap[bz]? = some (.cells (dcs d.vars 0 q.2.1 q.2.2.2.1 (d.foQ p (List.range q.1)).1.length q.2.2.1 (d.foQ p (List.range q.1)).1.length q.2.2.2.2).toArray 35 (0,0)) ∧ V.heap[b]? = some (.cells (d.vals NA FA nc fc).toArray 35 (0,0)) ∧ V.heap[b4]? = some (.cells (dcs 0 0 none none 0 0 0 0).toArray 35 (0,0)) ∧
   Kii.R 22 V w.heap.size (fun _ => True) (.slice q.2.1 (d.foQ p (List.range q.1)).1.length q.2.2.1) (d.foQ p (List.range q.1)).1 ∧ Kd.bool.R 4 V w.heap.size (fun _ => True) (.slice q.2.2.2.1 (d.foQ p (List.range q.1)).1.length q.2.2.2.2) (d.foQ p (List.range q.1)).2) (fun q => d.next.length - q.1) (0,none,0,none,0) ⟨rfl,rfl,rfl,rfl,rfl,rfl⟩ ⟨Nat.zero_le _,hB,hz',hb,h4,Kd.R_nil _ _ _ _ _,Kd.R_nil _ _ _ _ _⟩ ?_
 clear hB hz' hb h4
 rintro ⟨i,NB,nb,FB,fb⟩ f V ⟨hi,hB,hz,hb,h4,hN,hF⟩
 simp only at hi hz hN hF
 refine mi G<|ms G<|oln U22 G<|olt G G<|cdd G (fun hlt => ?_) (fun hge => ?_)
 ·have hil : i < d.next.length := Int.ofNat_lt.1 hlt
  have hcp := hPof V hB i hil
  have hBz := hB.size
  have hcl : d.cntQ p i ≤ i := Dw d p i
  have hci : p.getD i 0 ≤ (d.foQ p (List.range i)).1.length := hcan i hil
  have hci2 : (d.foQ p (List.range i)).1.length ≤ i := hcl
  have htwo := Gd d p (List.range i)
  have hfo0 : d.foQ p (List.range (i + 1)) = d.stQ p (d.foQ p (List.range i)) i := by rw [List.range_succ,Ff]
  refine Bu mixed (fun V => V.heap[bz]? = some (.cells (dcs d.vars 0 NB FB (d.foQ p (List.range i)).1.length nb (d.foQ p (List.range i)).1.length fb).toArray 35 (0,0)) ∧ V.cell? (adp.add (i * 1)) = some (.int .i64 (p.getD i 0 : Nat))) ?_
  intro V1 hb1 _ _
  have hS := (⟨Ab hz hb1,Ae hb1 hcp⟩ : V1.heap[bz]? = some (.cells (dcs d.vars 0 NB FB (d.foQ p (List.range i)).1.length nb (d.foQ p (List.range i)).1.length fb).toArray 35 (0,0)) ∧ V1.cell? (adp.add (i * 1)) = some (.int .i64 (p.getD i 0 : Nat)))
  refine Aj 0 G (by kernel_rfl) (fun _ _ _ h => h) G (fun v _ => ms_ G v) hS<|Aj 1 G (by kernel_rfl) (fun _ _ _ h => h) G (fun v _ => mi_ G v) hS<|Aj 2 G (by kernel_rfl) (fun _ _ _ h => h) G (fun v _ => AU U22 Z3 G G (by first | assumption | omega) v) hS<|Aj 3 G (by kernel_rfl) (fun _ _ _ h => h) G (fun v hv => Ai G3 G hv.2) hS<|Aj 4 G (by kernel_rfl) (fun _ _ _ h => h) G (fun v _ => AQ Bz G v) hS<|Aj 5 G (by kernel_rfl) (fun _ _ _ h => h) G (fun v hv => Ai G27 G ((Ac hv.1 _).trans G)) hS<|Aj 6 G (by kernel_rfl) (fun _ _ _ h => h) G (fun v _ => Ec U27 G v) hS<|Aj 7 G (by kernel_rfl) (fun _ _ _ h => h) G (fun v _ => LR G G v) hS<|?_
  refine AY (by kernel_rfl)<|cdd G (fun hne => ?_) (fun heq => ?_)
  ·have hlt' : p.getD i 0 < (d.foQ p (List.range i)).1.length := by
    have : ¬ p.getD i 0 = (d.foQ p (List.range i)).1.length := fun e => hne (by rw [e])
    omega
   have hst : d.stQ p (d.foQ p (List.range i)) i = d.foQ p (List.range i) := by unfold Df.stQ; rw [if_pos hlt']
   rw [hst] at hfo0
   refine mi G<|oad G G (by first | assumption | omega)<|ai G<|?_
   refine ⟨(i + 1,NB,nb,FB,fb),⟨rfl,rfl,rfl,rfl,rfl,rfl⟩,⟨hil,Ad hB hb1,?_,Ab hb hb1,Ab h4 hb1,?_,?_⟩,by dsimp only; omega⟩
   ·dsimp only
    rw [hfo0]
    exact hS.1
   ·dsimp only
    rw [hfo0]
    exact Kd.R_below hN hb1
   ·dsimp only
    rw [hfo0]
    exact Kd.R_below hF hb1
  ·have hge' : ¬ p.getD i 0 < (d.foQ p (List.range i)).1.length := fun hc => heq (fun e => by
    have : p.getD i 0 = (d.foQ p (List.range i)).1.length := Int.ofNat.inj e
    omega)
   have hfo : d.foQ p (List.range (i + 1)) = ((d.foQ p (List.range i)).1 ++ [d.rowC p i],(d.foQ p (List.range i)).2 ++ [d.finO i]) := by rw [hfo0]; unfold Df.stQ; rw [if_neg hge']
   have hz := hS.1
   have hb := Ab hb hb1
   have h4 := Ab h4 hb1
   have hN := Kd.R_below hN hb1
   have hF := Kd.R_below hF hb1
   have hB := Ad hB hb1
   clear hS hcp hb1
   obtain ⟨row,hrow⟩ : ∃ row,d.next[i]? = some row := ⟨_,gE hil⟩
   have hrg : d.next.getD i [] = row := by rw [gD,hrow]; rfl
   have hsg : d.rowC p i = row.map fun y : Int => ((p.getD y.toNat 0 : Nat) : Int) := by unfold Df.rowC; rw [hrg]
   obtain ⟨hrl1,hrl2⟩ := hd.rows row (List.mem_of_getElem? hrow)
   obtain ⟨adn,cc,hNA,_,⟨RA,rc,rfl,hrc,hRow⟩,hcS⟩ := DG hr.next hrow
   have hcS : w.cell? (adn.add (i * 1)) = some (.slice RA row.length rc) := hcS 0 _ rfl
   subst hNA
   refine asl G<|ai G<|?_
   have hBz1 := hB.size
   refine lp (σ := Nat × Option Addr × Nat) (fun q => [(1,.slice (some adp) d.next.length pc),(2,.pointer (some ⟨b,0,none⟩)),(4,.pointer (some ⟨b4,0,none⟩)),(5,.pointer (some ⟨bz,0,none⟩)),(6,.int .i64 (i : Nat)),(7,.slice q.2.1 q.1 q.2.2),(8,.int .i64 q.1)])
    (fun q U => q.1 ≤ row.length ∧ Below V1.heap.size V1 U ∧ (Kd.int .i64).R 3 U V1.heap.size (fun _ => True) (.slice q.2.1 q.1 q.2.2) ((row.take q.1).map fun y : Int => ((p.getD y.toNat 0 : Nat) : Int))) (fun q => row.length - q.1) (0,none,0) ⟨rfl,rfl,rfl,rfl,rfl,rfl,rfl,rfl⟩ ⟨Nat.zero_le _,Below.refl _ _,Kd.R_nil _ _ _ _ _⟩ ?_
   rintro ⟨j,AW,cW⟩ f U ⟨hj,hbU,hT⟩
   simp only at hj hT
   have hUz := hbU.size
   have hbU2 := Ab hb hbU
   have hBU := Ad hB hbU
   have hc2 : U.cell? ⟨b,0 + 2,none⟩ = some (.slice (some adn) d.next.length nc) := (Ac hbU2 2).trans rfl
   have hcSU := Ae hBU hcS
   refine mi G<|ofa Bz G<|old G27 G ‹_›<|mi G<|AD U27 Z22 G G (by first | assumption | omega)<|old G22 G ‹_›<|oln U22 G<|olt G G<|?_
   refine cdd G (fun hlt => ?_) (fun hge2 => ?_)
   ·have hjl : j < row.length := Int.ofNat_lt.1 hlt
    obtain ⟨y,hy⟩ : ∃ y,row[j]? = some y := ⟨_,gE hjl⟩
    have hyb := hrl2 y (List.mem_of_getElem? hy)
    obtain ⟨z,rfl⟩ : ∃ z : Nat,y = z := ⟨y.toNat,by omega⟩
    obtain ⟨adr,rfl,hcr⟩ := Au (Kd.C_below hRow hBU) hy
    have hzn : z < d.next.length := by omega
    have hcz := hPof U hBU z hzn
    have htake : row.take (j + 1) = row.take j ++ [(z : Int)] := by rw [List.take_succ_eq_append_getElem hjl]; rw [gE hjl] at hy; injection hy with hy; rw [hy]
    have htl : ((row.take j).map fun y : Int => ((p.getD y.toNat 0 : Nat) : Int)).length = j := by rw [List.length_map,List.length_take]; omega
    refine ms G<|ms G<|ofa Bz G<|old G27 G ‹_›<|mi G<|AD U27 Z22 G G (by first | assumption | omega)<|old G22 G ‹_›<|mi G<|AD U22 Z3 G G (by first | assumption | omega)<|old G3 G ‹_›<|AD U22 Z3 G G (by first | assumption | omega)<|old G3 G ‹_›<|?_
    refine EJ (bytes := 8) (m := j) (c := cW) (A := AW) (Kd.int .i64) (p := ((p.getD z 0 : Nat) : Int)) (cs := [.int .i64 (p.getD z 0 : Nat)]) (okp := fun i => some i ≠ (Value.slice AW j cW).ownBlock) U22 I3 G (by decide) (by decide) G (by simp) G (AJ U22 I3 G G) hT G (fun i hi => ⟨trivial,hi⟩) (fun _ _ => trivial) hUz (by rw [htl]; omega) ?_
    intro A2 c2 U2 hR2 hg2
    have hl2 : (((row.take j).map fun y : Int => ((p.getD y.toNat 0 : Nat) : Int)) ++ [((p.getD z 0 : Nat) : Int)]).length = j + 1 := by rw [List.length_append,htl]; rfl
    have ht2 : ((row.take j).map fun y : Int => ((p.getD y.toNat 0 : Nat) : Int)) ++ [((p.getD z 0 : Nat) : Int)] = (row.take (j + 1)).map fun y : Int => ((p.getD y.toNat 0 : Nat) : Int) := by rw [htake,List.map_append]; rfl
    rw [hl2] at hR2 ⊢
    rw [ht2] at hR2
    refine asl G<|mi G<|oad G G (by first | assumption | omega)<|ai G<|?_
    exact ⟨(j + 1,A2,c2),⟨rfl,rfl,rfl,rfl,rfl,rfl,rfl,rfl⟩,⟨hjl,hbU.grown hg2 hbU.size (fun k hk => Kd.R_base hT k hk),hR2⟩,by dsimp only; omega⟩
   ·have hjj : j = row.length := by omega
    subst hjj
    rw [List.take_length,← hsg] at hT
    have hzf := Ge hd hil
    obtain ⟨adf,hFA,_⟩ := Au hr.fin hzf
    subst hFA
    have hcfOf : ∀ V',Below w.heap.size w V' → V'.cell? (adf.add (i * 1)) = some (.bool (d.finO i)) := fun V' hV' => by
     obtain ⟨ad',he,hc⟩ := Au (Kd.C_below hr.fin hV') hzf
     injection he with he
     subst he
     exact hc
    have hfl := hd.f
    have hk1 : ((d.foQ p (List.range i)).1 ++ [d.rowC p i]).length = (d.foQ p (List.range i)).1.length + 1 := by simp
    have hk2 : ((d.foQ p (List.range i)).2 ++ [d.finO i]).length = (d.foQ p (List.range i)).1.length + 1 := by simp [htwo]
    have hwb := Nat.le_refl w.heap.size
    have hz := Ab hz hbU
    have hb := hbU2
    have h4 := Ab h4 hbU
    have hB := hBU
    have hN := Kd.R_below hN hbU
    have hF := Kd.R_below hF hbU
    have hW : (Kd.int .i64).R 3 U w.heap.size (fun _ => True) (.slice AW row.length cW) (d.rowC p i) := Kd.R_lower hT hBz1
    clear hbU hbU2 hBU hT hcSU hc2
    refine Bv 15 mixed (fun V => V.cell? ⟨bz,0 + 2,none⟩ = some (.slice NB (d.foQ p (List.range i)).1.length nb) ∧ V.cell? ⟨bz,0 + 3,none⟩ = some (.slice FB (d.foQ p (List.range i)).1.length fb) ∧ V.cell? ⟨b,0 + 3,none⟩ = some (.slice (some adf) d.fin.length fc) ∧ V.cell? (adf.add (i * 1)) = some (.bool (d.finO i))) ?_
    intro V3 hb1 _ _
    have hz := Ab hz hb1
    have hb := Ab hb hb1
    have h4 := Ab h4 hb1
    have hB := Ad hB hb1
    have hN := Kd.R_below hN hb1
    have hF := Kd.R_below hF hb1
    have hW := Kd.R_below hW hb1
    have hZ := hB.size
    have hS := (⟨(Ac hz 2).trans rfl,(Ac hz 3).trans rfl,(Ac hb 3).trans rfl,hcfOf _ hB⟩ : V3.cell? ⟨bz,0 + 2,none⟩ = some (.slice NB (d.foQ p (List.range i)).1.length nb) ∧ V3.cell? ⟨bz,0 + 3,none⟩ = some (.slice FB (d.foQ p (List.range i)).1.length fb) ∧ V3.cell? ⟨b,0 + 3,none⟩ = some (.slice (some adf) d.fin.length fc) ∧ V3.cell? (adf.add (i * 1)) = some (.bool (d.finO i)))
    refine AG 0 [15] G (by kernel_rfl) (fun _ _ _ h => h) G (fun v _ => AQ Bz G v) hS<|AG 1 [15] G (by kernel_rfl) (fun _ _ _ h => h) G (fun v hv => Ai G27 G hv.1) hS<|AG 2 [15] G (by kernel_rfl) (fun _ _ _ h => h) G (fun v _ => ms_ G v) hS<|AG 5 [15] G (by kernel_rfl) (fun _ _ _ h => h) G (fun v _ => AQ BP G v) hS<|AG 6 [15] G (by kernel_rfl) (fun _ _ _ h => h) G (fun v hv => Ai G33 G hv.2.1) hS<|AG 7 [8,10,11,12,13,15] G (by kernel_rfl) (fun _ _ _ h => h) G (fun v _ => AQ BP G v) hS<|AG 8 [10,11,12,13,15] G (by kernel_rfl) (fun _ _ _ h => h) G (fun v hv => Ai G33 G hv.2.2.1) hS<|AG 9 [10,11,12,13,15] G (by kernel_rfl) (fun _ _ _ h => h) G (fun v _ => mi_ G v) hS<|AG 10 [11,12,13,15] G (by kernel_rfl) (fun _ _ _ h => h) G (fun v _ => AU U33 Z4 G G (by first | assumption | omega) v) hS<|AG 11 [12,13,15] G (by kernel_rfl) (fun _ _ _ h => h) G (fun v hv => Ai G4 G hv.2.2.2) hS<|?_
    refine DE 3 12 (by kernel_rfl) G G ?_ ?_
    ·have := True.intro
     refine BV Kii w.heap.size (p := (d.rowC p i)) (cs := [.slice AW row.length cW]) (okp := fun _ => True) (AJ (u := .slice AW row.length cW) U27 CY G G) (Kd.M_row (Kd.R_mono hW (fun _ _ => trivial))) G hZ ?_
     intro AL cL V2 hL hb2
     have hz := Ab hz hb2
     have hb := Ab hb hb2
     have h4 := Ab h4 hb2
     have hB := Ad hB hb2
     have hZ := Nat.le_trans hZ hb2.size
     have hN := Kd.R_below hN hb2
     have hF := Kd.R_below hF hb2
     have hW := Kd.R_below hW hb2
     refine ⟨fun _ => ⟨(Ac hz 2).trans rfl,(Ac hz 3).trans rfl,(Ac hb 3).trans rfl,hcfOf _ hB⟩,?_⟩
     refine DE 4 12 (by kernel_rfl) G G ?_ ?_
     ·have := True.intro
      refine BW Kii (Rr := Kii.M _ w.heap.size (fun gg => True ∧ some gg ≠ (Value.slice AL 1 cL).ownBlock)) U27 CY G (by decide) (by decide) G G hN (CF hL) (okp := fun gg => some gg ≠ (Value.slice NB (d.foQ p (List.range i)).1.length nb).ownBlock) (fun _ _ h => Kii.M_mono (fun gg hi => by
       obtain ⟨_,_,_,q,hq,cells,hc⟩ := hi
       intro e
       obtain ⟨cells2,hc2⟩ := Kd.R_typed hN gg e.symm
       have hq3 : q = 3 := by simpa [Kii,Kd.slice,Kd.int,Kd.scalar] using hq
       subst hq3
       exact An hc hc2 (by decide) rfl) (Kii.M_bound h)) (fun _ h => ⟨trivial,h⟩) (fun _ _ => trivial) hZ (by first | omega | (rw [htwo]; omega)) ?_
      intro A4 c4 V4 hN4 hg4
      rw [hk1] at hN4 ⊢
      have hz := Bb hz hN (by decide) hg4
      have hb := Bb hb hN (by decide) hg4
      have h4 := Bb h4 hN (by decide) hg4
      have hF := Kd.R_over hF hN (by decide) hg4
      have hB := hB.grown hg4 hB.size (fun k hk => Nat.le_trans hwb (Kd.R_base hN k hk))
      have hZ := Nat.le_trans hZ hg4.size
      have hN := hN4
      refine ⟨fun _ => ⟨(Ac hz 2).trans rfl,(Ac hz 3).trans rfl,(Ac hb 3).trans rfl,hcfOf _ hB⟩,?_⟩
      refine AG 14 [15] G (by kernel_rfl) (fun _ _ _ h => h) G (fun v _ => AQ Bz G v) ⟨(Ac hz 2).trans rfl,(Ac hz 3).trans rfl,(Ac hb 3).trans rfl,hcfOf _ hB⟩<|Aq 12 (by kernel_rfl) G<|BV Kd.bool w.heap.size (p := (d.finO i)) (okp := fun _ => True) (AJ (u := .bool (d.finO i)) U33 I4 G G) G G hZ ?_
      intro Al cl_ V2 hl hb2
      have hz := Ab hz hb2
      have hb := Ab hb hb2
      have h4 := Ab h4 hb2
      have hB := Ad hB hb2
      have hZ := Nat.le_trans hZ hb2.size
      have hN := Kd.R_below hN hb2
      have hF := Kd.R_below hF hb2
      refine ⟨fun _ => ⟨(Ac hz 2).trans rfl,(Ac hz 3).trans rfl,(Ac hb 3).trans rfl,hcfOf _ hB⟩,?_⟩
      refine Aq 13 (by kernel_rfl) G<|BW Kd.bool (Rr := Kd.bool.K _) U33 I4 G (by decide) (by decide) G G hF (Kd.R_reads' hl).2.2 (okp := fun gg => some gg ≠ (Value.slice FB (d.foQ p (List.range i)).1.length fb).ownBlock) (fun _ _ h => h) (fun _ h => ⟨trivial,h⟩) (fun _ _ => trivial) hZ (by first | omega | (rw [htwo]; omega)) ?_
      intro A5 c5 V5 hF5 hg5
      rw [hk2] at hF5 ⊢
      have hz := Bb hz hF (by decide) hg5
      have hb := Bb hb hF (by decide) hg5
      have h4 := Bb h4 hF (by decide) hg5
      have hN := Kd.R_over hN hF (by decide) hg5
      have hB := hB.grown hg5 hB.size (fun k hk => Nat.le_trans hwb (Kd.R_base hF k hk))
      have hZ := Nat.le_trans hZ hg5.size
      have hF := hF5
      refine ⟨fun _ => ⟨(Ac hz 2).trans rfl,(Ac hz 3).trans rfl,(Ac hb 3).trans rfl,hcfOf _ hB⟩,?_⟩
      refine Aq 15 (by kernel_rfl) G<|Bc (v := .slice A4 ((d.foQ p (List.range i)).1.length + 1) c4) (cs := dcs d.vars 0 NB FB (d.foQ p (List.range i)).1.length nb (d.foQ p (List.range i)).1.length fb) (i := 0 + 2) S27 G G G hz (by simp) ?_
      intro V6 hz6 hg6
      have hz6 : V6.heap[bz]? = some (.cells (dcs d.vars 0 A4 FB ((d.foQ p (List.range i)).1.length + 1) c4 (d.foQ p (List.range i)).1.length fb).toArray 35 (0,0)) := hz6
      refine ⟨fun h => absurd h (by decide),?_⟩
      refine CN (by kernel_rfl)<|Aj 16 G (by kernel_rfl) (fun _ _ _ h => h) G (fun v _ => AQ BP G v) trivial<|AA 17 (by kernel_rfl) G<|Bc (v := .slice A5 ((d.foQ p (List.range i)).1.length + 1) c5) (cs := dcs d.vars 0 A4 FB ((d.foQ p (List.range i)).1.length + 1) c4 (d.foQ p (List.range i)).1.length fb) (i := 0 + 3) S33 G G G hz6 (by simp) ?_
      intro V7 hz7 hg7
      have hz7 : V7.heap[bz]? = some (.cells (dcs d.vars 0 A4 A5 ((d.foQ p (List.range i)).1.length + 1) c4 ((d.foQ p (List.range i)).1.length + 1) c5).toArray 35 (0,0)) := hz7
      refine ⟨trivial,?_⟩
      refine AY (by kernel_rfl) ?_
      have hb6 := Ar hb hg6 (fun e => hneb (by injection e))
      have hb7 := Ar hb6 hg7 (fun e => hneb (by injection e))
      have h47 := Ar (Ar h4 hg6 (fun e => hne4 (by injection e))) hg7 (fun e => hne4 (by injection e))
      have hN7 := Ah (Ah hN hz (by decide) hg6) hz6 (by decide) hg7
      have hF7 := Ah (Ah hF hz (by decide) hg6) hz6 (by decide) hg7
      have hB6 := hB.grown hg6 hB.size (fun k e => by cases e; exact hbzw)
      have hB7 := hB6.grown hg7 hB6.size (fun k e => by cases e; exact hbzw)
      have hZ := Nat.le_trans (Nat.le_trans hZ hg6.size) hg7.size
      refine mi G<|oad G G (by first | assumption | omega)<|ai G<|?_
      exact ⟨(i + 1,A4,c4,A5,c5),⟨rfl,rfl,rfl,rfl,rfl,rfl⟩,⟨hil,hB7,by dsimp only; rw [hfo,hk1]; exact hz7,hb7,h47,by dsimp only; rw [hfo,hk1]; exact hN7,by dsimp only; rw [hfo,hk1]; exact hF7⟩,by dsimp only; omega⟩
     ·have := True.intro
      refine BV Kd.bool w.heap.size (p := (d.finO i)) (okp := fun _ => True) (AJ (u := .bool (d.finO i)) U33 I4 G G) G G hZ ?_
      intro Al cl_ V2 hl hb2
      have hz := Ab hz hb2
      have hb := Ab hb hb2
      have h4 := Ab h4 hb2
      have hB := Ad hB hb2
      have hZ := Nat.le_trans hZ hb2.size
      have hN := Kd.R_below hN hb2
      have hF := Kd.R_below hF hb2
      have hW := Kd.R_below hW hb2
      have hL := Kd.R_below hL hb2
      refine ⟨fun _ => ⟨(Ac hz 2).trans rfl,(Ac hz 3).trans rfl,(Ac hb 3).trans rfl,hcfOf _ hB⟩,?_⟩
      refine Aq 4 (by kernel_rfl) G<|BW Kii (Rr := Kii.M _ w.heap.size (fun gg => True ∧ some gg ≠ (Value.slice AL 1 cL).ownBlock)) U27 CY G (by decide) (by decide) G G hN (CF hL) (okp := fun gg => some gg ≠ (Value.slice NB (d.foQ p (List.range i)).1.length nb).ownBlock) (fun _ _ h => Kii.M_mono (fun gg hi => by
       obtain ⟨_,_,_,q,hq,cells,hc⟩ := hi
       intro e
       obtain ⟨cells2,hc2⟩ := Kd.R_typed hN gg e.symm
       have hq3 : q = 3 := by simpa [Kii,Kd.slice,Kd.int,Kd.scalar] using hq
       subst hq3
       exact An hc hc2 (by decide) rfl) (Kii.M_bound h)) (fun _ h => ⟨trivial,h⟩) (fun _ _ => trivial) hZ (by first | omega | (rw [htwo]; omega)) ?_
      intro A4 c4 V4 hN4 hg4
      rw [hk1] at hN4 ⊢
      have hz := Bb hz hN (by decide) hg4
      have hb := Bb hb hN (by decide) hg4
      have h4 := Bb h4 hN (by decide) hg4
      have hF := Kd.R_over hF hN (by decide) hg4
      have hl := Kd.R_over hl hN (by decide) hg4
      have hB := hB.grown hg4 hB.size (fun k hk => Nat.le_trans hwb (Kd.R_base hN k hk))
      have hZ := Nat.le_trans hZ hg4.size
      have hN := hN4
      refine ⟨fun _ => ⟨(Ac hz 2).trans rfl,(Ac hz 3).trans rfl,(Ac hb 3).trans rfl,hcfOf _ hB⟩,?_⟩
      refine AG 14 [15] G (by kernel_rfl) (fun _ _ _ h => h) G (fun v _ => AQ Bz G v) ⟨(Ac hz 2).trans rfl,(Ac hz 3).trans rfl,(Ac hb 3).trans rfl,hcfOf _ hB⟩<|Aq 13 (by kernel_rfl) G<|BW Kd.bool (Rr := Kd.bool.K _) U33 I4 G (by decide) (by decide) G G hF (Kd.R_reads' hl).2.2 (okp := fun gg => some gg ≠ (Value.slice FB (d.foQ p (List.range i)).1.length fb).ownBlock) (fun _ _ h => h) (fun _ h => ⟨trivial,h⟩) (fun _ _ => trivial) hZ (by first | omega | (rw [htwo]; omega)) ?_
      intro A5 c5 V5 hF5 hg5
      rw [hk2] at hF5 ⊢
      have hz := Bb hz hF (by decide) hg5
      have hb := Bb hb hF (by decide) hg5
      have h4 := Bb h4 hF (by decide) hg5
      have hN := Kd.R_over hN hF (by decide) hg5
      have hB := hB.grown hg5 hB.size (fun k hk => Nat.le_trans hwb (Kd.R_base hF k hk))
      have hZ := Nat.le_trans hZ hg5.size
      have hF := hF5
      refine ⟨fun _ => ⟨(Ac hz 2).trans rfl,(Ac hz 3).trans rfl,(Ac hb 3).trans rfl,hcfOf _ hB⟩,?_⟩
      refine Aq 15 (by kernel_rfl) G<|Bc (v := .slice A4 ((d.foQ p (List.range i)).1.length + 1) c4) (cs := dcs d.vars 0 NB FB (d.foQ p (List.range i)).1.length nb (d.foQ p (List.range i)).1.length fb) (i := 0 + 2) S27 G G G hz (by simp) ?_
      intro V6 hz6 hg6
      have hz6 : V6.heap[bz]? = some (.cells (dcs d.vars 0 A4 FB ((d.foQ p (List.range i)).1.length + 1) c4 (d.foQ p (List.range i)).1.length fb).toArray 35 (0,0)) := hz6
      refine ⟨fun h => absurd h (by decide),?_⟩
      refine CN (by kernel_rfl)<|Aj 16 G (by kernel_rfl) (fun _ _ _ h => h) G (fun v _ => AQ BP G v) trivial<|AA 17 (by kernel_rfl) G<|Bc (v := .slice A5 ((d.foQ p (List.range i)).1.length + 1) c5) (cs := dcs d.vars 0 A4 FB ((d.foQ p (List.range i)).1.length + 1) c4 (d.foQ p (List.range i)).1.length fb) (i := 0 + 3) S33 G G G hz6 (by simp) ?_
      intro V7 hz7 hg7
      have hz7 : V7.heap[bz]? = some (.cells (dcs d.vars 0 A4 A5 ((d.foQ p (List.range i)).1.length + 1) c4 ((d.foQ p (List.range i)).1.length + 1) c5).toArray 35 (0,0)) := hz7
      refine ⟨trivial,?_⟩
      refine AY (by kernel_rfl) ?_
      have hb6 := Ar hb hg6 (fun e => hneb (by injection e))
      have hb7 := Ar hb6 hg7 (fun e => hneb (by injection e))
      have h47 := Ar (Ar h4 hg6 (fun e => hne4 (by injection e))) hg7 (fun e => hne4 (by injection e))
      have hN7 := Ah (Ah hN hz (by decide) hg6) hz6 (by decide) hg7
      have hF7 := Ah (Ah hF hz (by decide) hg6) hz6 (by decide) hg7
      have hB6 := hB.grown hg6 hB.size (fun k e => by cases e; exact hbzw)
      have hB7 := hB6.grown hg7 hB6.size (fun k e => by cases e; exact hbzw)
      have hZ := Nat.le_trans (Nat.le_trans hZ hg6.size) hg7.size
      refine mi G<|oad G G (by first | assumption | omega)<|ai G<|?_
      exact ⟨(i + 1,A4,c4,A5,c5),⟨rfl,rfl,rfl,rfl,rfl,rfl⟩,⟨hil,hB7,by dsimp only; rw [hfo,hk1]; exact hz7,hb7,h47,by dsimp only; rw [hfo,hk1]; exact hN7,by dsimp only; rw [hfo,hk1]; exact hF7⟩,by dsimp only; omega⟩
    ·have := True.intro
     refine BV Kd.bool w.heap.size (p := (d.finO i)) (okp := fun _ => True) (AJ (u := .bool (d.finO i)) U33 I4 G G) G G hZ ?_
     intro Al cl_ V2 hl hb2
     have hz := Ab hz hb2
     have hb := Ab hb hb2
     have h4 := Ab h4 hb2
     have hB := Ad hB hb2
     have hZ := Nat.le_trans hZ hb2.size
     have hN := Kd.R_below hN hb2
     have hF := Kd.R_below hF hb2
     have hW := Kd.R_below hW hb2
     refine ⟨fun _ => ⟨(Ac hz 2).trans rfl,(Ac hz 3).trans rfl,(Ac hb 3).trans rfl,hcfOf _ hB⟩,?_⟩
     refine Aq 3 (by kernel_rfl) G<|BV Kii w.heap.size (p := (d.rowC p i)) (cs := [.slice AW row.length cW]) (okp := fun _ => True) (AJ (u := .slice AW row.length cW) U27 CY G G) (Kd.M_row (Kd.R_mono hW (fun _ _ => trivial))) G hZ ?_
     intro AL cL V2 hL hb2
     have hz := Ab hz hb2
     have hb := Ab hb hb2
     have h4 := Ab h4 hb2
     have hB := Ad hB hb2
     have hZ := Nat.le_trans hZ hb2.size
     have hN := Kd.R_below hN hb2
     have hF := Kd.R_below hF hb2
     have hW := Kd.R_below hW hb2
     have hl := Kd.R_below hl hb2
     refine ⟨fun _ => ⟨(Ac hz 2).trans rfl,(Ac hz 3).trans rfl,(Ac hb 3).trans rfl,hcfOf _ hB⟩,?_⟩
     refine Aq 4 (by kernel_rfl) G<|BW Kii (Rr := Kii.M _ w.heap.size (fun gg => True ∧ some gg ≠ (Value.slice AL 1 cL).ownBlock)) U27 CY G (by decide) (by decide) G G hN (CF hL) (okp := fun gg => some gg ≠ (Value.slice NB (d.foQ p (List.range i)).1.length nb).ownBlock) (fun _ _ h => Kii.M_mono (fun gg hi => by
      obtain ⟨_,_,_,q,hq,cells,hc⟩ := hi
      intro e
      obtain ⟨cells2,hc2⟩ := Kd.R_typed hN gg e.symm
      have hq3 : q = 3 := by simpa [Kii,Kd.slice,Kd.int,Kd.scalar] using hq
      subst hq3
      exact An hc hc2 (by decide) rfl) (Kii.M_bound h)) (fun _ h => ⟨trivial,h⟩) (fun _ _ => trivial) hZ (by first | omega | (rw [htwo]; omega)) ?_
     intro A4 c4 V4 hN4 hg4
     rw [hk1] at hN4 ⊢
     have hz := Bb hz hN (by decide) hg4
     have hb := Bb hb hN (by decide) hg4
     have h4 := Bb h4 hN (by decide) hg4
     have hF := Kd.R_over hF hN (by decide) hg4
     have hl := Kd.R_over hl hN (by decide) hg4
     have hB := hB.grown hg4 hB.size (fun k hk => Nat.le_trans hwb (Kd.R_base hN k hk))
     have hZ := Nat.le_trans hZ hg4.size
     have hN := hN4
     refine ⟨fun _ => ⟨(Ac hz 2).trans rfl,(Ac hz 3).trans rfl,(Ac hb 3).trans rfl,hcfOf _ hB⟩,?_⟩
     refine AG 14 [15] G (by kernel_rfl) (fun _ _ _ h => h) G (fun v _ => AQ Bz G v) ⟨(Ac hz 2).trans rfl,(Ac hz 3).trans rfl,(Ac hb 3).trans rfl,hcfOf _ hB⟩<|Aq 13 (by kernel_rfl) G<|BW Kd.bool (Rr := Kd.bool.K _) U33 I4 G (by decide) (by decide) G G hF (Kd.R_reads' hl).2.2 (okp := fun gg => some gg ≠ (Value.slice FB (d.foQ p (List.range i)).1.length fb).ownBlock) (fun _ _ h => h) (fun _ h => ⟨trivial,h⟩) (fun _ _ => trivial) hZ (by first | omega | (rw [htwo]; omega)) ?_
     intro A5 c5 V5 hF5 hg5
     rw [hk2] at hF5 ⊢
     have hz := Bb hz hF (by decide) hg5
     have hb := Bb hb hF (by decide) hg5
     have h4 := Bb h4 hF (by decide) hg5
     have hN := Kd.R_over hN hF (by decide) hg5
     have hB := hB.grown hg5 hB.size (fun k hk => Nat.le_trans hwb (Kd.R_base hF k hk))
     have hZ := Nat.le_trans hZ hg5.size
     have hF := hF5
     refine ⟨fun _ => ⟨(Ac hz 2).trans rfl,(Ac hz 3).trans rfl,(Ac hb 3).trans rfl,hcfOf _ hB⟩,?_⟩
     refine Aq 15 (by kernel_rfl) G<|Bc (v := .slice A4 ((d.foQ p (List.range i)).1.length + 1) c4) (cs := dcs d.vars 0 NB FB (d.foQ p (List.range i)).1.length nb (d.foQ p (List.range i)).1.length fb) (i := 0 + 2) S27 G G G hz (by simp) ?_
     intro V6 hz6 hg6
     have hz6 : V6.heap[bz]? = some (.cells (dcs d.vars 0 A4 FB ((d.foQ p (List.range i)).1.length + 1) c4 (d.foQ p (List.range i)).1.length fb).toArray 35 (0,0)) := hz6
     refine ⟨fun h => absurd h (by decide),?_⟩
     refine CN (by kernel_rfl)<|Aj 16 G (by kernel_rfl) (fun _ _ _ h => h) G (fun v _ => AQ BP G v) trivial<|AA 17 (by kernel_rfl) G<|Bc (v := .slice A5 ((d.foQ p (List.range i)).1.length + 1) c5) (cs := dcs d.vars 0 A4 FB ((d.foQ p (List.range i)).1.length + 1) c4 (d.foQ p (List.range i)).1.length fb) (i := 0 + 3) S33 G G G hz6 (by simp) ?_
     intro V7 hz7 hg7
     have hz7 : V7.heap[bz]? = some (.cells (dcs d.vars 0 A4 A5 ((d.foQ p (List.range i)).1.length + 1) c4 ((d.foQ p (List.range i)).1.length + 1) c5).toArray 35 (0,0)) := hz7
     refine ⟨trivial,?_⟩
     refine AY (by kernel_rfl) ?_
     have hb6 := Ar hb hg6 (fun e => hneb (by injection e))
     have hb7 := Ar hb6 hg7 (fun e => hneb (by injection e))
     have h47 := Ar (Ar h4 hg6 (fun e => hne4 (by injection e))) hg7 (fun e => hne4 (by injection e))
     have hN7 := Ah (Ah hN hz (by decide) hg6) hz6 (by decide) hg7
     have hF7 := Ah (Ah hF hz (by decide) hg6) hz6 (by decide) hg7
     have hB6 := hB.grown hg6 hB.size (fun k e => by cases e; exact hbzw)
     have hB7 := hB6.grown hg7 hB6.size (fun k e => by cases e; exact hbzw)
     have hZ := Nat.le_trans (Nat.le_trans hZ hg6.size) hg7.size
     refine mi G<|oad G G (by first | assumption | omega)<|ai G<|?_
     exact ⟨(i + 1,A4,c4,A5,c5),⟨rfl,rfl,rfl,rfl,rfl,rfl⟩,⟨hil,hB7,by dsimp only; rw [hfo,hk1]; exact hz7,hb7,h47,by dsimp only; rw [hfo,hk1]; exact hN7,by dsimp only; rw [hfo,hk1]; exact hF7⟩,by dsimp only; omega⟩
 ·have hin : i = d.next.length := by omega
  rw [hin] at hz hN hF
  have hq : d.foQ p (List.range d.next.length) = ((d.quo p).next,(d.quo p).fin) := rfl
  have hlf : (d.quo p).next.length = (d.quo p).fin.length := (Gv hd hcan).f.symm
  have hcs := hPof V hB d.start hs
  have hc1 : V.cell? ⟨b,0 + 1,none⟩ = some (.int .i64 (d.start : Nat)) := (Ac hb 1).trans rfl
  refine ms G<|oln U22 G<|ogt G G<|ist (by omega) ?_
  refine cdt G<|ms G<|ofa CT G<|old G3 G ‹_›<|AD U22 Z3 G G (by first | assumption | omega)<|old G3 G ‹_›<|ofa CT G<|?_
  refine Bc (v := .int .i64 (p.getD d.start 0 : Nat)) (cs := dcs d.vars 0 NB FB (d.foQ p (List.range d.next.length)).1.length nb (d.foQ p (List.range d.next.length)).1.length fb) (i := 0 + 1) S3 G G G hz (by simp) ?_
  intro V2 hz2 hg2
  have hz2 : V2.heap[bz]? = some (.cells ((d.quo p).vals NB FB nb fb).toArray 35 (0,0)) := by
   rw [hq] at hz2
   simp only [Df.vals]
   rw [← hlf]
   exact hz2
  have h42 := Ar h4 hg2 (fun e => hne4 (by injection e))
  have hN2 := Ah hN hz (by decide) hg2
  have hF2 := Ah hF hz (by decide) hg2
  have hB2 := hB.grown hg2 hB.size (fun k e => by cases e; exact hbzw)
  refine AV (vs := (d.quo p).vals NB FB nb fb) G35 S35 G (Ak hz2)<|Bo (vs := (d.quo p).vals NB FB nb fb) (cs := dcs 0 0 none none 0 0 0 0) S35 rfl rfl rfl (by intro u hu; simp only [Df.vals,dcs,List.mem_cons,List.not_mem_nil,or_false] at hu; rcases hu with rfl | rfl | rfl | rfl <;> rfl) h42 (by simp) ?_
  intro V3 h43 hg3
  have h43 : V3.heap[b4]? = some (.cells ((d.quo p).vals NB FB nb fb).toArray 35 (0,0)) := h43
  have hN3 := Ah hN2 h42 (by decide) hg3
  have hF3 := Ah hF2 h42 (by decide) hg3
  have hlf' : (d.quo p).fin.length = (d.foQ p (List.range d.next.length)).1.length := hlf.symm
  exact rtc rfl rfl h43 G35 S35 ⟨NB,nb,FB,fb,rfl,hN3,by rw [hlf']; exact hF3,hB2.grown hg3 hB2.size (fun k e => by cases e; exact hb4w)⟩
theorem Iq (A : Option Addr) (c : Nat) (n : Int) (r : List Int) (w : World) (hC : (Kd.int .i64).C w A r.length r) :
  Calls Tryz.prog 22 #[.slice A r.length c,.int .i64 n] w fun e w' => ∃ b,e = .returned (.bool b) ∧ (b = true → Rise n r) ∧ Below w.heap.size w w' := by
 refine enter 41 Tryz.func22 G G _ (by simp) ?_
 refine ab G<|ai G<|lp (σ := Nat) (fun k => [(0,.slice A r.length c),(1,.int .i64 n),(4,.bool false),(5,.int .i64 k)]) (fun k W => Below w.heap.size w W ∧ k ≤ r.length ∧ Rise n (r.take k)) (fun k => r.length - k) 0 ⟨rfl,rfl,rfl,rfl,rfl⟩ ⟨Below.refl _ _,Nat.zero_le _,by simpa using Rise.nil n⟩ ?_
 rintro k f W ⟨hB,hk,hR⟩
 refine mi G<|ms G<|oln U22 G<|olt G G<|cdd G (fun h => ?_) (fun h => ?_)
 ·have h : k < r.length := Int.ofNat_lt.1 h
  refine drt mixed 28 (by kernel_rfl) ?_
  intro W1 hb1 _ _
  have hB := Ad hB hb1
  obtain ⟨x,hx⟩ : ∃ x,r[k]? = some x := ⟨_,gE h⟩
  obtain ⟨ad,rfl,hc⟩ := Au hC hx
  have hc := Ae hB hc
  have hxk : r[k] = x := by rw [gE h] at hx; injection hx
  have hmax := Kd.C_max hC
  by_cases h0 : x < 0
  ·refine spu (ms_ G)<|spu (mi_ G)<|spu (AU U22 Z3 G G (by first | assumption | omega))<|sru (Ai G3 G ‹_›)<|spu (Ha G G)<|Ka (by omega)<|spu (mb_ G)<|sof G<|sof G<|sof G<|sof G<|sof G<|sof G<|spu (I2 G G)<|spu (mb_ G)<|sof G<|sof G<|sof G<|sof G<|sof G<|sof G<|sof G<|sof G<|sof G<|sof G<|sof G<|sof G<|sof G<|sof G<|?_
   refine ptb G G<|cdt G<|ab G<|?_
   exact rt1 rfl rfl ⟨false,rfl,by simp,hB⟩
  ·by_cases h1 : n ≤ x
   ·refine spu (ms_ G)<|spu (mi_ G)<|spu (AU U22 Z3 G G (by first | assumption | omega))<|sru (Ai G3 G ‹_›)<|spu (Ha G G)<|Fr (by omega)<|spu (mb_ G)<|son G<|spu (ms_ G)<|son G<|spu (mi_ G)<|son G<|spu (AU U22 Z3 G G (by first | assumption | omega))<|son G<|sru (Ai G3 G ‹_›)<|son G<|spu (mi_ G)<|son G<|spu (Iz G G)<|Ka (by omega)<|spu (Gx G G)<|spu (mb_ G)<|sof G<|sof G<|sof G<|sof G<|sof G<|sof G<|sof G<|sof G<|sof G<|sof G<|sof G<|sof G<|sof G<|sof G<|?_
    refine ptb G G<|cdt G<|ab G<|?_
    exact rt1 rfl rfl ⟨false,rfl,by simp,hB⟩
   ·by_cases h2 : k = 0
    ·refine spu (ms_ G)<|spu (mi_ G)<|spu (AU U22 Z3 G G (by first | assumption | omega))<|sru (Ai G3 G ‹_›)<|spu (Ha G G)<|Fr (by omega)<|spu (mb_ G)<|son G<|spu (ms_ G)<|son G<|spu (mi_ G)<|son G<|spu (AU U22 Z3 G G (by first | assumption | omega))<|son G<|sru (Ai G3 G ‹_›)<|son G<|spu (mi_ G)<|son G<|spu (Iz G G)<|Fr (by omega)<|spu (Gx G G)<|spu (mb_ G)<|son G<|spu (mi_ G)<|son G<|spu (KA G G)<|Fr (by omega)<|son G<|spu (mb_ G)<|sof G<|sof G<|sof G<|sof G<|sof G<|sof G<|sof G<|sof G<|sof G<|sof G<|son G<|spu (Gx G G)<|?_
     refine pfb G G<|cdf G<|mi G<|oad G G (by first | assumption | omega)<|ai G<|?_
     refine ⟨k + 1,⟨rfl,rfl,rfl,rfl,rfl⟩,⟨hB,h,?_⟩,by omega⟩
     rw [List.take_succ_eq_append_getElem h,hxk]
     exact hR.snoc (by omega) (by omega) (by subst h2; simp)
    ·obtain ⟨y,hy⟩ : ∃ y,r[k - 1]? = some y := ⟨_,gE (by omega)⟩
     obtain ⟨_,hgo,hc2⟩ := Au hC hy
     cases hgo
     have hc2 : W1.cell? (ad.add (((k : Int) - 1).toNat * 1)) = some (.int .i64 y) := by
      rw [show ((k : Int) - 1).toNat = k - 1 by omega]; exact Ae hB hc2
     refine spu (ms_ G)<|spu (mi_ G)<|spu (AU U22 Z3 G G (by first | assumption | omega))<|sru (Ai G3 G ‹_›)<|spu (Ha G G)<|Fr (by omega)<|spu (mb_ G)<|son G<|spu (ms_ G)<|son G<|spu (mi_ G)<|son G<|spu (AU U22 Z3 G G (by first | assumption | omega))<|son G<|sru (Ai G3 G ‹_›)<|son G<|spu (mi_ G)<|son G<|spu (Iz G G)<|Fr (by omega)<|spu (Gx G G)<|spu (mb_ G)<|son G<|spu (mi_ G)<|son G<|spu (KA G G)<|Ka (by omega)<|son G<|spu (mb_ G)<|son G<|spu (ms_ G)<|son G<|spu (mi_ G)<|son G<|spu (AU U22 Z3 G G (by first | assumption | omega))<|son G<|sru (Ai G3 G ‹_›)<|son G<|spu (ms_ G)<|son G<|spu (mi_ G)<|son G<|spu (Lu G G (by first | assumption | omega))<|?_
     refine son G<|spu (Ki (i := (k : Int) - 1) (p := r.length) U22 Z3 G G (by omega))<|?_
     refine son G<|sru (Ai G3 G ‹_›)<|son G<|spu (Lw G G)<|son G<|spu (I2 G G)<|pfb G G<|cdd G (fun h3 => ?_) (fun h3 => ?_)
     ·refine ab G<|?_
      exact rt1 rfl rfl ⟨false,rfl,by simp,hB⟩
     ·refine mi G<|oad G G (by first | assumption | omega)<|ai G<|?_
      refine ⟨k + 1,⟨rfl,rfl,rfl,rfl,rfl⟩,⟨hB,h,?_⟩,by omega⟩
      rw [List.take_succ_eq_append_getElem h,hxk]
      refine hR.snoc (by omega) (by omega) (fun u hu => ?_)
      rw [List.getLast?_eq_getElem?,List.length_take,Nat.min_eq_left hk,List.getElem?_take_of_lt (by omega),hy] at hu
      injection hu with hu
      omega
 ·have hkn : k = r.length := by omega
  subst hkn
  refine ab G<|?_
  rw [List.take_length] at hR
  exact rt1 rfl rfl ⟨true,rfl,fun _ => hR,hB⟩
theorem letters102 (v : Nat) (hv : v ≤ 6) (w : World) : Calls Tryz.prog 102 #[.int .i64 (v : Nat)] w fun e w' => e = .returned (.int .i64 ((2 ^ v : Nat) : Int)) ∧ w' = w := by
 refine enter 6 Tryz.func102 G G _ (by simp) ?_
 refine ai G<|mi G<|CU UI3 IZ G (Nat.lt_of_le_of_lt hv (by decide))<|Bq (I7 (b := v) G (by omega)) ?_
 refine ai G<|?_
 exact rt1 rfl rfl ⟨rfl,rfl⟩
theorem cube56 (p q : Nat) (v : Int) (hp : p < 256) (hq : q < 256) (w : World) :
  Calls Tryz.prog 56 #[.agg #[.int .u8 (p : Nat),.int .u8 (q : Nat)],.int .i64 v] w fun e w' => ∃ c : Int,e = .returned (.int .i64 c) ∧ (c = 0 → 0 ≤ v ∧ v ≤ 6 ∧ p < 2 ^ v.toNat ∧ q < 2 ^ v.toNat ∧ p &&& q = 0) ∧ Below w.heap.size w w' := by
 refine enter 32 Tryz.func56 G G _ (by simp) ?_
 refine obx (cs := [.int .u8 (p : Nat),.int .u8 (q : Nat)]) G G ?_
 intro b w1 hbe hbb hb1
 have hc0 : w1.cell? ⟨b,0 + 0,none⟩ = some (.int .u8 (p : Nat)) := (Ac hbb 0).trans rfl
 have hc1 : w1.cell? ⟨b,0 + 1,none⟩ = some (.int .u8 (q : Nat)) := (Ac hbb 1).trans rfl
 refine ai G<|?_
 by_cases h0 : v < 0
 ·refine mi G<|olt G G<|ist (by omega)<|mb G<|gof G<|gof G<|ptb G G<|?_
  refine cdt G<|ai G<|?_
  exact rt1 rfl rfl ⟨7,rfl,by omega,hb1⟩
 ·by_cases h6 : 6 < v
  ·refine mi G<|olt G G<|isf (by omega)<|mb G<|gon G<|mi G<|gon G<|ogt G G<|ist (by omega)<|pfb G G<|?_
   refine cdt G<|ai G<|?_
   exact rt1 rfl rfl ⟨7,rfl,by omega,hb1⟩
  ·refine mi G<|olt G G<|isf (by omega)<|mb G<|gon G<|mi G<|gon G<|ogt G G<|isf (by omega)<|pfb G G<|?_
   refine cdf G ?_
   obtain ⟨u,rfl⟩ : ∃ u : Nat,v = u := ⟨v.toNat,by omega⟩
   have hu : u ≤ 6 := by omega
   refine mi G<|cl C102 [] G ((letters102 u hu w1).mono ?_)
   rintro e w2 ⟨rfl,rfl⟩
   refine ⟨_,rfl,?_⟩
   refine ai G<|?_
   by_cases h1 : 2 ^ u ≤ p
   ·refine ofa Dr G<|old G5 G ‹_›<|CU UI5 UI3 G (Nat.lt_of_lt_of_le hp (by decide))<|mi G<|oge G G<|ist (by omega) ?_
    refine mb G<|gof G<|gof G<|gof G<|gof G<|gof G<|ptb G G<|cdt G<|ai G<|?_
    exact rt1 rfl rfl ⟨7,rfl,by omega,hb1⟩
   ·refine ofa Dr G<|old G5 G ‹_›<|CU UI5 UI3 G (Nat.lt_of_lt_of_le hp (by decide))<|mi G<|oge G G<|isf (by omega) ?_
    refine mb G<|gon G<|ofa FN G<|gon G<|old G5 G ‹_›<|gon G<|CU UI5 UI3 G (Nat.lt_of_lt_of_le hq (by decide))<|gon G<|mi G<|?_
    by_cases h2 : 2 ^ u ≤ q
    ·refine gon G<|oge G G<|ist (by omega) ?_
     refine pfb G G<|cdt G<|ai G<|?_
     exact rt1 rfl rfl ⟨7,rfl,by omega,hb1⟩
    ·refine gon G<|oge G G<|isf (by omega) ?_
     refine pfb G G<|cdf G ?_
     have h64 : 2 ^ u ≤ 64 := Nat.pow_le_pow_right (n := 2) (by decide) hu
     have hp' : p < 2 ^ (IntKind.bits .u8 - 1) := by show p < 128; omega
     have hq' : q < 2 ^ (IntKind.bits .u8 - 1) := by show q < 128; omega
     refine ofa Dr G<|old G5 G ‹_›<|ofa FN G<|old G5 G ‹_›<|oan G G (by first | assumption | decide | omega) (by first | assumption | decide | omega)<|?_
     by_cases h3 : p &&& q = 0
     ·refine one G G<|isf (by rw [h3]; simp) ?_
      refine cdf G<|ai G<|rt1 G G ⟨0,rfl,fun _ => ⟨by omega,by omega,?_,?_,h3⟩,hb1⟩
      ·rw [Int.toNat_natCast]; omega
      ·rw [Int.toNat_natCast]; omega
     ·refine one G G<|ist (fun e => h3 (by omega)) ?_
      refine cdt G<|ai G<|?_
      exact rt1 rfl rfl ⟨2,rfl,by omega,hb1⟩
end
section
open Go
def De (v : Nat) (l : List Int) : Prop := ∀ x ∈ l,0 ≤ x ∧ x < ((2 ^ v : Nat) : Int)
def Df.runF (d : Df) (s : Nat) (l : List Int) : Nat := l.foldl (fun s x => d.step s x.toNat) s
theorem Df.run_eq (d : Df) (l : List Int) : d.run l = d.runF d.start l := rfl
theorem Df.runF_append (d : Df) (s : Nat) (l r : List Int) : d.runF s (l ++ r) = d.runF (d.runF s l) r := List.foldl_append ..
def Df.acc (d : Df) (s : Nat) : Bool := d.fin.getD s false
abbrev Rc := Nat × List Int
def Df.bf1 (d : Df) (q : Rc) (st : List Bool × List Rc) (x : Nat) : List Bool × List Rc :=
 if st.1.getD (d.step q.1 x) false then st else (st.1.set (d.step q.1 x) true,st.2 ++ [(d.step q.1 x,q.2 ++ [(x : Int)])])
def Df.bfR (d : Df) (q : Rc) (st : List Bool × List Rc) (k : Nat) : List Bool × List Rc := (List.range k).foldl (d.bf1 q) st
theorem Df.bfR_succ (d : Df) (q : Rc) (st : List Bool × List Rc) (k : Nat) : d.bfR q st (k + 1) = d.bf1 q (d.bfR q st k) k := by
 simp [Df.bfR,List.range_succ]
def Df.bfs (d : Df) : Nat → List Bool → List Rc → Option (List Int)
 | 0,_,_ => none
 | _ + 1,_,[] => none
 | n + 1,seen,q :: Q => if d.acc q.1 then some q.2 else d.bfs n (d.bfR q (seen,q :: Q) (2 ^ d.vars)).1 (d.bfR q (seen,q :: Q) (2 ^ d.vars)).2.tail
def Df.shortest (d : Df) : Option (List Int) := d.bfs (d.next.length + 1) ((List.replicate d.next.length false).set d.start true) [(d.start,[])]
def uns (seen : List Bool) : Nat := seen.count false
structure BfB (d : Df) (seen : List Bool) (Q : List Rc) : Prop where
 len : seen.length = d.next.length
 st : ∀ q ∈ Q,q.1 < d.next.length
 lets : ∀ q ∈ Q,De d.vars q.2
 run : ∀ q ∈ Q,d.run q.2 = q.1
 short : ∀ q ∈ Q,q.2.length + uns seen < d.next.length
theorem HN {seen : List Bool} {t : Nat} (ht : t < seen.length) (h : seen.getD t false = false) : uns (seen.set t true) + 1 = uns seen := by
 have h' : seen[t] = false := by simpa [gD,ht] using h
 have hpos : 0 < seen.count false := List.count_pos_iff.2 (h' ▸ List.getElem_mem ht)
 unfold uns
 rw [List.count_set ht,h']
 simp
 omega
theorem BfB.step {d : Df} (hd : d.Ok) {seen : List Bool} {Q : List Rc} {q : Rc} (h : BfB d seen Q) (hq : q ∈ Q) {x : Nat} (hx : x < 2 ^ d.vars) : BfB d (d.bf1 q (seen,Q) x).1 (d.bf1 q (seen,Q) x).2 ∧ uns (d.bf1 q (seen,Q) x).1 + (d.bf1 q (seen,Q) x).2.length = uns seen + Q.length := by
 have hlt := Df.step_lt hd (h.st q hq) hx
 unfold Df.bf1
 simp only
 cases hs : seen.getD (d.step q.1 x) false with
 | true => exact ⟨h,rfl⟩
 | false =>
  have hu := HN (by rw [h.len]; exact hlt) hs
  simp only [Bool.false_eq_true,if_false]
  refine ⟨⟨by simp [h.len],fun p hp => ?_,fun p hp => ?_,fun p hp => ?_,fun p hp => ?_⟩,by simp; omega⟩
  ·rcases List.mem_append.1 hp with hp | hp
   ·exact h.st p hp
   ·rw [List.mem_singleton.1 hp]; exact hlt
  ·rcases List.mem_append.1 hp with hp | hp
   ·exact h.lets p hp
   ·rw [List.mem_singleton.1 hp]
    intro y hy
    rcases List.mem_append.1 hy with hy | hy
    ·exact h.lets q hq y hy
    ·rw [List.mem_singleton.1 hy]; omega
  ·rcases List.mem_append.1 hp with hp | hp
   ·exact h.run p hp
   ·rw [List.mem_singleton.1 hp]
    have := h.run q hq
    rw [Df.run_eq] at this
    rw [Df.run_eq,Df.runF_append,this]
    simp [Df.runF]
  ·rcases List.mem_append.1 hp with hp | hp
   ·have := h.short p hp; omega
   ·have := h.short q hq
    rw [List.mem_singleton.1 hp]
    simp
    omega
theorem bf1_mem {d : Df} {q : Rc} {st : List Bool × List Rc} {x : Nat} {p : Rc} (h : p ∈ st.2) : p ∈ (d.bf1 q st x).2 := by
 unfold Df.bf1
 split
 ·exact h
 ·exact List.mem_append_left _ h
theorem BfB.row {d : Df} (hd : d.Ok) {seen : List Bool} {Q : List Rc} {q : Rc} (h : BfB d seen Q) (hq : q ∈ Q) : ∀ k,k ≤ 2 ^ d.vars → BfB d (d.bfR q (seen,Q) k).1 (d.bfR q (seen,Q) k).2 ∧ uns (d.bfR q (seen,Q) k).1 + (d.bfR q (seen,Q) k).2.length = uns seen + Q.length ∧ q ∈ (d.bfR q (seen,Q) k).2
 | 0,_ => ⟨h,rfl,hq⟩
 | k + 1,hk => by
  obtain ⟨h1,h2,h3⟩ := BfB.row hd h hq k (by omega)
  obtain ⟨h4,h5⟩ := h1.step hd h3 (x := k) (by omega)
  rw [Df.bfR_succ]
  exact ⟨h4,h5.trans h2,bf1_mem h3⟩
theorem J2 {d : Df} (hd : d.Ok) {seen : List Bool} {Q : List Rc} {q : Rc} (hl : seen.length = d.next.length) (hq : q.1 < d.next.length) : ∀ k,k ≤ 2 ^ d.vars → (d.bfR q (seen,Q) k).1.length = d.next.length ∧ ∃ new,(d.bfR q (seen,Q) k).2 = Q ++ new ∧
  (∀ e ∈ new,∃ x,x < k ∧ e = (d.step q.1 x,q.2 ++ [(x : Int)]) ∧ seen.getD e.1 false = false) ∧ (∀ s,(d.bfR q (seen,Q) k).1.getD s false = true ↔ seen.getD s false = true ∨ ∃ e ∈ new,e.1 = s) ∧ (∀ x,x < k → (d.bfR q (seen,Q) k).1.getD (d.step q.1 x) false = true)
 | 0,_ => ⟨hl,[],by simp [Df.bfR],by simp,by simp [Df.bfR],by simp⟩
 | k + 1,hk => by
  obtain ⟨hl',new,h1,h2,h3,h4⟩ := J2 hd hl hq k (by omega)
  have hlt := Df.step_lt hd hq (x := k) (by omega)
  rw [Df.bfR_succ]
  unfold Df.bf1
  cases hs : (d.bfR q (seen,Q) k).1.getD (d.step q.1 k) false with
  | true =>
   simp only [if_true]
   refine ⟨hl',new,h1,fun e he => ?_,h3,fun x hx => ?_⟩
   ·obtain ⟨x,hx,h⟩ := h2 e he; exact ⟨x,by omega,h⟩
   ·by_cases e : x = k
    ·rw [e]; exact hs
    ·exact h4 x (by omega)
  | false =>
   simp only [Bool.false_eq_true,if_false]
   have hset : ∀ s,((d.bfR q (seen,Q) k).1.set (d.step q.1 k) true).getD s false = true ↔ (d.bfR q (seen,Q) k).1.getD s false = true ∨ s = d.step q.1 k := by
    intro s
    simp only [gD,List.getElem?_set]
    by_cases e : d.step q.1 k = s
    ·subst e; simp [hl',hlt]
    ·simp [e,Ne.symm e]
   have hun : seen.getD (d.step q.1 k) false = false := by
    cases hh : seen.getD (d.step q.1 k) false with
    | false => rfl
    | true => rw [(h3 _).2 (.inl hh)] at hs; cases hs
   refine ⟨by simp [hl'],new ++ [(d.step q.1 k,q.2 ++ [(k : Int)])],by rw [h1,List.append_assoc],fun e he => ?_,fun s => ?_,fun x hx => ?_⟩
   ·rcases List.mem_append.1 he with he | he
    ·obtain ⟨x,hx,h⟩ := h2 e he; exact ⟨x,by omega,h⟩
    ·rw [List.mem_singleton.1 he]; exact ⟨k,by omega,rfl,hun⟩
   ·rw [hset,h3]
    constructor
    ·rintro ((h | ⟨e,he,h⟩) | h)
     ·exact .inl h
     ·exact .inr ⟨e,List.mem_append_left _ he,h⟩
     ·exact .inr ⟨_,List.mem_append_right _ (List.mem_singleton_self _),h.symm⟩
    ·rintro (h | ⟨e,he,h⟩)
     ·exact .inl (.inl h)
     ·rcases List.mem_append.1 he with he | he
      ·exact .inl (.inr ⟨e,he,h⟩)
      ·rw [List.mem_singleton.1 he] at h; exact .inr h.symm
   ·rw [hset]
    by_cases e : x = k
    ·exact .inr (by rw [e])
    ·exact .inl (h4 x (by omega))
structure BfI (d : Df) (seen : List Bool) (Q : List Rc) (dep : Nat → Nat) : Prop where
 sort : Q.Pairwise fun p q => p.2.length ≤ q.2.length
 near : ∀ p ∈ Q,∀ q ∈ Q,q.2.length ≤ p.2.length + 1
 dp : ∀ q ∈ Q,seen.getD q.1 false = true ∧ dep q.1 = q.2.length
 all : ∀ s,seen.getD s false = true → ∀ u,De d.vars u → d.acc (d.runF s u) = true → ∃ q ∈ Q,∃ r,De d.vars r ∧ d.acc (d.runF q.1 r) = true ∧ q.2.length + r.length ≤ dep s + u.length
 past : ∀ s,seen.getD s false = true → (∃ q ∈ Q,q.1 = s) ∨ ∀ q ∈ Q,dep s ≤ q.2.length
 start : seen.getD d.start false = true ∧ dep d.start = 0
theorem BfI.step {d : Df} (hd : d.Ok) {seen : List Bool} {Q : List Rc} {q : Rc} {dep : Nat → Nat} (hl : seen.length = d.next.length) (hqn : q.1 < d.next.length) (h : BfI d seen (q :: Q) dep) (hna : d.acc q.1 = false) :
  ∃ dep',BfI d (d.bfR q (seen,q :: Q) (2 ^ d.vars)).1 (d.bfR q (seen,q :: Q) (2 ^ d.vars)).2.tail dep' := by
 obtain ⟨hl',new,h1,h2,h3,h4⟩ := J2 hd (Q := q :: Q) hl hqn (2 ^ d.vars) (Nat.le_refl _)
 rw [h1]
 generalize (d.bfR q (seen,q :: Q) (2 ^ d.vars)).1 = seen' at *
 have hqm : q ∈ q :: Q := List.mem_cons_self ..
 have hnl : ∀ e ∈ new,e.2.length = q.2.length + 1 := fun e he => by
  obtain ⟨x,_,hx,_⟩ := h2 e he; rw [hx]; simp
 have hQ : ∀ p ∈ Q,q.2.length ≤ p.2.length ∧ p.2.length ≤ q.2.length + 1 := fun p hp => ⟨List.rel_of_pairwise_cons h.sort hp,h.near q hqm p (List.mem_cons_of_mem _ hp)⟩
 show ∃ dep',BfI d seen' (Q ++ new) dep'
 have hmin : ∀ p ∈ Q ++ new,q.2.length ≤ p.2.length ∧ p.2.length ≤ q.2.length + 1 := fun p hp => by
  rcases List.mem_append.1 hp with hp | hp
  ·exact hQ p hp
  ·have := hnl p hp; omega
 have key : ∀ (m : Nat) (u : List Int),u.length = m → De d.vars u → d.acc (d.runF q.1 u) = true → ∃ p ∈ Q ++ new,∃ r,De d.vars r ∧ d.acc (d.runF p.1 r) = true ∧ p.2.length + r.length ≤ q.2.length + u.length := by
  intro m
  induction m using Nat.strongRecOn with
  | _ m ih =>
   intro u hum hu ha
   cases u with
   | nil => rw [show d.runF q.1 [] = q.1 from rfl,hna] at ha; cases ha
   | cons x r =>
    have hx := hu x (List.mem_cons_self ..)
    have hr : De d.vars r := fun y hy => hu y (List.mem_cons_of_mem _ hy)
    obtain ⟨y,rfl⟩ : ∃ y : Nat,x = y := ⟨x.toNat,by omega⟩
    have hy : y < 2 ^ d.vars := by omega
    have ha' : d.acc (d.runF (d.step q.1 y) r) = true := ha
    simp only [List.length_cons] at hum ⊢
    rcases (h3 _).1 (h4 y hy) with hs | ⟨e,he,hes⟩
    ·rcases h.past _ hs with ⟨q0,hq0,hq0s⟩ | hp
     ·rcases List.mem_cons.1 hq0 with rfl | hq0
      ·rw [← hq0s] at ha'
       obtain ⟨p,hp,r',hr',hap,hle⟩ := ih r.length (by omega) r rfl hr ha'
       exact ⟨p,hp,r',hr',hap,by omega⟩
      ·exact ⟨q0,List.mem_append_left _ hq0,r,hr,by rw [hq0s]; exact ha',by have := hQ q0 hq0; omega⟩
     ·obtain ⟨q2,hq2,r2,hr2,ha2,hle⟩ := h.all _ hs r hr ha'
      have := hp q hqm
      rcases List.mem_cons.1 hq2 with rfl | hq2
      ·obtain ⟨p,hp,r',hr',hap,hle'⟩ := ih r2.length (by omega) r2 rfl hr2 ha2
       exact ⟨p,hp,r',hr',hap,by omega⟩
      ·exact ⟨q2,List.mem_append_left _ hq2,r2,hr2,ha2,by omega⟩
    ·exact ⟨e,List.mem_append_right _ he,r,hr,by rw [hes]; exact ha',by have := hnl e he; omega⟩
 refine ⟨fun s => if seen.getD s false = true then dep s else q.2.length + 1,?_,?_,?_,?_,?_,?_⟩
 ·rw [List.pairwise_append]
  refine ⟨(List.pairwise_cons.1 h.sort).2,?_,fun p hp e he => by have := hQ p hp; have := hnl e he; omega⟩
  exact List.pairwise_of_forall_mem_list fun a ha b hb => by rw [hnl a ha,hnl b hb]; exact Nat.le_refl _
 ·intro p hp p' hp'
  have := hmin p hp; have := hmin p' hp'; omega
 ·intro p hp
  rcases List.mem_append.1 hp with hp | hp
  ·have := h.dp p (List.mem_cons_of_mem _ hp)
   exact ⟨(h3 _).2 (.inl this.1),by rw [if_pos this.1]; exact this.2⟩
  ·obtain ⟨x,_,_,hs⟩ := h2 p hp
   exact ⟨(h3 _).2 (.inr ⟨p,hp,rfl⟩),by rw [if_neg (by rw [hs]; simp)]; exact (hnl p hp).symm⟩
 ·intro s hs u hu ha
  rcases (h3 _).1 hs with hs | ⟨e,he,rfl⟩
  ·rw [if_pos hs]
   obtain ⟨p,hp,r,hr,har,hle⟩ := h.all s hs u hu ha
   rcases List.mem_cons.1 hp with rfl | hp
   ·obtain ⟨p',hp',r',hr',har',hle'⟩ := key r.length r rfl hr har
    exact ⟨p',hp',r',hr',har',by omega⟩
   ·exact ⟨p,List.mem_append_left _ hp,r,hr,har,hle⟩
  ·obtain ⟨x,_,_,hs⟩ := h2 e he
   refine ⟨e,List.mem_append_right _ he,u,hu,ha,?_⟩
   rw [if_neg (by rw [hs]; simp),hnl e he]
   exact Nat.le_refl _
 ·intro s hs
  rcases (h3 _).1 hs with hs | ⟨e,he,rfl⟩
  ·rw [if_pos hs]
   rcases h.past s hs with ⟨p,hp,rfl⟩ | hp
   ·rcases List.mem_cons.1 hp with rfl | hp
    ·right
     intro p' hp'
     rw [(h.dp p hqm).2]
     exact (hmin p' hp').1
    ·exact .inl ⟨p,List.mem_append_left _ hp,rfl⟩
   ·right
    intro p' hp'
    have := hp q hqm
    have := (hmin p' hp').1
    omega
  ·exact .inl ⟨e,List.mem_append_right _ he,rfl⟩
 ·exact ⟨(h3 _).2 (.inl h.start.1),by rw [if_pos h.start.1]; exact h.start.2⟩
theorem IQ {d : Df} (hd : d.Ok) {l : List Int} : ∀ (n : Nat) (seen : List Bool) (Q : List Rc) (dep : Nat → Nat),BfB d seen Q → BfI d seen Q dep → d.bfs n seen Q = some l → De d.vars l ∧ d.acc (d.run l) = true ∧ l.length < d.next.length ∧ ∀ u,De d.vars u → u.length < l.length → d.acc (d.run u) = false
 | 0,_,_,_,_,_,h => by cases h
 | _ + 1,_,[],_,_,_,h => by cases h
 | n + 1,seen,q :: Q,dep,hB,hI,h => by
  have hqm : q ∈ q :: Q := List.mem_cons_self ..
  unfold Df.bfs at h
  cases ha : d.acc q.1 with
  | true =>
   rw [ha] at h
   injection h with h
   subst h
   refine ⟨hB.lets q hqm,by rw [hB.run q hqm]; exact ha,by have := hB.short q hqm; omega,fun u hu hlt => ?_⟩
   cases hau : d.acc (d.run u) with
   | false => rfl
   | true =>
    obtain ⟨p,hp,r,_,_,hle⟩ := hI.all d.start hI.start.1 u hu hau
    rw [hI.start.2] at hle
    rcases List.mem_cons.1 hp with rfl | hp
    ·omega
    ·have := List.rel_of_pairwise_cons hI.sort hp
     omega
  | false =>
   rw [ha] at h
   obtain ⟨dep',hI'⟩ := hI.step hd hB.len (hB.st q hqm) ha
   have hB' := (hB.row hd hqm (2 ^ d.vars) (Nat.le_refl _)).1
   refine IQ hd n _ _ dep' ?_ hI' h
   exact ⟨hB'.len,fun p hp => hB'.st p (List.mem_of_mem_tail hp),fun p hp => hB'.lets p (List.mem_of_mem_tail hp),fun p hp => hB'.run p (List.mem_of_mem_tail hp),fun p hp => hB'.short p (List.mem_of_mem_tail hp)⟩
theorem HI {d : Df} (hd : d.Ok) : BfB d ((List.replicate d.next.length false).set d.start true) [(d.start,[])] := by
 have hs := hd.s
 have hu := HN (seen := List.replicate d.next.length false) (t := d.start) (by simpa using hs) (by simp [gD,hs])
 have hu0 : uns (List.replicate d.next.length false) = d.next.length := by simp [uns]
 refine ⟨by simp,?_,?_,?_,?_⟩ <;> intro q hq <;> rw [List.mem_singleton.1 hq]
 ·exact hs
 ·intro x hx; cases hx
 ·rfl
 ·simp only [List.length_nil]; omega
theorem uns_start {d : Df} (hd : d.Ok) : uns ((List.replicate d.next.length false).set d.start true) + 1 = d.next.length := by
 have hs := hd.s
 have hu := HN (seen := List.replicate d.next.length false) (t := d.start) (by simpa using hs) (by simp [gD,hs])
 have hu0 : uns (List.replicate d.next.length false) = d.next.length := by simp [uns]
 omega
theorem shortest_some {d : Df} (hd : d.Ok) {l : List Int} (h : d.shortest = some l) : De d.vars l ∧ d.acc (d.run l) = true ∧ l.length < d.next.length ∧ ∀ u,De d.vars u → u.length < l.length → d.acc (d.run u) = false := by
 have hs := hd.s
 refine IQ hd _ _ _ (fun _ => 0) (HI hd) ?_ h
 have hg : ∀ s,((List.replicate d.next.length false).set d.start true).getD s false = true ↔ s = d.start := by
  intro s
  simp only [gD,List.getElem?_set]
  by_cases e : d.start = s
  ·subst e; simp [hs]
  ·rw [if_neg e]
   simp only [List.getElem?_replicate]
   constructor
   ·intro h; split at h <;> cases h
   ·intro h; exact absurd h.symm e
 refine ⟨by simp,?_,?_,?_,?_,?_⟩
 ·intro p hp q hq; rw [List.mem_singleton.1 hp,List.mem_singleton.1 hq]; simp
 ·intro q hq; rw [List.mem_singleton.1 hq]; exact ⟨(hg _).2 rfl,rfl⟩
 ·intro s hs' u hu ha
  rw [(hg s).1 hs'] at ha
  exact ⟨_,List.mem_singleton_self _,u,hu,ha,by simp⟩
 ·intro s hs'
  exact .inl ⟨_,List.mem_singleton_self _,((hg s).1 hs').symm⟩
 ·exact ⟨(hg _).2 rfl,rfl⟩
end
section
open Go Fm Go.RowKit Go.Proofs.YtmjllchdhcdinaaGreatDoorW.PrintWords
theorem Br {V V1 : World} {b s e : Nat} {cs : Array Value} {v : Value} (h : V.heap[b]? = some (.cells cs s (0,0))) (ht : ∀ k,v.ownBlock = some k → ∃ cells,V.heap[k]? = some (.cells cells e (0,0))) (hg : V.grownBy V1 v.ownBlock) (hne : s ≠ e) : V1.heap[b]? = some (.cells cs s (0,0)) :=
 (hg.block b (Am h) (fun he => by obtain ⟨_,hc⟩ := ht b he.symm; exact An h hc hne rfl)).trans h
theorem Jo {α : Type} {d : Kd α} {e base n c : Nat} {w : World} {ok : Nat → Prop} {A : Option Addr} {xs : List α} (h : d.Q e w base ok (.slice A n c) xs) {j : Nat} {x : α} (hx : xs[j]? = some x) :
  ∃ ad cs,A = some ad ∧ cs.length = d.sz ∧ d.M w base (fun k => ok k ∧ some k ≠ (Value.slice A n c).ownBlock) x cs ∧ ∀ i u,cs[i]? = some u → w.cell? (ad.add (j * d.sz + i)) = some u := by
 obtain ⟨hn,_,_⟩ := Kd.Q_reads' h
 obtain ⟨_,inner,ho,hr⟩ := h
 have hjl := (List.getElem?_eq_some_iff.1 hx).1
 obtain ⟨ad,ha,hc⟩ := JF (by rw [← hn] at ho; exact ho) (by omega)
 have h1 : j * d.sz + d.sz ≤ inner.length := by rw [hr.1,← Nat.succ_mul]; exact Nat.mul_le_mul_right _ hjl
 refine ⟨ad,(inner.drop (j * d.sz)).take d.sz,ha,by rw [List.length_take,List.length_drop]; omega,hr.2 j x hx,fun i u hu => ?_⟩
 refine hc _ u ?_
 rw [List.getElem?_take] at hu
 split at hu
 ·rw [List.getElem?_drop] at hu
  exact hu
 ·cases hu
section
variable {n : Nat} {P : Program} {ops : Array Oper} {rest : List Oper} {Q : Bd n} {W : World} {f : Fm n} {d : Tmp} {ty t e : TypeId} {x y : Operand} {pos : String} {aft : Array Edge} {α : Type}
theorem oappQ (k : Kd α) {d2 ty2 : Nat} {s : Operand} {pos2 : String} {aft2 : Array Edge} {base : Nat} {ok okp : Nat → Prop} {A : Option Addr} {c m : Nat} {xs : List α} {p : α} {cs : List Value} {z : Value} {bytes : Nat}
  (ht : P.underlying t = some (.slice e)) (hinfo : (P.info? e).map (fun i => (i.zero,i.size,i.bytes)) = some (some z,k.sz,bytes)) (hz : z.cells.size = k.sz) (hs0 : 0 < k.sz) (hb0 : 0 < bytes)
  (hs : ex f s = .slice A m c) (hne : s ≠ .tmp d) (hd : Nat.blt d n = true)
  (hrun : Ru P (.buildSlice t 1 #[(0,x)]) ty f W = .ok (.value (.slice (some ⟨W.heap.size,0,none⟩) 1 1)) (W.alloc (.cells cs.toArray e)))
  (HO : k.Q e W base ok (.slice A m c) xs) (hp : k.M W base okp p cs) (hokp : ∀ i,okp i → ok i ∧ some i ≠ (Value.slice A m c).ownBlock) (hfresh : ∀ i,W.heap.size ≤ i → ok i) (hbase : base ≤ W.heap.size) (hl : (xs.length + 1) * bytes ≤ 140737488355328)
  (h : ∀ A' c' w1,k.Q e w1 base ok (.slice A' (xs ++ [p]).length c') (xs ++ [p]) → W.grownBy w1 (Value.slice A m c).ownBlock → RL P ops Q rest (up (up f d (.slice (some ⟨W.heap.size,0,none⟩) 1 1)) d2 (.slice A' (xs ++ [p]).length c')) w1) :
  LS P ops Q ⟨some d,.buildSlice t 1 #[(0,x)],ty,pos,aft,none⟩ (⟨some d2,.call { callee := .builtin .append,args := #[s,.tmp d],argTypes := #[t,t] },ty2,pos2,aft2,none⟩ :: rest) f W := by
 refine BH hrun<|HW (Kd.Q_append k (w0 := W) base G s (.tmp d) t e z bytes G ht hinfo hz hs0 hb0 (.slice A m c) xs p cs ok okp ?_ ?_ hp hokp hfresh HO (Below.refl _ _) hbase hl ?_)
 ·rw [Ba]
  cases s with
  | tmp j =>
   have hj : Nat.beq d j = false := by
    cases e : Nat.beq d j with
    | false => rfl
    | true => exact absurd (congrArg Operand.tmp (Nat.eq_of_beq_eq_true e)).symm hne
   simp only [ex,gt,hj,cond_false]
   exact hs
  | _ => exact hs
 ·rw [Ba]
  have hj : Nat.beq d d = true := Nat.beq_refl d
  simp only [ex,gt,hj,hd,cond_true]
 ·intro v1 w1 hr hb hg hat
  obtain ⟨A',c',rfl,_⟩ := Kd.Q_slice hr
  exact Ej (h A' c' w1 hr hg)
end
abbrev Knat : Kd Nat := Kd.scalar (fun s : Nat => Value.int .i64 (s : Int)) (fun _ => rfl)
abbrev Krc : Kd Rc := Kd.pair Knat (Kd.slice 5 (Kd.int .u8))
theorem LD : (Tryz.prog.info? 105).map (fun i => (i.zero,i.size,i.bytes)) = some (some (.agg #[.int .i64 0,.slice none 0 0]),2,32) := by kernel_rfl
theorem Krc_M {w : World} {base : Nat} {ok : Nat → Prop} {q : Rc} {cs : List Value} (h : Krc.M w base ok q cs) : ∃ A c,cs = [.int .i64 (q.1 : Int),.slice A q.2.length c] ∧ (Kd.int .u8).R 5 w base ok (.slice A q.2.length c) q.2 := by
 obtain ⟨c0,c1,rfl,h0,v,rfl,h1⟩ := h
 obtain ⟨A,c,rfl⟩ := Kd.R_slice h1
 have h0 : c0 = [.int .i64 (q.1 : Int)] := h0
 subst h0
 exact ⟨A,c,rfl,h1⟩
theorem EH (d : Df) (hd : d.Ok) (NA FA : Option Addr) (nc fc : Nat) (w : World) (hr : DR d w NA FA) :
  Calls Tryz.prog 12 #[.agg (d.vals NA FA nc fc).toArray] w fun e w' => Below w.heap.size w w' ∧ ((d.shortest = none ∧ e = .returned (.tuple #[.slice none 0 0,.bool false,.int .i64 0])) ∨ (∃ l A c,d.shortest = some l ∧ e = .returned (.tuple #[.slice A l.length c,.bool true,.int .i64 0]) ∧ (Kd.int .u8).C w' A l.length l)) := by
 have hv := hd.v
 have hn := hd.n
 have hs := hd.s
 have hff := hd.f
 have h64 : 2 ^ d.vars ≤ 64 := Nat.pow_le_pow_right (n := 2) (by decide) hv
 refine enter 77 Tryz.func12 G G _ (by simp) ?_
 refine obx (cs := d.vals NA FA nc fc) G G ?_
 intro b w1 hbe hbb hb1
 refine asl G<|ab G<|ai G<|AV (vs := d.vals NA FA nc fc) G35 S35 G (Ak hbb)<|cl C43 [] G ((ED d hd NA FA nc fc w1 (hr.below hb1)).mono ?_)
 rintro e w2 ⟨rfl,hb2⟩
 refine ⟨_,rfl,?_⟩
 have hB := Ad hb1 hb2
 have hbb := Ab hbb hb2
 clear hb2 hb1
 refine ai G<|mi G<|one G G<|isf (by omega)<|?_
 refine cdf G ?_
 have hc2 : w2.cell? ⟨b,0 + 0 + 2,none⟩ = some (.slice NA d.next.length nc) := (Ac hbb 2).trans rfl
 refine ofa Bz G<|old G27 G ‹_›<|oln U27 G<|omk Kd.bool U33 I4 G G false (fun _ => rfl) (by omega) G (by decide) (by decide) ?_
 intro A0 cs w3 hsn hb3
 have hbb := Ab hbb hb3
 obtain ⟨gs,cap,hv1,hbg,hgl,_⟩ := Kd.R_form hsn (by simp; omega)
 injection hv1 with hv1 hv2 hv3
 subst hv1
 have hc1 : w3.cell? ⟨b,0 + 0 + 1,none⟩ = some (.int .i64 (d.start : Nat)) := (Ac hbb 1).trans rfl
 refine asl G<|ms G<|ofa CT G<|old G3 G ‹_›<|oix (i := (d.start : Nat)) U33 Z4 G G (by omega) ?_
 refine CG (k := d.start) (z := true) S4 hsn hs (by rw [Int.toNat_natCast]; rfl) G ?_
 have hsn3 := hsn
 have hbb2 := hbb
 intro w4 hsn hg4
 have hbb := Br (v := .slice (some ⟨gs,0,none⟩) d.next.length cs) hbb (Kd.R_typed hsn3) hg4 (by decide)
 have hz2 := hB.size
 have hB := (Ad hB hb3).grown hg4 (Ad hB hb3).size (fun k e => by cases e; have := hB.size; omega)
 have hsn := Kd.R_lower hsn hz2
 clear hg4 hb3 hsn3 hbb2
 have hc1 : w4.cell? ⟨b,0 + 0 + 1,none⟩ = some (.int .i64 (d.start : Nat)) := (Ac hbb 1).trans rfl
 refine ofa CT G<|old G3 G ‹_›<|pl (.agg #[.int .i64 (d.start : Nat),.slice none 0 0]) (fun _ => by kernel_rfl)<|BV Krc w.heap.size (p := (d.start,[])) (cs := [.int .i64 (d.start : Nat),.slice none 0 0]) (okp := fun _ => True) (Cj (us := [.agg #[.int .i64 (d.start : Nat),.slice none 0 0]]) Kj LD G (by decide) [.tmp 26] G G G (by simp [Value.cells]) G (by simp)) ⟨[.int .i64 (d.start : Nat)],[.slice none 0 0],rfl,rfl,Kd.M_row (Kd.R_nil _ _ _ _ _)⟩ rfl hB.size ?_
 intro A5 c5 w5 hQ hb5
 have hQ := Kd.Q_of_R hQ
 have hsn := Kd.R_below hsn hb5
 have hbb := Ab hbb hb5
 have hB := Ad hB hb5
 clear hb5
 refine asl G<|?_
 have hu0 := uns_start hd
 have hB0 := HI hd
 have hbs : d.bfs (d.next.length + 1) ((List.replicate d.next.length false).set d.start true) [(d.start,[])] = d.shortest := rfl
 generalize (List.replicate d.next.length false).set d.start true = seen0 at hu0 hB0 hbs hsn
 refine lp (σ := Nat × List Bool × List Rc × Option Addr × Nat) (fun q => [(1,.pointer (some ⟨b,0,none⟩)),(6,.slice (some ⟨gs,0,none⟩) d.next.length cs),(7,.slice q.2.2.2.1 q.2.2.1.length q.2.2.2.2)])
  (fun q V => Below w.heap.size w V ∧ V.heap[b]? = some (.cells (d.vals NA FA nc fc).toArray 35 (0,0)) ∧ BfB d q.2.1 q.2.2.1 ∧ uns q.2.1 + q.2.2.1.length < q.1 ∧ q.1 ≤ d.next.length + 1 ∧ d.bfs q.1 q.2.1 q.2.2.1 = d.shortest ∧ Kd.bool.R 4 V w.heap.size (fun _ => True) (.slice (some ⟨gs,0,none⟩) d.next.length cs) q.2.1 ∧ Krc.Q 105 V w.heap.size (fun _ => True) (.slice q.2.2.2.1 q.2.2.1.length q.2.2.2.2) q.2.2.1)
  (fun q => q.1) (d.next.length + 1,seen0,[(d.start,[])],A5,c5) ⟨rfl,rfl,rfl,rfl⟩ ⟨hB,hbb,hB0,by simp only [List.length_singleton]; omega,Nat.le_refl _,hbs,hsn,hQ⟩ ?_
 clear hB hbb hB0 hu0 hbs hsn hQ
 rintro ⟨n,seen,Q,A,c⟩ f V ⟨hB,hbb,hBf,hun,hnn,hbs,hsn,hQ⟩
 simp only at hBf hun hnn hbs hsn hQ
 obtain ⟨n,rfl⟩ : ∃ m,n = m + 1 := ⟨n - 1,by omega⟩
 refine ms G<|oln Kj G<|ogt G G<|cdd G (fun hlt => ?_) (fun hge => ?_)
 rotate_left
 ·have hge : ¬ ((0 : Int) < (Q.length : Nat)) := hge
  have hQ0 : Q = [] := List.length_eq_zero_iff.1 (by omega)
  subst hQ0
  refine asl G<|ab G<|ai G<|?_
  exact rt3 rfl rfl rfl rfl ⟨hB,.inl ⟨hbs.symm,rfl⟩⟩
 ·obtain ⟨q,Q,rfl⟩ : ∃ q Q',Q = q :: Q' := by
   cases Q with
   | nil => exact absurd hlt (by simp)
   | cons q Q => exact ⟨q,Q,rfl⟩
  clear hlt
  obtain ⟨ad,cells,rfl,hcl,hM,hcell⟩ := Jo hQ (j := 0) rfl
  obtain ⟨RA,rc,rfl,hR⟩ := Krc_M hM
  have hqm : q ∈ q :: Q := List.mem_cons_self ..
  have hqn := hBf.st q hqm
  refine ms G<|oix (i := 0) Kj LW G G (by simp) ?_
  refine AV (vs := [.int .i64 (q.1 : Int),.slice RA q.2.length rc]) G105 LY G (fun j v hj => by rw [Addr.add_add]; exact hcell j v hj) ?_
  refine oal (v := .agg #[.int .i64 0,.slice none 0 0]) (fun _ => by kernel_rfl) G ?_
  intro g8 V1 hge hgb hb1
  refine Bo (vs := [.int .i64 (q.1 : Int),.slice RA q.2.length rc]) (cs := [.int .i64 0,.slice none 0 0]) LY rfl rfl rfl (by intro u hu; simp only [List.mem_cons,List.not_mem_nil,or_false] at hu; rcases hu with rfl | rfl <;> rfl) hgb (by simp) ?_
  intro V2 hgb2 hg2
  have hz1 : w.heap.size ≤ V.heap.size := hB.size
  have hb2 : Below V.heap.size V V2 := hb1.grown hg2 hb1.size (fun k e => by cases e; omega)
  have hB := Ad hB hb2
  have hbb := Ab hbb hb2
  have hsn := Kd.R_below hsn hb2
  have hR := Kd.R_mono (Kd.R_below hR hb2) (ok' := fun _ => True) (fun _ _ => trivial)
  have hQ : Krc.Q 105 V2 w.heap.size (fun k => k ≠ g8) (.slice (some ad) (Q.length + 1) c) (q :: Q) := Kd.Q_mono (Kd.Q_below (Kd.Q_elderB hQ g8 (by omega)) hb2) (fun _ h => h.2)
  have hgb8 : V2.heap[g8]? = some (.cells [.int .i64 (q.1 : Int),.slice RA q.2.length rc].toArray 105 (0,0)) := hgb2
  have hg8 : w.heap.size ≤ g8 := by omega
  clear hgb2 hg2 hb1 hb2 hgb hcell hM
  have hr2 := hr.below hB
  have hcF : V2.cell? ⟨b,0 + 0 + 3,none⟩ = some (.slice FA d.fin.length fc) := (Ac hbb 3).trans rfl
  have hcN : V2.cell? ⟨b,0 + 0 + 2,none⟩ = some (.slice NA d.next.length nc) := (Ac hbb 2).trans rfl
  have hc80 : V2.cell? ⟨g8,0 + 0,none⟩ = some (.int .i64 (q.1 : Int)) := (Ac hgb8 0).trans rfl
  have hc81 : V2.cell? ⟨g8,0 + 1,none⟩ = some (.slice RA q.2.length rc) := (Ac hgb8 1).trans rfl
  obtain ⟨fb,hfb⟩ : ∃ fb,d.fin[q.1]? = some fb := ⟨_,gE (by omega)⟩
  obtain ⟨adF,rfl,hcf⟩ := Au hr2.fin hfb
  have hacc : d.acc q.1 = fb := by unfold Df.acc; rw [gD,hfb]; rfl
  have hqf : (q.1 : Int) < d.fin.length := by omega
  refine ofa BP G<|old G33 G ‹_›<|ofa KS G<|old G3 G ‹_›<|AD U33 Z4 G G (by first | assumption | omega)<|old G4 G ‹_›<|?_
  cases fb with
  | true =>
   refine cdt G<|ofa KR G<|old G26 G ‹_›<|asl G<|ab G<|ai G<|rt3 G G G G ⟨hB,.inr ⟨q.2,RA,rc,?_,rfl,(Kd.R_reads' hR).2.2⟩⟩
   rw [← hbs]
   unfold Df.bfs
   rw [hacc]
   rfl
  | false =>
   refine cdf G ?_
   obtain ⟨row,hrow⟩ : ∃ row,d.next[q.1]? = some row := ⟨_,gE hqn⟩
   obtain ⟨hrl,hrx⟩ := hd.rows row (List.mem_of_getElem? hrow)
   obtain ⟨adN,cc,rfl,_,⟨RB,rcB,rfl,hrcB,hRow⟩,hcS⟩ := DG hr.next hrow
   have hcS : V2.cell? (adN.add (q.1 * 1)) = some (.slice RB row.length rcB) := Ae hB (hcS 0 _ rfl)
   refine ofa Bz G<|old G27 G ‹_›<|ofa KS G<|old G3 G ‹_›<|AD U27 Z22 G G (by first | assumption | omega)<|old G22 G ‹_›<|oln U22 G<|mi G<|?_
   refine lp (σ := Nat × List Bool × List Rc × Option Addr × Nat) (fun s => [(1,.pointer (some ⟨b,0,none⟩)),(6,.slice (some ⟨gs,0,none⟩) d.next.length cs),(7,.slice s.2.2.2.1 s.2.2.1.length s.2.2.2.2),(8,.pointer (some ⟨g8,0,none⟩)),(49,.slice RB row.length rcB),(50,.int .i64 row.length),(51,.int .i64 s.1)])
    (fun s V => s.1 ≤ row.length ∧ d.bfR q (seen,q :: Q) s.1 = (s.2.1,s.2.2.1) ∧ Below w.heap.size w V ∧ V.heap[b]? = some (.cells (d.vals (some adN) (some adF) nc fc).toArray 35 (0,0)) ∧ V.heap[g8]? = some (.cells [.int .i64 (q.1 : Int),.slice RA q.2.length rc].toArray 105 (0,0)) ∧ Kd.bool.R 4 V w.heap.size (fun _ => True) (.slice (some ⟨gs,0,none⟩) d.next.length cs) s.2.1 ∧ Krc.Q 105 V w.heap.size (fun k => k ≠ g8) (.slice s.2.2.2.1 s.2.2.1.length s.2.2.2.2) s.2.2.1 ∧ (Kd.int .u8).R 5 V w.heap.size (fun _ => True) (.slice RA q.2.length rc) q.2)
    (fun s => row.length - s.1) (0,seen,q :: Q,some ad,c) ⟨rfl,rfl,rfl,rfl,rfl,rfl,rfl,rfl⟩ ⟨Nat.zero_le _,rfl,hB,hbb,hgb8,hsn,hQ,hR⟩ ?_
   clear hB hbb hgb8 hsn hQ hR hr2 hcF hcN hc80 hc81 hcf hcS
   rintro ⟨k,sk,Qk,A,c⟩ f V ⟨hk,hst,hB,hbb,hgb8,hsn,hQ,hR⟩
   simp only at hk hst hsn hQ
   have hBk := hBf.row hd hqm k (by omega)
   rw [hst] at hBk
   obtain ⟨hBk,hunk,hqk⟩ := hBk
   simp only at hBk hunk hqk
   have hl1 : (q :: Q).length = Q.length + 1 := rfl
   refine olt G G<|cdd G (fun hlt => ?_) (fun hge => ?_)
   ·have hkl : k < row.length := Int.ofNat_lt.1 hlt
    obtain ⟨row',hrow',hrl',hcellv,hto⟩ := Df.cellv hd hqn (x := k) (by omega)
    rw [hrow] at hrow'
    injection hrow' with hrow'
    subst hrow'
    obtain ⟨adr,rfl,hcr⟩ := Au hRow hcellv
    have hcr := Ae hB hcr
    refine mi G<|AD U22 Z3 G G (by first | assumption | omega)<|old G3 G ‹_›<|ai G<|ai G<|?_
    have hsl := hBk.len
    obtain ⟨bt,hbt⟩ : ∃ bt,sk[d.step q.1 k]? = some bt := ⟨_,gE (by omega)⟩
    have hgd : sk.getD (d.step q.1 k) false = bt := by rw [gD,hbt]; rfl
    obtain ⟨ads,hads,hcs⟩ := Au (Kd.R_reads' hsn).2.2 (by rw [hbt])
    cases hads
    have hrs := Df.bfR_succ d q (seen,q :: Q) k
    rw [hst] at hrs
    unfold Df.bf1 at hrs
    simp only [hgd] at hrs
    refine ms G<|mi G<|AD U33 Z4 G G (by first | assumption | omega)<|old G4 G ‹_›<|ont G<|?_
    cases bt with
    | true =>
     refine cdf G<|oad G G (by first | assumption | omega)<|mi G<|?_
     exact ⟨(k + 1,sk,Qk,A,c),⟨rfl,rfl,rfl,rfl,rfl,rfl,rfl,rfl⟩,⟨hkl,hrs,hB,hbb,hgb8,hsn,hQ,hR⟩,by dsimp only; omega⟩
    | false =>
     refine cdt G ?_
     simp only [Bool.false_eq_true,if_false] at hrs
     refine ms G<|mi G<|AD U33 Z4 G G (by first | assumption | omega)<|?_
     refine CG (k := d.step q.1 k) (z := true) S4 hsn hto G G ?_
     intro V1 hsn1 hg1
     have hbb := Br (v := .slice (some ⟨gs,0,none⟩) d.next.length cs) hbb (Kd.R_typed hsn) hg1 (by decide)
     have hgb8 := Br (v := .slice (some ⟨gs,0,none⟩) d.next.length cs) hgb8 (Kd.R_typed hsn) hg1 (by decide)
     have hQ := Kd.Q_over' (v := .slice (some ⟨gs,0,none⟩) d.next.length cs) hQ (Kd.R_typed hsn) (by decide) hg1
     have hR := Kd.R_over' (v := .slice (some ⟨gs,0,none⟩) d.next.length cs) hR (Kd.R_typed hsn) (by decide) hg1
     have hB := hB.grown hg1 hB.size (fun k e => by cases e; exact Kd.R_base hsn gs rfl)
     clear hsn hg1 hcs
     have hc81 : V1.cell? ⟨g8,0 + 1,none⟩ = some (.slice RA q.2.length rc) := (Ac hgb8 1).trans rfl
     have hsh := hBf.short q hqm
     refine ms G<|mi G<|ofa KR G<|old G26 G ‹_›<|cl C44 [] G ((JW RA rc q.2 V1 (Kd.R_reads' hR).2.2 (by omega)).mono ?_)
     rintro e V2 ⟨B,cB,rfl,hw,hb2⟩
     refine ⟨_,rfl,?_⟩
     refine mi G<|CU UI3 UI5 G (by show k < 128; omega) ?_
     refine EJ (bytes := 1) (Kd.int .u8) (p := (k : Int)) (cs := [.int .u8 (k : Int)]) (okp := fun _ => False) U26 I5 G (by decide) (by decide) G (by simp) G (AJ U26 I5 G G) hw G (fun i hi => hi.elim) (fun _ _ => trivial) hb2.size (by omega) ?_
     intro A3 c3 V3 hw3 hg3
     have hb3 : Below V1.heap.size V1 V3 := hb2.grown hg3 hb2.size (fun b hb => Kd.R_base hw b hb)
     clear hg3 hb2 hw hc81
     have hbb := Ab hbb hb3
     have hgb8 := Ab hgb8 hb3
     have hQ := Kd.Q_below hQ hb3
     have hR := Kd.R_below hR hb3
     have hsn := Kd.R_below hsn1 hb3
     have hz1 := hB.size
     have hB := Ad hB hb3
     have hw := Kd.R_lower hw3 hz1
     clear hw3 hb3 hsn1
     refine pl (.agg #[.int .i64 (d.step q.1 k : Nat),.slice A3 (q.2 ++ [(k : Int)]).length c3]) (fun _ => by kernel_rfl) ?_
     have hw1 := Kd.R_apart' (v := .slice A Qk.length c) hw (Kd.Q_typed hQ) (by decide)
     have hw2 := Kd.R_apart' (v := .slice (some ⟨g8,0,none⟩) 1 1) hw1 (fun k hk => by injection hk with hk; subst hk; exact ⟨_,hgb8⟩) (by decide)
     refine oappQ (bytes := 32) Krc (p := (d.step q.1 k,q.2 ++ [(k : Int)])) (cs := [.int .i64 (d.step q.1 k : Nat),.slice A3 (q.2 ++ [(k : Int)]).length c3]) (okp := fun i => (True ∧ some i ≠ (Value.slice A Qk.length c).ownBlock) ∧ some i ≠ (Value.slice (some ⟨g8,0,none⟩) 1 1).ownBlock) Kj LD G (by decide) (by decide) G (by simp) G
      (Cj (us := [.agg #[.int .i64 (d.step q.1 k : Nat),.slice A3 (q.2 ++ [(k : Int)]).length c3]]) Kj LD rfl (by decide) [.tmp 73] rfl rfl rfl (by simp [Value.cells]) rfl (by simp)) hQ ⟨[.int .i64 (d.step q.1 k : Nat)],[.slice A3 (q.2 ++ [(k : Int)]).length c3],rfl,rfl,Kd.M_row hw2⟩ (fun i hi => ⟨fun e => hi.2 (by rw [e]; rfl),hi.1.2⟩) (fun i hi e => by have := Am hgb8; omega) hB.size (by omega) ?_
     intro A4 c4 V4 hQ4 hg4
     have hbb4 := Br (v := .slice A Qk.length c) hbb (Kd.Q_typed hQ) hg4 (by decide)
     have hgb84 := Ar hgb8 hg4 (Kd.Q_away hQ (fun _ h => h))
     have hR4 := Kd.R_over' (v := .slice A Qk.length c) hR (Kd.Q_typed hQ) (by decide) hg4
     have hsn4 := Kd.R_over' (v := .slice A Qk.length c) hsn (Kd.Q_typed hQ) (by decide) hg4
     have hB4 := hB.grown hg4 hB.size (fun k hk => Kd.Q_base hQ k hk)
     refine asl G<|oad G G (by first | assumption | omega)<|mi G<|?_
     exact ⟨(k + 1,sk.set (d.step q.1 k) true,Qk ++ [(d.step q.1 k,q.2 ++ [(k : Int)])],A4,c4),⟨rfl,rfl,rfl,rfl,rfl,rfl,rfl,rfl⟩,⟨hkl,hrs,hB4,hbb4,hgb84,hsn4,hQ4,hR4⟩,by dsimp only; omega⟩
   ·have hkn : k = row.length := by omega
    have hk2 : k = 2 ^ d.vars := by omega
    have hQl : 1 ≤ Qk.length := List.length_pos_of_mem hqk
    have hdr := Kd.Q_drop hQ (k := 1) hQl
    refine ms G<|osl (l := 1) Kj LW G G hQl<|asl G<|?_
    have hlt : Qk.tail.length = Qk.length - 1 := List.length_tail
    rw [List.drop_one] at hdr
    refine ⟨(n,sk,Qk.tail,_,_),⟨rfl,rfl,congrArg (fun m => Value.slice _ m _) hlt.symm,rfl⟩,⟨hB,hbb,?_,?_,by dsimp only; omega,?_,hsn,?_⟩,by dsimp only; omega⟩
    ·exact ⟨hBk.len,fun p hp => hBk.st p (List.mem_of_mem_tail hp),fun p hp => hBk.lets p (List.mem_of_mem_tail hp),fun p hp => hBk.run p (List.mem_of_mem_tail hp),fun p hp => hBk.short p (List.mem_of_mem_tail hp)⟩
    ·dsimp only; omega
    ·rw [← hbs]
     have : d.bfs (n + 1) seen (q :: Q) = d.bfs n (d.bfR q (seen,q :: Q) (2 ^ d.vars)).1 (d.bfR q (seen,q :: Q) (2 ^ d.vars)).2.tail := by
      rw [show d.bfs (n + 1) seen (q :: Q) = if d.acc q.1 then some q.2 else d.bfs n (d.bfR q (seen,q :: Q) (2 ^ d.vars)).1 (d.bfR q (seen,q :: Q) (2 ^ d.vars)).2.tail from rfl,hacc]
      rfl
     rw [this,← hk2,hst]
    ·dsimp only
     rw [hlt]
     exact Kd.Q_mono hdr (fun _ _ => trivial)
section
variable {n : Nat} {P : Program} {ops : Array Oper} {rest : List Oper} {Q : Bd n} {W : World} {f : Fm n} {d ty t t' : Nat} {x y : Operand} {pos : String} {aft : Array Edge} {k : IntKind} {i j : Int}
theorem LU (hx : ex f x = .int k i) (hy : ex f y = .int k j) : Pv P (.binOp .add t x y t') ty f (.int k (k.wrap (i + j))) := fun W => by
 simp [Ru,execOp,hx,hy,go_sem]
theorem oaw (hx : ex f x = .int k i) (hy : ex f y = .int k j) (r : RL P ops Q rest (up f d (.int k (k.wrap (i + j)))) W) : LS P ops Q ⟨some d,.binOp .add t x y t',ty,pos,aft,none⟩ rest f W := Bq (LU hx hy) r
end
theorem empty13 (d : Df) (hd : d.Ok) (NA FA : Option Addr) (nc fc : Nat) (w : World) (hr : DR d w NA FA) :
  Calls Tryz.prog 13 #[.agg (d.vals NA FA nc fc).toArray] w fun e w' => Below w.heap.size w w' ∧ e = .returned (.tuple #[.bool d.shortest.isNone,.int .i64 0]) := by
 refine enter 20 Tryz.func13 G G _ (by simp) ?_
 refine obx (cs := d.vals NA FA nc fc) G G ?_
 intro b w1 hbe hbb hb1
 refine ab G<|ai G<|AV (vs := d.vals NA FA nc fc) G35 S35 G (Ak hbb)<|cl C12 [] G ((EH d hd NA FA nc fc w1 (hr.below hb1)).mono ?_)
 rintro e w2 ⟨hb2,hor⟩
 have hB := Ad hb1 hb2
 rcases hor with ⟨hn,rfl⟩ | ⟨l,A,c,hn,rfl,_⟩
 ·refine ⟨_,rfl,?_⟩
  refine mv G<|oex G G<|oex G G<|oex G G<|asl G<|ab G<|ai G<|mi G<|oeq G G<|mb G<|gon G<|mb G<|gon G<|ont G<|ptb G G<|mi G<|ab G<|ai G<|?_
  exact rt2 rfl rfl rfl ⟨hB,by rw [hn]; rfl⟩
 ·refine ⟨_,rfl,?_⟩
  refine mv G<|oex G G<|oex G G<|oex G G<|asl G<|ab G<|ai G<|mi G<|oeq G G<|mb G<|gon G<|mb G<|gon G<|ont G<|ptb G G<|mi G<|ab G<|ai G<|?_
  exact rt2 rfl rfl rfl ⟨hB,by rw [hn]; rfl⟩
structure Pw (d : Df) (i : Nat) (ps : List Int) : Prop where
 len : ps.length = d.next.length
 w : ∀ s x,ps[s]? = some x → x ≠ 0 → ∃ u,De d.vars u ∧ u.length = i ∧ d.run u = s
theorem count14 (d : Df) (hd : d.Ok) (NA FA : Option Addr) (nc fc n : Nat) (hn64 : n ≤ 64) (w : World) (hr : DR d w NA FA) :
  Calls Tryz.prog 14 #[.agg (d.vals NA FA nc fc).toArray,.int .i64 (n : Nat)] w fun e w' => Below w.heap.size w w' ∧ ∃ c : Int,e = .returned (.tuple #[.int .u64 c,.int .i64 0]) ∧ ((∀ u,De d.vars u → u.length = n → d.acc (d.run u) = false) → c = 0) := by
 have hv := hd.v
 have hn := hd.n
 have hs := hd.s
 have hff := hd.f
 have h64 : 2 ^ d.vars ≤ 64 := Nat.pow_le_pow_right (n := 2) (by decide) hv
 refine enter 86 Tryz.func14 G G _ (by simp) ?_
 refine obx (cs := d.vals NA FA nc fc) G G ?_
 intro b w1 hbe hbb hb1
 refine ai G<|ai G<|AV (vs := d.vals NA FA nc fc) G35 S35 G (Ak hbb)<|cl C43 [] G ((ED d hd NA FA nc fc w1 (hr.below hb1)).mono ?_)
 rintro e w2 ⟨rfl,hb2⟩
 refine ⟨_,rfl,?_⟩
 have hB := Ad hb1 hb2
 have hbb := Ab hbb hb2
 clear hb2 hb1
 refine ai G<|mi G<|one G G<|isf (by omega)<|?_
 refine cdf G<|mi G<|olt G G<|isf (by omega)<|mb G<|gon G<|mi G<|gon G<|ogt G G<|isf (by omega)<|pfb G G<|?_
 refine cdf G ?_
 have hc2 : w2.cell? ⟨b,0 + 0 + 2,none⟩ = some (.slice NA d.next.length nc) := (Ac hbb 2).trans rfl
 refine ofa Bz G<|old G27 G ‹_›<|oln U27 G<|omk (Kd.int .u64) U81 I49 G G 0 (fun _ => rfl) (by omega) G (by decide) (by decide) ?_
 intro A0 c0 w3 hp hb3
 have hbb := Ab hbb hb3
 have hz2 := hB.size
 have hB := Ad hB hb3
 have hp := Kd.R_lower hp hz2
 clear hb3
 obtain ⟨g,cap,hv1,hbg,hgl,_⟩ := Kd.R_form hp (by simp; omega)
 injection hv1 with hv1 hv2 hv3
 subst hv1
 refine asl G<|?_
 have hc1 : w3.cell? ⟨b,0 + 0 + 1,none⟩ = some (.int .i64 (d.start : Nat)) := (Ac hbb 1).trans rfl
 refine ms G<|ofa CT G<|old G3 G ‹_›<|oix (i := (d.start : Nat)) U81 Z49 G G (by omega) ?_
 refine CG (enc := fun x => Value.int .u64 x) (h1 := fun _ => rfl) (z := (1 : Int)) (k := d.start) S49 hp hs (by rw [Int.toNat_natCast]; rfl) G ?_
 intro w4 hp4 hg4
 have hbb := Br (v := .slice (some ⟨g,0,none⟩) d.next.length c0) hbb (Kd.R_typed hp) hg4 (by decide)
 have hB := hB.grown hg4 hB.size (fun k e => by cases e; exact hbg)
 clear hp hg4
 have hpw : Pw d 0 ((List.replicate d.next.length 0).set d.start 1) := by
  refine ⟨by simp,fun s x hx hne => ?_⟩
  rw [List.getElem?_set] at hx
  split at hx
  ·rename_i he
   exact ⟨[],(fun y hy => by cases hy),rfl,he⟩
  ·rw [List.getElem?_replicate] at hx
   split at hx
   ·injection hx with hx; exact absurd hx.symm hne
   ·cases hx
 refine mi G<|mi G<|lp (σ := Nat × List Int × Nat × Nat) (fun q => [(2,.pointer (some ⟨b,0,none⟩)),(7,.slice (some ⟨q.2.2.1,0,none⟩) d.next.length q.2.2.2),(35,.int .i64 (n : Nat)),(36,.int .i64 (q.1 : Nat))])
  (fun q V => q.1 ≤ n ∧ Pw d q.1 q.2.1 ∧ Below w.heap.size w V ∧ V.heap[b]? = some (.cells (d.vals NA FA nc fc).toArray 35 (0,0)) ∧ (Kd.int .u64).R 49 V w.heap.size (fun _ => True) (.slice (some ⟨q.2.2.1,0,none⟩) d.next.length q.2.2.2) q.2.1)
  (fun q => n - q.1) (0,_,g,c0) ⟨rfl,rfl,rfl,rfl,rfl⟩ ⟨Nat.zero_le _,hpw,hB,hbb,hp4⟩ ?_
 clear hB hbb hpw hp4 hbg
 rintro ⟨i,ps,g,c0⟩ f V ⟨hi,hpw,hB,hbb,hp⟩
 simp only at hi hpw hp
 have hpl := hpw.len
 refine olt G G<|cdd G (fun hlt => ?_) (fun hge => ?_)
 ·have hin : i < n := Int.ofNat_lt.1 hlt
  refine ms G<|oln U81 G<|omk (Kd.int .u64) U81 I49 G G 0 (fun _ => rfl) (by omega) G (by decide) (by decide) ?_
  intro A2 c2 V1 hq hb1
  have hz1 := hB.size
  have hbb := Ab hbb hb1
  have hp := Kd.R_below (Kd.R_mono (Kd.R_bound hp) (ok' := fun k => k < V.heap.size) (fun k hk => hk.2.2.1)) hb1
  have hq := Kd.R_mono (Kd.R_bound hq) (ok' := fun k => V.heap.size ≤ k) (fun k hk => hk.2.1)
  have hq := Kd.R_lower hq hz1
  have hB := Ad hB hb1
  have hm1 := hb1.size
  generalize V.heap.size = m at hp hq hz1 hm1
  clear hb1
  obtain ⟨g2,cap,hv1,hbg,hgl,_⟩ := Kd.R_form hq (by simp; omega)
  injection hv1 with hv1 hv2 hv3
  subst hv1
  refine asl G<|?_
  have hcN : V1.cell? ⟨b,0 + 0 + 2,none⟩ = some (.slice NA d.next.length nc) := (Ac hbb 2).trans rfl
  refine ofa Bz G<|old G27 G ‹_›<|oln U27 G<|mi G<|?_
  have hpw0 : Pw d (i + 1) (List.replicate d.next.length 0) := ⟨by simp,fun s x hx hne => by
   rw [List.getElem?_replicate] at hx
   split at hx
   ·injection hx with hx; exact absurd hx.symm hne
   ·cases hx⟩
  refine lp (σ := Nat × List Int) (fun q => [(2,.pointer (some ⟨b,0,none⟩)),(7,.slice (some ⟨g,0,none⟩) d.next.length c0),(8,.slice (some ⟨g2,0,none⟩) d.next.length c2),(35,.int .i64 (n : Nat)),(36,.int .i64 (i : Nat)),(42,.slice NA d.next.length nc),(43,.int .i64 d.next.length),(44,.int .i64 (q.1 : Nat))])
   (fun q V => q.1 ≤ d.next.length ∧ Pw d (i + 1) q.2 ∧ Below w.heap.size w V ∧ m ≤ V.heap.size ∧ V.heap[b]? = some (.cells (d.vals NA FA nc fc).toArray 35 (0,0)) ∧ (Kd.int .u64).R 49 V w.heap.size (fun k => k < m) (.slice (some ⟨g,0,none⟩) d.next.length c0) ps ∧ (Kd.int .u64).R 49 V w.heap.size (fun k => m ≤ k) (.slice (some ⟨g2,0,none⟩) d.next.length c2) q.2)
   (fun q => d.next.length - q.1) (0,_) ⟨rfl,rfl,rfl,rfl,rfl,rfl,rfl,rfl,rfl⟩ ⟨Nat.zero_le _,hpw0,hB,hm1,hbb,hp,hq⟩ ?_
  clear hB hbb hp hq hpw0 hm1 hcN
  rintro ⟨s,nx⟩ f V ⟨hsl,hnw,hB,hmz,hbb,hp,hq⟩
  simp only at hsl hnw hq
  refine olt G G<|cdd G (fun hlt => ?_) (fun hge => ?_)
  ·have hsn : s < d.next.length := Int.ofNat_lt.1 hlt
   obtain ⟨row,hrow⟩ : ∃ row,d.next[s]? = some row := ⟨_,gE hsn⟩
   obtain ⟨hrl,hrx⟩ := hd.rows row (List.mem_of_getElem? hrow)
   obtain ⟨adN,cc,rfl,_,⟨RB,rcB,rfl,hrcB,hRow⟩,hcS⟩ := DG hr.next hrow
   have hcS : V.cell? (adN.add (s * 1)) = some (.slice RB row.length rcB) := Ae hB (hcS 0 _ rfl)
   refine mi G<|AD U27 Z22 G G (by first | assumption | omega)<|old G22 G ‹_›<|ai G<|asl G<|?_
   refine ms G<|oln U22 G<|mi G<|lp (σ := Nat × List Int) (fun q => [(2,.pointer (some ⟨b,0,none⟩)),(7,.slice (some ⟨g,0,none⟩) d.next.length c0),(8,.slice (some ⟨g2,0,none⟩) d.next.length c2),(9,.int .i64 (s : Nat)),(35,.int .i64 (n : Nat)),(36,.int .i64 (i : Nat)),(42,.slice (some adN) d.next.length nc),(43,.int .i64 d.next.length),(44,.int .i64 (s : Nat)),(49,.slice RB row.length rcB),(50,.int .i64 row.length),(51,.int .i64 (q.1 : Nat))])
    (fun q V => q.1 ≤ row.length ∧ Pw d (i + 1) q.2 ∧ Below w.heap.size w V ∧ m ≤ V.heap.size ∧ V.heap[b]? = some (.cells (d.vals (some adN) FA nc fc).toArray 35 (0,0)) ∧ (Kd.int .u64).R 49 V w.heap.size (fun k => k < m) (.slice (some ⟨g,0,none⟩) d.next.length c0) ps ∧ (Kd.int .u64).R 49 V w.heap.size (fun k => m ≤ k) (.slice (some ⟨g2,0,none⟩) d.next.length c2) q.2)
    (fun q => row.length - q.1) (0,nx) ⟨rfl,rfl,rfl,rfl,rfl,rfl,rfl,rfl,rfl,rfl,rfl,rfl,rfl⟩ ⟨Nat.zero_le _,hnw,hB,hmz,hbb,hp,hq⟩ ?_
   clear hB hbb hp hq hnw hmz hcS
   rintro ⟨k,nx⟩ f V ⟨hk,hnw,hB,hmz,hbb,hp,hq⟩
   simp only at hk hnw hq
   refine olt G G<|cdd G (fun hlt => ?_) (fun hge => ?_)
   ·have hkl : k < row.length := Int.ofNat_lt.1 hlt
    obtain ⟨row',hrow',hrl',hcellv,hto⟩ := Df.cellv hd hsn (x := k) (by omega)
    rw [hrow] at hrow'
    injection hrow' with hrow'
    subst hrow'
    obtain ⟨adr,rfl,hcr⟩ := Au hRow hcellv
    have hcr := Ae hB hcr
    refine AD U22 Z3 G G (by first | assumption | omega)<|old G3 G ‹_›<|ai G<|?_
    refine drt mixed 9 (by kernel_rfl) ?_
    intro V1 hb1 _ _
    have hbb := Ab hbb hb1
    have hp := Kd.R_below hp hb1
    have hq := Kd.R_below hq hb1
    have hB := Ad hB hb1
    have hmz := Nat.le_trans hmz hb1.size
    have hnl := hnw.len
    obtain ⟨x,hx⟩ : ∃ x,nx[d.step s k]? = some x := ⟨_,gE (by omega)⟩
    obtain ⟨y,hy⟩ : ∃ y,ps[s]? = some y := ⟨_,gE (by omega)⟩
    obtain ⟨_,he1,hc1⟩ := Au (Kd.R_reads' hq).2.2 hx
    obtain ⟨_,he2,hc2⟩ := Au (Kd.R_reads' hp).2.2 hy
    cases he1
    cases he2
    refine spu (ms_ G)<|spu (mi_ G)<|spu (AU U81 Z49 G G (by first | assumption | omega))<|sru (Ai G49 G ‹_›)<|spu (ms_ G)<|spu (mi_ G)<|spu (AU U81 Z49 G G (by first | assumption | omega))<|sru (Ai G49 G ‹_›)<|?_
    refine spu (LU G G)<|AD U81 Z49 G G hto<|CG (enc := fun x => Value.int .u64 x) (h1 := fun _ => rfl) (z := IntKind.wrap .u64 (x + y)) (k := d.step s k) S49 hq hto G G ?_
    intro V2 hq2 hg2
    have hbb2 := Br (v := .slice (some ⟨g2,0,none⟩) d.next.length c2) hbb (Kd.R_typed hq) hg2 (by decide)
    have hp2 := Kd.R_grown hp hg2 (fun k hk e => by injection e with e; have := hq.1 g2 rfl; omega)
    have hB2 := hB.grown hg2 hB.size (fun k e => by cases e; exact Kd.R_base hq g2 rfl)
    refine oad G G (by first | assumption | omega)<|mi G<|?_
    refine ⟨(k + 1,nx.set (d.step s k) (IntKind.wrap .u64 (x + y))),⟨rfl,rfl,rfl,rfl,rfl,rfl,rfl,rfl,rfl,rfl,rfl,rfl,rfl⟩,⟨hkl,⟨by simp [hnl],fun s' z hz hne => ?_⟩,hB2,Nat.le_trans hmz hg2.size,hbb2,hp2,hq2⟩,by dsimp only; omega⟩
    rw [List.getElem?_set] at hz
    split at hz
    ·rename_i he
     rw [if_pos (by omega)] at hz
     injection hz with hz
     by_cases hx0 : x = 0
     ·by_cases hy0 : y = 0
      ·subst hx0 hy0
       exact absurd (hz.symm.trans rfl) hne
      ·obtain ⟨u,h1,h2,h3⟩ := hpw.w s y hy hy0
       refine ⟨u ++ [(k : Int)],fun a ha => ?_,by simp [h2],?_⟩
       ·rcases List.mem_append.1 ha with ha | ha
        ·exact h1 a ha
        ·rw [List.mem_singleton.1 ha]; omega
       ·rw [Df.run_eq] at h3
        rw [Df.run_eq,Df.runF_append,h3,← he]
        simp [Df.runF]
     ·rw [← he]; exact hnw.w _ x hx hx0
    ·exact hnw.w s' z hz hne
   ·refine oad G G (by first | assumption | omega)<|mi G<|?_
    exact ⟨(s + 1,nx),⟨rfl,rfl,rfl,rfl,rfl,rfl,rfl,rfl,rfl⟩,⟨hsn,hnw,hB,hmz,hbb,hp,hq⟩,by dsimp only; omega⟩
  ·refine ms G<|asl G<|oad G G (by first | assumption | omega)<|mi G<|?_
   exact ⟨(i + 1,nx,g2,c2),⟨rfl,rfl,rfl,rfl,rfl⟩,⟨hin,hnw,hB,hbb,Kd.R_mono hq (fun _ _ => trivial)⟩,by dsimp only; omega⟩
 ·have hin : i = n := by omega
  subst hin
  refine ai G<|ms G<|oln U81 G<|mi G<|lp (σ := Nat × Int) (fun q => [(2,.pointer (some ⟨b,0,none⟩)),(13,.int .u64 q.2),(69,.slice (some ⟨g,0,none⟩) d.next.length c0),(70,.int .i64 d.next.length),(71,.int .i64 (q.1 : Nat))])
   (fun q V' => q.1 ≤ d.next.length ∧ V' = V ∧ ((∀ u,De d.vars u → u.length = i → d.acc (d.run u) = false) → q.2 = 0)) (fun q => d.next.length - q.1) (0,0) ⟨rfl,rfl,rfl,rfl,rfl,rfl⟩ ⟨Nat.zero_le _,rfl,fun _ => rfl⟩ ?_
  rintro ⟨s,sum⟩ f V' ⟨hsl,rfl,hsum⟩
  simp only at hsl hsum
  refine olt G G<|cdd G (fun hlt => ?_) (fun hge => ?_)
  ·have hsn : s < d.next.length := Int.ofNat_lt.1 hlt
   obtain ⟨y,hy⟩ : ∃ y,ps[s]? = some y := ⟨_,gE (by omega)⟩
   obtain ⟨_,he2,hc2⟩ := Au (Kd.R_reads' hp).2.2 hy
   cases he2
   obtain ⟨fb,hfb⟩ : ∃ fb,d.fin[s]? = some fb := ⟨_,gE (by omega)⟩
   obtain ⟨adF,rfl,hcf⟩ := Au hr.fin hfb
   have hcf := Ae hB hcf
   have hcF : V'.cell? ⟨b,0 + 0 + 3,none⟩ = some (.slice (some adF) d.fin.length fc) := (Ac hbb 3).trans rfl
   have hsf : s < d.fin.length := by omega
   refine mi G<|AD U81 Z49 G G (by first | assumption | omega)<|old G49 G ‹_›<|ai G<|ai G<|?_
   refine ofa BP G<|old G33 G ‹_›<|mi G<|AD U33 Z4 G G (by first | assumption | omega)<|old G4 G ‹_›<|?_
   cases fb with
   | true =>
    refine cdt G<|mi G<|mi G<|oaw G G<|ai G<|oad G G (by first | assumption | omega)<|mi G<|?_
    refine ⟨(s + 1,IntKind.wrap .u64 (sum + y)),⟨rfl,rfl,rfl,rfl,rfl,rfl⟩,⟨hsn,rfl,fun h => ?_⟩,by dsimp only; omega⟩
    have hy0 : y = 0 := by
     by_cases hy0 : y = 0
     ·exact hy0
     ·obtain ⟨u,h1,h2,h3⟩ := hpw.w s y hy hy0
      have := h u h1 h2
      rw [h3] at this
      unfold Df.acc at this
      rw [gD,hfb] at this
      cases this
    dsimp only
    rw [hsum h,hy0]
    rfl
   | false =>
    refine cdf G<|oad G G (by first | assumption | omega)<|mi G<|?_
    exact ⟨(s + 1,sum),⟨rfl,rfl,rfl,rfl,rfl,rfl⟩,⟨hsn,rfl,hsum⟩,by dsimp only; omega⟩
  ·refine mi G<|ai G<|ai G<|?_
   exact rt2 rfl rfl rfl ⟨hB,sum,rfl,hsum⟩
section
variable {n : Nat} {P : Program} {ops : Array Oper} {rest : List Oper} {Q : Bd n} {W : World} {f : Fm n} {d ty : Nat} {x : Operand} {pos : String} {aft : Array Edge}
theorem K4 {s i off : Nat} {a : Addr} (hF : Fld P s i off) (hx : ex f x = .pointer (some a)) : Pv P (.fieldAddr s x i) ty f ((.pointer (some (a.add off)))) := (fun W => by
 have h := hF a W
 show (do pure (Next.value (← Instr.fieldAt s (ex f x) i)) : Sem Next).run P W = _
 rw [hx]
 generalize Instr.fieldAt s (.pointer (some a)) i = S at h ⊢
 simp [h,go_sem])
theorem ofg {s i off : Nat} {a : Addr} (hF : Fld P s i off) (hx : ex f x = .pointer (some a)) (r : RL P ops Q rest (up f d (.pointer (some (a.add off)))) W) : LS P ops Q ⟨some d,.fieldAddr s x i,ty,pos,aft,none⟩ rest f W := Bq (K4 hF hx) r
end
theorem edges23 (A : Option Addr) (c : Nat) (es : List Ed) (v s : Int) (w : World) (hC : Ed.kd.C w A es.length es) (hby : ∀ e ∈ es,(0 ≤ e.care ∧ e.care ≤ 255) ∧ 0 ≤ e.want ∧ e.want ≤ 255) :
  Calls Tryz.prog 23 #[.slice A es.length c,.int .i64 v,.int .i64 s] w fun e w' => ∃ code : Int,e = .returned (.int .i64 code) ∧ (code = 0 → ∀ e ∈ es,0 ≤ e.src ∧ e.src < s ∧ 0 ≤ e.dst ∧ e.dst < s ∧ ∃ p q : Nat,e.care = p ∧ e.want = q ∧ p ||| q < 2 ^ v.toNat ∧ p &&& q = 0) ∧ Below w.heap.size w w' := by
 have hmax := Kd.C_max hC
 refine enter 63 Tryz.func23 G G _ (by simp) ?_
 refine ai G<|ai G<|lp (σ := Nat) (fun k => [(0,.slice A es.length c),(1,.int .i64 v),(2,.int .i64 s),(6,.int .i64 0),(7,.int .i64 (k : Nat))])
  (fun k W => k ≤ es.length ∧ Below w.heap.size w W ∧ ∀ e ∈ es.take k,0 ≤ e.src ∧ e.src < s ∧ 0 ≤ e.dst ∧ e.dst < s ∧ ∃ p q : Nat,e.care = p ∧ e.want = q ∧ p ||| q < 2 ^ v.toNat ∧ p &&& q = 0) (fun k => es.length - k) 0 ⟨rfl,rfl,rfl,rfl,rfl,rfl⟩ ⟨Nat.zero_le _,Below.refl _ _,by simp⟩ ?_
 rintro k f W ⟨hk,hB,hall⟩
 refine mi G<|ms G<|oln U23 G<|olt G G<|cdd G (fun hlt => ?_) (fun hge => ?_)
 ·have hkl : k < es.length := Int.ofNat_lt.1 hlt
  obtain ⟨x,hx⟩ : ∃ x,es[k]? = some x := ⟨_,gE hkl⟩
  obtain ⟨⟨hc0,hc255⟩,hw0,hw255⟩ := hby x (List.mem_of_getElem? hx)
  obtain ⟨ad,rfl,hc⟩ := Ed.row hC hx
  have h0 := Ae hB (hc 0 _ rfl)
  have h1 := Ae hB (hc 1 _ rfl)
  obtain ⟨p,hp⟩ : ∃ p : Nat,x.care = p := ⟨x.care.toNat,by omega⟩
  obtain ⟨q,hq⟩ : ∃ q : Nat,x.want = q := ⟨x.want.toNat,by omega⟩
  have hbad : ∀ P : Prop,((8 : Int) = 0 → P) := fun P h => absurd h (by decide)
  by_cases a0 : x.src < 0
  ·refine ms G<|mi G<|AD U23 Z71 G G (by first | assumption | omega)<|ofg DO G<|old G3 G ‹_›<|olt G G<|ist (by omega)<|mb G<|gof G<|gof G<|gof G<|gof G<|gof G<|gof G<|gof G<|ptb G G<|mb G<|gof G<|gof G<|gof G<|gof G<|gof G<|gof G<|ptb G G<|mb G<|gof G<|gof G<|gof G<|gof G<|gof G<|gof G<|gof G<|ptb G G<|?_
   refine cdt G<|ai G<|?_
   exact rt1 rfl rfl ⟨8,rfl,hbad _,hB⟩
  by_cases a1 : s ≤ x.src
  ·refine ms G<|mi G<|AD U23 Z71 G G (by first | assumption | omega)<|ofg DO G<|old G3 G ‹_›<|olt G G<|isf (by omega)<|mb G<|gon G<|ms G<|gon G<|mi G<|gon G<|AD U23 Z71 G G (by first | assumption | omega)<|gon G<|ofg DO G<|gon G<|old G3 G ‹_›<|gon G<|mi G<|gon G<|oge G G<|ist (by omega)<|pfb G G<|mb G<|gof G<|gof G<|gof G<|gof G<|gof G<|gof G<|ptb G G<|mb G<|gof G<|gof G<|gof G<|gof G<|gof G<|gof G<|gof G<|ptb G G<|?_
   refine cdt G<|ai G<|?_
   exact rt1 rfl rfl ⟨8,rfl,hbad _,hB⟩
  by_cases a2 : x.dst < 0
  ·refine ms G<|mi G<|AD U23 Z71 G G (by first | assumption | omega)<|ofg DO G<|old G3 G ‹_›<|olt G G<|isf (by omega)<|mb G<|gon G<|ms G<|gon G<|mi G<|gon G<|AD U23 Z71 G G (by first | assumption | omega)<|gon G<|ofg DO G<|gon G<|old G3 G ‹_›<|gon G<|mi G<|gon G<|oge G G<|isf (by omega)<|pfb G G<|mb G<|gon G<|ms G<|gon G<|mi G<|gon G<|AD U23 Z71 G G (by first | assumption | omega)<|gon G<|ofg Fk G<|gon G<|old G3 G ‹_›<|gon G<|olt G G<|ist (by omega)<|pfb G G<|mb G<|gof G<|gof G<|gof G<|gof G<|gof G<|gof G<|gof G<|ptb G G<|?_
   refine cdt G<|ai G<|?_
   exact rt1 rfl rfl ⟨8,rfl,hbad _,hB⟩
  by_cases a3 : s ≤ x.dst
  ·refine ms G<|mi G<|AD U23 Z71 G G (by first | assumption | omega)<|ofg DO G<|old G3 G ‹_›<|olt G G<|isf (by omega)<|mb G<|gon G<|ms G<|gon G<|mi G<|gon G<|AD U23 Z71 G G (by first | assumption | omega)<|gon G<|ofg DO G<|gon G<|old G3 G ‹_›<|gon G<|mi G<|gon G<|oge G G<|isf (by omega)<|pfb G G<|mb G<|gon G<|ms G<|gon G<|mi G<|gon G<|AD U23 Z71 G G (by first | assumption | omega)<|gon G<|ofg Fk G<|gon G<|old G3 G ‹_›<|gon G<|olt G G<|isf (by omega)<|pfb G G<|mb G<|gon G<|ms G<|gon G<|mi G<|gon G<|AD U23 Z71 G G (by first | assumption | omega)<|gon G<|ofg Fk G<|gon G<|old G3 G ‹_›<|gon G<|mi G<|gon G<|oge G G<|ist (by omega)<|pfb G G<|?_
   refine cdt G<|ai G<|?_
   exact rt1 rfl rfl ⟨8,rfl,hbad _,hB⟩
  refine ms G<|mi G<|AD U23 Z71 G G (by first | assumption | omega)<|ofg DO G<|old G3 G ‹_›<|olt G G<|isf (by omega)<|mb G<|gon G<|ms G<|gon G<|mi G<|gon G<|AD U23 Z71 G G (by first | assumption | omega)<|gon G<|ofg DO G<|gon G<|old G3 G ‹_›<|gon G<|mi G<|gon G<|oge G G<|isf (by omega)<|pfb G G<|mb G<|gon G<|ms G<|gon G<|mi G<|gon G<|AD U23 Z71 G G (by first | assumption | omega)<|gon G<|ofg Fk G<|gon G<|old G3 G ‹_›<|gon G<|olt G G<|isf (by omega)<|pfb G G<|mb G<|gon G<|ms G<|gon G<|mi G<|gon G<|AD U23 Z71 G G (by first | assumption | omega)<|gon G<|ofg Fk G<|gon G<|old G3 G ‹_›<|gon G<|mi G<|gon G<|oge G G<|isf (by omega)<|pfb G G<|?_
  refine cdf G<|drt mixed 12 (by kernel_rfl) ?_
  intro W1 hb1 _ _
  have hB := Ad hB hb1
  have h2 := Ae hB (hc 2 _ rfl)
  have h3 := Ae hB (hc 3 _ rfl)
  refine spu (ms_ G)<|spu (mi_ G)<|spu (AU U23 Z71 G G (by first | assumption | omega))<|spu (K4 IX G)<|sru (Ai G5 G ‹_›)<|spu (ms_ G)<|spu (mi_ G)<|spu (AU U23 Z71 G G (by first | assumption | omega))<|spu (K4 IW G)<|sru (Ai G5 G ‹_›)<|?_
  refine spu (v := .agg #[.int .u8 (p : Nat),.int .u8 (q : Nat)]) (fun _ => by rw [← hp,← hq]; kernel_rfl) ?_
  refine spu (mi_ G)<|cl C56 [] G ((cube56 p q v (by omega) (by omega) W1).mono ?_)
  rintro e W2 ⟨cc,rfl,hcc,hb2⟩
  have hB := Ad hB hb2
  refine ⟨_,rfl,?_⟩
  refine ai G<|?_
  by_cases hz : cc = 0
  ·refine mi G<|one G G<|isf (by omega)<|?_
   refine cdf G<|mi G<|oad G G (by first | assumption | omega)<|ai G<|?_
   refine ⟨k + 1,⟨rfl,rfl,rfl,rfl,rfl,rfl⟩,⟨hkl,hB,fun e he => ?_⟩,by omega⟩
   rw [List.take_succ_eq_append_getElem hkl] at he
   rcases List.mem_append.1 he with he | he
   ·exact hall e he
   ·rw [gE hkl] at hx
    injection hx with hx
    rw [List.mem_singleton.1 he,hx]
    obtain ⟨hv0,hv6,hpl,hql,hpq⟩ := hcc hz
    exact ⟨by omega,by omega,by omega,by omega,p,q,hp,hq,Nat.or_lt_two_pow hpl hql,hpq⟩
  ·refine mi G<|one G G<|ist (by omega)<|?_
   refine cdt G<|mi G<|ai G<|?_
   exact rt1 rfl rfl ⟨cc,rfl,fun h => absurd h hz,hB⟩
 ·have hkn : k = es.length := by omega
  subst hkn
  rw [List.take_length] at hall
  refine ai G<|?_
  exact rt1 rfl rfl ⟨0,rfl,fun _ => hall,hB⟩
theorem vars21 (v : Int) (w : World) : Calls Tryz.prog 21 #[.int .i64 v] w fun e w' => (∃ b,e = .returned (.bool b) ∧ (b = true ↔ 0 ≤ v ∧ v ≤ 6)) ∧ w' = w := by
 refine enter 9 Tryz.func21 G G _ (by simp) ?_
 refine ab G<|?_
 by_cases h0 : 0 ≤ v
 ·by_cases h1 : v ≤ 6
  ·refine mi G<|oge G G<|ist (by omega)<|mb G<|gon G<|mi G<|gon G<|ole G G<|ist (by omega)<|ptb G G<|ab G<|?_
   exact rt1 rfl rfl ⟨⟨true,rfl,by simp [h0,h1]⟩,rfl⟩
  ·refine mi G<|oge G G<|ist (by omega)<|mb G<|gon G<|mi G<|gon G<|ole G G<|isf (by omega)<|ptb G G<|ab G<|?_
   exact rt1 rfl rfl ⟨⟨false,rfl,by simp [h1]⟩,rfl⟩
 ·refine mi G<|oge G G<|isf (by omega)<|mb G<|gof G<|gof G<|pfb G G<|ab G<|?_
  exact rt1 rfl rfl ⟨⟨false,rfl,by simp [h0]⟩,rfl⟩
theorem Rise.asc {n : Int} {s : Nat} {l : List Int} (hn : n = s) (h : Rise n l) : Asc s l := by
 subst hn
 exact ⟨h.2,fun i a b ha hb => h.lt (Nat.lt_succ_self i) ha hb⟩
theorem check5 (v s : Int) (st fi : List Int) (es : List Ed) (SA FA EA : Option Addr) (cs cf ce : Nat) (w : World) (hs61 : s ≤ 61) (hst : (Kd.int .i64).C w SA st.length st) (hfi : (Kd.int .i64).C w FA fi.length fi) (hes : Ed.kd.C w EA es.length es) (hby : ∀ e ∈ es,(0 ≤ e.care ∧ e.care ≤ 255) ∧ 0 ≤ e.want ∧ e.want ≤ 255) :
  Calls Tryz.prog 5 #[.agg #[.int .i64 v,.int .i64 s,.slice SA st.length cs,.slice FA fi.length cf,.slice EA es.length ce]] w fun e w' => ∃ code : Int,e = .returned (.int .i64 code) ∧ (code = 0 → ∃ n : Na,n.Ok ∧ (n.vars : Int) = v ∧ (n.states : Int) = s ∧ n.start = st ∧ n.fin = fi ∧ n.edges = es) ∧ Below w.heap.size w w' := by
 refine enter 40 Tryz.func5 G G _ (by simp) ?_
 refine obx (cs := [.int .i64 v,.int .i64 s,.slice SA st.length cs,.slice FA fi.length cf,.slice EA es.length ce]) G G ?_
 intro b w1 hbe hbb hb1
 refine ai G<|?_
 have hne : ∀ {P : Prop} {k : Int},k ≠ 0 → (k = 0 → P) := fun h e => absurd e h
 have hc0 : w1.cell? ⟨b,0 + 0,none⟩ = some (.int .i64 v) := (Ac hbb 0).trans rfl
 have hc1 : w1.cell? ⟨b,0 + 1,none⟩ = some (.int .i64 s) := (Ac hbb 1).trans rfl
 have hc2 : w1.cell? ⟨b,0 + 2,none⟩ = some (.slice SA st.length cs) := (Ac hbb 2).trans rfl
 have hc4 : w1.cell? ⟨b,0 + 4,none⟩ = some (.slice EA es.length ce) := (Ac hbb 4).trans rfl
 refine ofa DQ G<|old G3 G ‹_›<|cl C21 [] G ((vars21 v w1).mono ?_)
 rintro e w1 ⟨⟨bv,rfl,hbv⟩,rfl⟩
 refine ⟨_,rfl,?_⟩
 cases bv
 ·refine ont G<|cdt G<|ai G<|?_
  exact rt1 rfl rfl ⟨7,rfl,hne (by decide),hb1⟩
 have hv := hbv.1 rfl
 refine ont G<|cdf G ?_
 by_cases h0 : s < 0
 ·refine ofa Dq G<|old G3 G ‹_›<|olt G G<|ist h0<|cdt G<|ai G<|?_
  exact rt1 rfl rfl ⟨1,rfl,hne (by decide),hb1⟩
 refine ofa Dq G<|old G3 G ‹_›<|olt G G<|isf h0<|cdf G ?_
 by_cases he : 512 < es.length
 ·refine ofa Dq G<|old G3 G ‹_›<|ogt G G<|isf (by omega)<|mb G<|gon G<|ofa Dz G<|gon G<|old G23 G ‹_›<|gon G<|oln U23 G<|gon G<|ogt G G<|ist (by omega)<|pfb G G<|?_
  refine cdt G<|ai G<|?_
  exact rt1 rfl rfl ⟨4,rfl,hne (by decide),hb1⟩
 refine ofa Dq G<|old G3 G ‹_›<|ogt G G<|isf (by omega)<|mb G<|gon G<|ofa Dz G<|gon G<|old G23 G ‹_›<|gon G<|oln U23 G<|gon G<|ogt G G<|isf (by omega)<|pfb G G<|?_
 refine cdf G<|ofa EG G<|old G22 G ‹_›<|ofa Dq G<|old G3 G ‹_›<|cl C22 [] G ((Iq SA cs s st w1 (Kd.C_below hst hb1)).mono ?_)
 rintro e w2 ⟨b1,rfl,h1,hb2⟩
 refine ⟨_,rfl,?_⟩
 have hB := Ad hb1 hb2
 have hbb := Ab hbb hb2
 clear hb1 hb2 hc0 hc1 hc2 hc4
 have hc1 : w2.cell? ⟨b,0 + 1,none⟩ = some (.int .i64 s) := (Ac hbb 1).trans rfl
 have hc3 : w2.cell? ⟨b,0 + 3,none⟩ = some (.slice FA fi.length cf) := (Ac hbb 3).trans rfl
 cases b1 with
 | false =>
  refine ont G<|mb G<|gof G<|gof G<|gof G<|gof G<|gof G<|gof G<|ptb G G<|cdt G<|ai G<|?_
  exact rt1 rfl rfl ⟨8,rfl,hne (by decide),hB⟩
 | true =>
  have h1 := h1 rfl
  refine ont G<|mb G<|gon G<|ofa Fl G<|gon G<|old G22 G ‹_›<|gon G<|ofa Dq G<|gon G<|old G3 G ‹_›<|gon G<|cl C22 [] G ((Iq FA cf s fi w2 (Kd.C_below hfi hB)).mono ?_)
  rintro e w3 ⟨b2,rfl,h2,hb3⟩
  refine ⟨_,rfl,?_⟩
  have hB := Ad hB hb3
  have hbb := Ab hbb hb3
  clear hb3 hc1 hc3
  cases b2 with
  | false =>
   refine gon G<|ont G<|pfb G G<|cdt G<|ai G<|?_
   exact rt1 rfl rfl ⟨8,rfl,hne (by decide),hB⟩
  | true =>
   have h2 := h2 rfl
   refine gon G<|ont G<|pfb G G<|cdf G ?_
   have hc0 : w3.cell? ⟨b,0 + 0,none⟩ = some (.int .i64 v) := (Ac hbb 0).trans rfl
   have hc1 : w3.cell? ⟨b,0 + 1,none⟩ = some (.int .i64 s) := (Ac hbb 1).trans rfl
   have hc4 : w3.cell? ⟨b,0 + 4,none⟩ = some (.slice EA es.length ce) := (Ac hbb 4).trans rfl
   refine ofa Dz G<|old G23 G ‹_›<|ofa DQ G<|old G3 G ‹_›<|ofa Dq G<|old G3 G ‹_›<|cl C23 [] G ((edges23 EA ce es v s w3 (Kd.C_below hes hB) hby).mono ?_)
   rintro e w4 ⟨code,rfl,hcode,hb4⟩
   refine ⟨_,rfl,?_⟩
   refine ai G<|rt1 G G ⟨code,rfl,fun hz => ?_,Ad hB hb4⟩
   have h3 := hcode hz
   obtain ⟨vn,rfl⟩ : ∃ vn : Nat,v = vn := ⟨v.toNat,by omega⟩
   obtain ⟨sn,rfl⟩ : ∃ sn : Nat,s = sn := ⟨s.toNat,by omega⟩
   refine ⟨⟨vn,sn,st,fi,es⟩,⟨by show vn ≤ 6; omega,by show sn ≤ 61; omega,by show es.length ≤ 512; omega,Rise.asc G h1,Rise.asc G h2,fun e he => ?_⟩,rfl,rfl,rfl,rfl,rfl⟩
   obtain ⟨a0,a1,a2,a3,p,q,hp,hq,ho,ha⟩ := h3 e he
   exact ⟨⟨a0,a1⟩,⟨a2,a3⟩,p,q,hp,hq,by rw [Int.toNat_natCast] at ho; exact ho,ha⟩
end
end Go.Proofs.YtmjllchdhcdinaaGreatDoor

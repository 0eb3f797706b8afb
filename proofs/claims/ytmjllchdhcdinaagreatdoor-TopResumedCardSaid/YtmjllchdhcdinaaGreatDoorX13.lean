/- Part of the proof: D3 V1 V2 E3 E4 E5 E6 V3 V4 V5 W1. -/
import Derived.Test.YtmjllchdhcdinaaGreatDoorX12
set_option linter.unusedVariables false
set_option linter.unusedSimpArgs false
set_option maxRecDepth 100000
set_option maxHeartbeats 8000000
namespace Go.Proofs.YtmjllchdhcdinaaGreatDoor
section
open Go Fm Go.RowKit Go.Proofs.YtmjllchdhcdinaaGreatDoorW.PrintWords
theorem I7 {m : Nat} {P : Program} {f : Fm m} {ty t t' : Nat} {y : Operand} {yk : IntKind} {b : Nat} (hy : ex f y = .int yk (b : Nat)) (hb : b < 62) : Pv P (.binOp .shl t (.const (.int .i64 1)) y t') ty f (.int .i64 ((2 ^ b : Nat) : Int)) := by
 have h := JI (P := P) (t := t) (t' := t') (ty := ty) (f := f) (x := .const (.int .i64 1)) (k := .i64) (a := 1) rfl hy (by show b < 64; omega) (by rw [Nat.one_mul]; exact Nat.pow_lt_pow_right (by decide) (by show b < 63; omega))
 rw [Nat.one_mul] at h
 exact h
abbrev dcs (v st : Nat) (NA FA : Option Addr) (nn nc fn fc : Nat) : List Value := [.int .i64 (v : Nat),.int .i64 (st : Nat),.slice NA nn nc,.slice FA fn fc]
theorem FK : ∀ s,s < 32 → (bitsW s).length ≤ 32 := by
 have h : ∀ f s,s ≤ f → (bitsW s).length ≤ s := by
  intro f
  induction f with
  | zero => intro s hs; have : s = 0 := (by omega); subst this; rw [CL]; simp
  | succ f ih =>
   intro s hs
   by_cases h0 : s = 0
   ·subst h0; rw [CL]; simp
   ·rw [EQ h0]
    have := CR h0
    have := ih (s &&& (s - 1)) (by omega)
    simp only [List.length_cons]
    omega
 intro s hs
 have := h s s (Nat.le_refl _)
 omega
theorem Cw : ∀ (N : Nat) (o : List Nat),o.Nodup → (∀ u ∈ o,u < N) → o.length ≤ N
 | 0,[],_,_ => Nat.le_refl _
 | 0,u :: o,_,h => absurd (h u (List.mem_cons_self ..)) (Nat.not_lt_zero _)
 | N + 1,o,hn,h => by
  by_cases hm : N ∈ o
  ·have h1 := Cw N (o.erase N) (hn.erase N) (fun u hu => by
    have h2 := h u (List.mem_of_mem_erase hu)
    have h3 : u ≠ N := fun e => by subst e; exact (List.Nodup.mem_erase_iff hn).1 hu |>.1 rfl
    omega)
   rw [List.length_erase_of_mem hm] at h1
   omega
  ·have h1 := Cw N o hn (fun u hu => by
    have h2 := h u hu
    have h3 : u ≠ N := fun e => hm (e ▸ hu)
    omega)
   omega
def Na.subs (n : Na) (K : Nat) : List Nat := AZ n.step (2 ^ n.vars) (AR n.start) K
theorem det7 (n : Na) (hn : n.Ok) (hn5 : n.states ≤ 5) (SA FA EA : Option Addr) (cs cf ce : Nat) (w : World) (hr : NR n w SA FA EA) (hG : Glob w) :
  Calls Tryz.prog 7 #[.agg (n.vals SA FA EA cs cf ce).toArray,.int .i64 (4096 : Nat)] w fun e w' => ∃ NA nc BA bc LA lc K,e = .returned (.tuple #[.agg (dcs n.vars 0 NA BA K nc K bc).toArray,.slice LA K lc,.int .i64 0]) ∧ (n.subs K).length = K ∧
   Kii.R 22 w' w.heap.size (fun _ => True) (.slice NA K nc) (Cg n.step (2 ^ n.vars) (AR n.start) K) ∧ Kd.bool.R 4 w' w.heap.size (fun _ => True) (.slice BA K bc) ((n.subs K).map fun s => decide (s &&& AR n.fin ≠ 0)) ∧ Kii.R 22 w' w.heap.size (fun _ => True) (.slice LA K lc) ((n.subs K).map bitsW) ∧ Below w.heap.size w w' := by
 have hns := hn.s
 have hsl := hn.start.length
 have hfl := hn.fin.length
 have h32 : 2 ^ n.states ≤ 32 := Nat.pow_le_pow_right (n := 2) (by decide) hn5
 have h64 : 2 ^ n.vars ≤ 64 := Nat.pow_le_pow_right (n := 2) (by decide) hn.v
 have hst32 : AR n.start < 32 := by
  unfold AR
  suffices ∀ (l : List Int) (s : Nat),(∀ k ∈ l,0 ≤ k ∧ k < n.states) → s < 2 ^ n.states → l.foldl (fun s k => s ||| 2 ^ k.toNat) s < 2 ^ n.states from Nat.lt_of_lt_of_le (this _ _ hn.start.bnd (Nat.two_pow_pos _)) h32
  intro l
  induction l with
  | nil => exact fun s _ hs => hs
  | cons k l ih =>
   intro s hl hs
   refine ih _ (fun x hx => hl x (List.mem_cons_of_mem _ hx)) (Nat.or_lt_two_pow hs ?_)
   have := hl k (List.mem_cons_self ..)
   exact Nat.pow_lt_pow_right (by decide) (by omega)
 refine enter 86 Tryz.func7 G G _ (by simp) ?_
 refine obx (cs := n.vals SA FA EA cs cf ce) G G ?_
 intro bn w1 hne hnb hb1
 refine oal (v := .agg (dcs 0 0 none none 0 0 0 0).toArray) (cs := dcs 0 0 none none 0 0 0 0) (fun _ => by kernel_rfl) G ?_
 intro bd w2 hde hdb hb2
 have hbdl := Am hdb
 have hbnl := Am hnb
 have hnb := Ab hnb hb2
 have hB := Ad hb1 hb2
 refine asl G<|ai G<|AV (vs := n.vals SA FA EA cs cf ce) G25 S25 G (Ak hnb)<|cl C30 [] G ((Gh n hn SA FA EA cs cf ce w2 (hr.below hB)).mono ?_)
 rintro e w3 ⟨rfl,hb3⟩
 refine ⟨_,rfl,?_⟩
 have hnb := Ab hnb hb3
 have hdb := Ab hdb hb3
 have hB := Ad hB hb3
 refine ai G<|mi G<|one G G<|isf (by omega)<|?_
 refine cdf G<|mi G<|olt G G<|isf (by omega)<|mb G<|gon G<|mi G<|gon G<|ogt G G<|isf (by omega)<|pfb G G<|?_
 refine cdf G ?_
 have hc2 : w3.cell? ⟨bn,0 + 2,none⟩ = some (.slice SA n.start.length cs) := (Ac hnb 2).trans rfl
 refine ofa EG G<|old G22 G ‹_›<|cl C31 [] G ((K5 SA cs n.start w3 (hr.below hB).start (hn.start.small hn.s) (by omega)).mono ?_)
 rintro e w4 ⟨r,rfl,hr4,hb4⟩
 obtain ⟨A4,m4,c4,rfl,_,_⟩ := id hr4
 refine ⟨_,rfl,?_⟩
 have hs1 := hb1.size
 have hs2 := hb2.size
 have hs3 := hb3.size
 have hs4 := hb4.size
 have hnb := Ab hnb hb4
 have hdb := Ab hdb hb4
 have hB := Ad hB hb4
 refine BV kset w3.heap.size (p := AR n.start) (okp := fun _ => True) (AJ (u := .slice A4 m4 c4) U84 I82 G G) ⟨_,rfl,hr4.setM (fun _ _ _ => trivial)⟩ rfl hs4 ?_
 intro A5 c5 w5 hR5 hb5
 have hs5 := hb5.size
 have hnb := Ab hnb hb5
 have hdb := Ab hdb hb5
 have hB := Ad hB hb5
 refine oal (v := .slice none 0 0) (cs := [.slice none 0 0]) (fun _ => by kernel_rfl) G ?_
 intro ba w6 hae hab hb6
 have hbal := Am hab
 have hs6 := hb6.size
 refine Bc (v := .slice A5 1 c5) (cs := [.slice none 0 0]) (i := 0) S84 G G G hab (by simp) ?_
 intro w7 hab7 hg7
 have hb57 : Below w5.heap.size w5 w7 := hb6.grown hg7 hb6.size (fun k e => by cases e; omega)
 have hnb := Ab hnb hb57
 have hdb := Ab hdb hb57
 have hB := Ad hB hb57
 have hR7 := Kd.R_below hR5 hb57
 have hs7 := hb57.size
 obtain ⟨ad5,v5,rfl,hv5,hcell5⟩ := Fd (Kd.R_reads' hR7).2.2 (k := 0) rfl
 obtain ⟨A5',m5',c5',rfl,_,_⟩ := id hv5
 have hca : w7.cell? ⟨ba,0,none⟩ = some (.slice (some ad5) 1 c5) := (Ac hab7 0).trans rfl
 refine Kh ?_
 intro w8 hm8 hb8
 have hs8 := hb8.size
 have hca := Ae hb8 hca
 have hcell5 := Ae hb8 hcell5
 have hnb := Ab hnb hb8
 have hdb := Ab hdb hb8
 have hab8 := Ab hab7 hb8
 have hB := Ad hB hb8
 have hR8 := Kd.R_below hR7 hb8
 have hv8 := hv5.below hb8
 refine old G84 G ‹_›<|oix (i := 0) U84 Z82 G G (by omega) ?_
 refine old G82 G ‹_›<|cl C32 [] G ((KH _ (AR n.start) 0 w8 hv8 (by omega) (hG.below hB)).mono ?_)
 rintro e w9 ⟨rfl,hb9⟩
 refine ⟨_,rfl,?_⟩
 have hs9 := hb9.size
 have hca := Ae hb9 hca
 have hcell5 := Ae hb9 hcell5
 have hnb := Ab hnb hb9
 have hdb := Ab hdb hb9
 have hab9 := Ab hab8 hb9
 have hB := Ad hB hb9
 have hR9 := Kd.R_below hR8 hb9
 have hm9 := hm8.below hb9
 have hmlt := hm8.lt
 generalize hrk : w7.heap.size = rk at hm9 hmlt
 refine opi US9 LB G G G hm9 G ?_
 intro w10 hm10 hg10
 have hs10 := hg10.size
 have hnb := hm9.cells hg10 hnb
 have hdb := hm9.cells hg10 hdb
 have hab10 := hm9.cells hg10 hab9
 have hR10 := hm9.row hg10 hR9
 have hB := hB.grown hg10 hB.size (fun k e => by cases e; omega)
 refine mm G<|oal (v := .map none) (cs := [.map none]) (fun _ => by kernel_rfl) G ?_
 intro bk w11 hke hkb hb11
 have hbkl := Am hkb
 have hs11 := hb11.size
 refine Bc (v := .map (some rk)) (cs := [.map none]) (i := 0) S86 G G G hkb (by simp) ?_
 intro w12 hkb12 hg12
 have hb1012 : Below w10.heap.size w10 w12 := hb11.grown hg12 hb11.size (fun k e => by cases e; omega)
 have hs12 := hb1012.size
 have hs12' := hg12.size
 have hnb := Ab hnb hb1012
 have hdb := Ab hdb hb1012
 have hab12 := Ab hab10 hb1012
 have hB := Ad hB hb1012
 have hR12 := Kd.R_below hR10 hb1012
 have hm12 := hm10.below hb1012
 have hG12 := hG.below hB
 refine pl (.func (.func 33) #[] #[.pointer (some ⟨bn,0,none⟩),.pointer (some ⟨ba,0,none⟩),.pointer (some ⟨bk,0,none⟩)]) (fun _ => by kernel_rfl)<|af G<|?_
 clear hca hcell5 hb8 hb9 hg10 hb11 hg12 hb1012 hR5 hR7 hR8 hR9 hR10 hm8 hm9 hm10 hab hab7 hab8 hab9 hab10 hkb hb57 hb6 hb5 hb4 hb3 hb2 hb1 hv8 hv5
 have hdlt : bd < w3.heap.size := by omega
 obtain ⟨C0,hC0⟩ : ∃ C0 : Nat → Prop,C0 = fun k => k = bn ∨ (w3.heap.size ≤ k ∧ k < w12.heap.size) := ⟨_,rfl⟩
 have hI0 : InvD n SA FA EA cs cf ce w.heap.size bn ba bk rk C0 [AR n.start] w12 := by
  subst hC0
  refine ⟨fun k hk => ?_,hnb,⟨_,c5,hab12,?_⟩,hkb12,hm12,.inl rfl,.inr ⟨by omega,by omega⟩,.inr ⟨by omega,by omega⟩,.inr ⟨by omega,by omega⟩,by omega,by omega,hG12⟩
  ·rcases hk with rfl | h
   ·omega
   ·exact h.2
  ·exact Kd.R_lower (Kd.R_mono (Kd.R_bound hR12) (fun k hk => .inr ⟨hk.2.1,hk.2.2.1⟩)) (by omega)
 have E : Expl (fun s => strOfNums (BR s)) n.step (2 ^ n.vars) 32 (AR n.start) (· < 32) w.heap.size w 33 [.pointer (some ⟨bn,0,none⟩),.pointer (some ⟨ba,0,none⟩),.pointer (some ⟨bk,0,none⟩)] (InvD n SA FA EA cs cf ce w.heap.size bn ba bk rk) :=
  {hL := ⟨Nat.two_pow_pos _,h64⟩
   hN := by decide
   callable := ⟨_,Tryz.func33,by kernel_rfl,by kernel_rfl⟩
   move := fun C o V V' _ hI hb hs hm => hI.move hG.lt hG hb hs hm
   lt := fun C o V hI => hI.bnd
   start := hst32
   closed := fun s x _ _ => Nat.lt_of_lt_of_le (Na.step_lt hn s x) h32
   inj := Ht
   many := fun o hn h => Cw 32 o hn h
   next := fun C o k s x V hB hI hk hx hP ho => next33 n hn hn5 SA FA EA cs cf ce bn ba bk rk w hG.lt hG hr C o k s x V hB hI hk hx hP ho }
 obtain ⟨Aa,ca,haa,hRa⟩ := hI0.arow
 obtain ⟨ada,va,rfl,hva,hcella⟩ := Fd (Kd.R_reads' hRa).2.2 (k := 0) rfl
 obtain ⟨Av,mv,cv,rfl,_,_⟩ := id hva
 have hca : w12.cell? ⟨ba,0,none⟩ = some (.slice (some ada) 1 ca) := (Ac haa 0).trans rfl
 have hcv : w12.cell? ⟨bn,0 + 0,none⟩ = some (.int .i64 (n.vars : Nat)) := (Ac hnb 0).trans rfl
 refine Bv 9 mixed (fun V => V.cell? ⟨bn,0 + 0,none⟩ = some (.int .i64 (n.vars : Nat)) ∧ V.cell? ⟨ba,0,none⟩ = some (.slice (some ada) 1 ca) ∧ V.cell? (ada.add (0 * 1)) = some (.slice Av mv cv)) ?_
 intro w13 hb13 _ _
 have hS := (⟨Ae hb13 hcv,Ae hb13 hca,Ae hb13 hcella⟩ : w13.cell? ⟨bn,0 + 0,none⟩ = some (.int .i64 (n.vars : Nat)) ∧ w13.cell? ⟨ba,0,none⟩ = some (.slice (some ada) 1 ca) ∧ w13.cell? (ada.add (0 * 1)) = some (.slice Av mv cv))
 have hs13 := hb13.size
 refine Ay 0 G (by kernel_rfl) (fun _ _ _ h => h) G (fun v _ => AQ DQ G v) hS<|Ay 1 G (by kernel_rfl) (fun _ _ _ h => h) G (fun v hv => Ai G3 G hv.1) hS<|Ay 2 G (by kernel_rfl) (fun _ _ _ h => h) G (fun v _ => I7 G (by have := hn.v; omega) v) hS<|?_
 refine Ay 3 G (by kernel_rfl) (fun _ _ _ h => h) G (fun v _ => mi_ G v) hS<|Ay 4 G (by kernel_rfl) (fun _ _ _ h => h) G (fun v hv => Ai G84 G hv.2.1) hS<|Ay 5 G (by kernel_rfl) (fun _ _ _ h => h) G (fun v _ => Ki (i := 0) U84 Z82 G G (by omega) v) hS<|?_
 refine Ay 6 G (by kernel_rfl) (fun _ _ _ h => h) G (fun v hv => Ai G82 G hv.2.2) hS<|Ay 8 G (by kernel_rfl) (fun _ _ _ h => h) G (fun v _ => mf_ G v) hS<|Aq 7 (by kernel_rfl) G<|cl C32 [] G ((KH _ (AR n.start) 0 w13 (hva.below hb13) (by omega) (hG12.below hb13)).mono ?_)
 rintro e w14 ⟨rfl,hb14⟩
 refine ⟨_,rfl,fun _ => ⟨Ae hb14 hS.1,Ae hb14 hS.2.1,Ae hb14 hS.2.2⟩,?_⟩
 have hb1214 := Ad hb13 hb14
 have hs14 := hb1214.size
 have hB14 := Ad hB hb1214
 refine Aq 9 (by kernel_rfl) G ?_
 have hI14 := hI0.move hG.lt hG hB14 hs14 (fun k hk => hb1214.block k (hI0.bnd k hk))
 refine cl (⟨_,Tryz.func35,by kernel_rfl,by kernel_rfl⟩ : Ag Tryz.prog 35) [] G ((HA E 4096 (by decide) C0 w14 hB14 (by omega) hI14).mono ?_)
 rintro e w15 ⟨NA,nc,K,C',rfl,hK,hRn,hI15,hsub,hold,hB15⟩
 refine ⟨_,rfl,fun h => absurd h (by decide),?_⟩
 refine CN (by kernel_rfl) ?_
 have hS : True := trivial
 refine Aj 10 G (by kernel_rfl) (fun _ _ _ h => h) G (fun v _ => mv_ G v) hS<|Aj 11 G (by kernel_rfl) (fun _ _ _ h => h) G (fun v _ => Ef G G v) hS<|Aj 12 G (by kernel_rfl) (fun _ _ _ h => h) G (fun v _ => Ef G G v) hS<|Aj 13 G (by kernel_rfl) (fun _ _ _ h => h) G (fun v _ => K7 G v) hS<|Aj 14 G (by kernel_rfl) (fun _ _ _ h => h) G (fun v _ => ab_ G v) hS<|AY (by kernel_rfl) ?_
 clear hS
 have hbd15 : w15.heap[bd]? = some (.cells (dcs 0 0 none none 0 0 0 0).toArray 35 (0,0)) := by
  have h1 : w14.heap[bd]? = some (.cells (dcs 0 0 none none 0 0 0 0).toArray 35 (0,0)) := Ab hdb hb1214
  refine (hold bd (Am h1) (fun hc => ?_)).trans h1
  subst hC0
  rcases hc with h | h
  ·omega
  ·omega
 have hnd : ¬ C' bd := fun hc => by
  rcases hsub bd hc with h | h
  ·subst hC0
   rcases h with h | h <;> omega
  ·omega
 have hnb15 := hI15.nblk
 obtain ⟨Az,cz,haz,hRz⟩ := hI15.arow
 have hz0 : w15.cell? ⟨ba,0,none⟩ = some (.slice Az (n.subs K).length cz) := (Ac haz 0).trans rfl
 have hG15 := hI15.glob
 have hs15 := hB15.size
 have hbdw : w.heap.size ≤ bd := by omega
 clear hdb hnb hI0 hR12 hm12 hRa hva hcella hca hcv hb13 hb14 hb1214 hI14 hold hkb12 hab12 haa
 refine mb G<|ont G<|cdf G ?_
 have hc3 : w15.cell? ⟨bn,0 + 3,none⟩ = some (.slice FA n.fin.length cf) := (Ac hnb15 3).trans rfl
 refine ofa Fl G<|old G22 G ‹_›<|cl C31 [] G ((K5 FA cf n.fin w15 (hr.below hB15).fin (hn.fin.small hn.s) (by omega)).mono ?_)
 rintro e w16 ⟨rf,rfl,hrf,hb16⟩
 obtain ⟨Af,mf_,cf',rfl,_,_⟩ := id hrf
 refine ⟨_,rfl,?_⟩
 have hs16 := hb16.size
 refine asl G<|?_
 have hc0 : w16.cell? ⟨bn,0 + 0,none⟩ = some (.int .i64 (n.vars : Nat)) := (Ac (Ab hnb15 hb16) 0).trans rfl
 refine ofa DQ G<|old G3 G ‹_›<|ms G<|ofa CE G<|Bc (v := .int .i64 (n.vars : Nat)) (cs := dcs 0 0 none none 0 0 0 0) (i := 0 + 0) S3 G G G (Ab hbd15 hb16) (by simp) ?_
 intro w17 hd17 hg17
 have hd17 : w17.heap[bd]? = some (.cells (dcs n.vars 0 none none 0 0 0 0).toArray 35 (0,0)) := hd17
 refine ofa Bz G<|Bc (v := .slice NA K nc) (cs := dcs n.vars 0 none none 0 0 0 0) (i := 0 + 2) S27 G G G hd17 (by simp) ?_
 intro w18 hd18 hg18
 have hd18 : w18.heap[bd]? = some (.cells (dcs n.vars 0 NA none K nc 0 0).toArray 35 (0,0)) := hd18
 have hB16 := Ad hB15 hb16
 have hd16 := Ab hbd15 hb16
 have hww14 : w.heap.size ≤ w14.heap.size := by omega
 have hB17 := hB16.grown hg17 hB16.size (fun k e => by cases e; omega)
 have hB18 := hB17.grown hg18 hB17.size (fun k e => by cases e; omega)
 have hs1618 : w16.heap.size ≤ w18.heap.size := Nat.le_trans hg17.size hg18.size
 have hz16 := Ab haz hb16
 have hz18 : w18.heap[ba]? = some (.cells #[.slice Az (n.subs K).length cz] 84 (0,0)) := by
  have h1 := (hg17.block ba (Am hz16) (fun e => An hz16 hd16 (by decide) (by injection e))).trans hz16
  exact (hg18.block ba (Am h1) (fun e => An h1 hd17 (by decide) (by injection e))).trans h1
 have hRz18 : kset.R 82 w18 w.heap.size (fun _ => True) (.slice Az (n.subs K).length cz) (n.subs K) := Kd.R_mono (Ah (Ah (Kd.R_below hRz hb16) hd16 (by decide) hg17) hd17 (by decide) hg18) (fun _ _ => trivial)
 have hRn16 : Kii.R 22 w16 w.heap.size (fun k => k < w16.heap.size) (.slice NA K nc) (Cg n.step (2 ^ n.vars) (AR n.start) K) := Kd.R_lower (Kd.R_mono (Kd.R_bound (Kd.R_below hRn hb16)) (fun k hk => hk.2.2.1)) hww14
 have hRn18 := Ah (Ah hRn16 hd16 (by decide) hg17) hd17 (by decide) hg18
 have hf18 := (hrf.block hd16 (by decide) hg17).block hd17 (by decide) hg18
 have hsub32 : ∀ u ∈ n.subs K,u < 32 := DM n.step (P := (· < 32)) hst32 (fun s x _ _ => Nat.lt_of_lt_of_le (Na.step_lt hn s x) h32) K
 have hf62 : AR n.fin < 4611686018427387904 := D9 (hn.fin.small hn.s)
 have hKle : K ≤ 32 := by
  have h1 := Cw 32 (n.subs K) (B4 n.step (2 ^ n.vars) (AR n.start) K) hsub32
  have h2 : (n.subs K).length = K := hK
  omega
 have hK' : (n.subs K).length = K := hK
 generalize hm16 : w16.heap.size = m16 at hRn18 hs1618
 have hm16w : w.heap.size ≤ m16 := by omega
 have hbm : bd < m16 := by have := Am hd16; omega
 clear hB14 hI15 hRz haz hnb15 hRn hb16 hrf hd16 hd17 hg17 hg18 hz16 hRn16 hB15 hB16 hB17 hc0 hz0 hc3 E hsub hC0 hnd hG12 hB hs14 hs13 hs12 hs12' hs11 hs10 hs9 hs8 hs7 hs6 hs5 hs4 hs3 hs2 hs1 hbkl hbal hbnl hbdl hmlt hrk hae hke hne hde hdlt hww14 hs15 hs16 hr4 hm16
 have hz : w18.cell? ⟨ba,0,none⟩ = some (.slice Az (n.subs K).length cz) := (Ac hz18 0).trans rfl
 refine old G84 G ‹_›<|oln U84 G<|mi G<|lp (σ := Nat × (Option Addr × Nat) × (Option Addr × Nat)) (fun q => [(4,.pointer (some ⟨bd,0,none⟩)),(5,.slice q.2.2.1 q.1 q.2.2.2),(13,.slice Af mf_ cf'),(64,.slice Az (n.subs K).length cz),(65,.int .i64 (n.subs K).length),(66,.int .i64 q.1)])
  (fun q V => q.1 ≤ (n.subs K).length ∧ Below w.heap.size w V ∧ m16 ≤ V.heap.size ∧ V.heap[bd]? = some (.cells (dcs n.vars 0 NA q.2.1.1 K nc q.1 q.2.1.2).toArray 35 (0,0)) ∧ kset.R 82 V w.heap.size (fun _ => True) (.slice Az (n.subs K).length cz) (n.subs K) ∧ Kii.R 22 V w.heap.size (fun k => k < m16) (.slice NA K nc) (Cg n.step (2 ^ n.vars) (AR n.start) K) ∧ SetB V w15.heap.size (.slice Af mf_ cf') (AR n.fin) ∧
   Kd.bool.R 4 V w.heap.size (fun _ => True) (.slice q.2.1.1 q.1 q.2.1.2) (((n.subs K).take q.1).map fun s => decide (s &&& AR n.fin ≠ 0)) ∧ Kii.R 22 V m16 (fun _ => True) (.slice q.2.2.1 q.1 q.2.2.2) (((n.subs K).take q.1).map bitsW)) (fun q => (n.subs K).length - q.1) (0,(none,0),(none,0)) ⟨rfl,rfl,rfl,rfl,rfl,rfl,rfl⟩ ⟨Nat.zero_le _,hB18,hs1618,hd18,hRz18,hRn18,hf18,Kd.R_nil _ _ _ _ _,Kd.R_nil _ _ _ _ _⟩ ?_
 clear hB18 hs1618 hd18 hRz18 hRn18 hf18 hz hz18 hG15
 rintro ⟨k,⟨BA,bc⟩,⟨LA,lc⟩⟩ f V ⟨hk,hB,hsV,hd,hRz,hRn,hf,hRb,hRl⟩
 simp only at hk hd hRb hRl
 refine olt G G<|cdd G (fun hlt0 => ?_) (fun hge0 => ?_)
 ·have hlt : k < (n.subs K).length := Int.ofNat_lt.1 hlt0
  obtain ⟨s,hs⟩ : ∃ s,(n.subs K)[k]? = some s := ⟨_,gE hlt⟩
  have hs32 := hsub32 s (List.mem_of_getElem? hs)
  obtain ⟨ad,v,rfl,hsv,hcell⟩ := Fd (Kd.R_reads' hRz).2.2 hs
  obtain ⟨As,mq,cs',rfl,_,_⟩ := id hsv
  have htake : (n.subs K).take (k + 1) = (n.subs K).take k ++ [s] := by rw [List.take_succ_eq_append_getElem hlt]; rw [gE hlt] at hs; injection hs with hs; rw [hs]
  have htl : ((n.subs K).take k).length = k := by rw [List.length_take]; omega
  refine AD U84 Z82 G G (by first | assumption | omega)<|old G82 G ‹_›<|asl G<|?_
  have hwV := hB.size
  refine cut (σ := (Option Addr × Nat)) (fun q => [(4,.pointer (some ⟨bd,0,none⟩)),(5,.slice LA k lc),(13,.slice Af mf_ cf'),(15,.slice As mq cs'),(64,.slice (some ad) (n.subs K).length cz),(65,.int .i64 (n.subs K).length),(66,.int .i64 k)])
   (fun q V => Below w.heap.size w V ∧ m16 ≤ V.heap.size ∧ V.heap[bd]? = some (.cells (dcs n.vars 0 NA q.1 K nc (k + 1) q.2).toArray 35 (0,0)) ∧ kset.R 82 V w.heap.size (fun _ => True) (.slice (some ad) (n.subs K).length cz) (n.subs K) ∧ Kii.R 22 V w.heap.size (fun k => k < m16) (.slice NA K nc) (Cg n.step (2 ^ n.vars) (AR n.start) K) ∧ SetB V w15.heap.size (.slice Af mf_ cf') (AR n.fin) ∧ SetB V 0 (.slice As mq cs') s ∧
    Kd.bool.R 4 V w.heap.size (fun _ => True) (.slice q.1 (k + 1) q.2) (((n.subs K).take (k + 1)).map fun s => decide (s &&& AR n.fin ≠ 0)) ∧ Kii.R 22 V m16 (fun _ => True) (.slice LA k lc) (((n.subs K).take k).map bitsW)) (by repeat' (first | exact BB | exact BD | exact Bl | refine Bi ?_ ?_ | refine Bk ?_ | refine Bj ?_ | refine AX _ ?_)) ?_ ?_
  ·refine Bv 8 mixed (fun V => V.cell? ⟨bd,0 + 3,none⟩ = some (.slice BA k bc)) ?_
   intro V1 hb1 _ _
   have hS : V1.cell? ⟨bd,0 + 3,none⟩ = some (.slice BA k bc) := Ae hb1 ((Ac hd 3).trans rfl)
   refine Ay 0 G (by kernel_rfl) (fun _ _ _ h => h) G (fun v _ => AQ BP G v) hS<|Ay 1 G (by kernel_rfl) (fun _ _ _ h => h) G (fun v hv => Ai G33 G hv) hS<|Ay 2 G (by kernel_rfl) (fun _ _ _ h => h) G (fun v _ => ms_ G v) hS<|Ay 3 G (by kernel_rfl) (fun _ _ _ h => h) G (fun v _ => ms_ G v) hS<|Aq 4 (by kernel_rfl) G<|cl C36 [] G ((DZ _ _ s (AR n.fin) 0 _ V1 (hsv.below hb1) (hf.below hb1) (by omega) hf62).mono ?_)
   rintro e V2 ⟨rfl,hb2⟩
   have hb12 := Ad hb1 hb2
   have hS := Ae hb2 hS
   refine ⟨_,rfl,fun _ => hS,?_⟩
   have hs2 := hb12.size
   refine Aq 5 (by kernel_rfl) G<|BV Kd.bool V2.heap.size (p := decide (s &&& AR n.fin ≠ 0)) (okp := fun _ => True) (AJ (u := .bool (decide (s &&& AR n.fin ≠ 0))) U33 I4 G G) G G (Nat.le_refl _) ?_
   intro B3 c3 V3 hR3 hb3
   have hb13 := Ad hb12 hb3
   have hS := Ae hb3 hS
   refine ⟨fun _ => hS,?_⟩
   refine Aq 6 (by kernel_rfl) G ?_
   have hRb3 := Kd.R_below hRb hb13
   refine BW Kd.bool (Rr := Kd.bool.K V3) U33 I4 G (by decide) (by decide) G G hRb3 (Kd.R_reads' hR3).2.2 (okp := fun i => some i ≠ (Value.slice BA k bc).ownBlock) (fun _ _ h => h) (fun _ h => ⟨trivial,h⟩) (fun _ _ => trivial) (Nat.le_trans hwV hb13.size) (by rw [List.length_map,htl]; omega) ?_
   intro A4 c4 V4 hR4 hg4
   have hd3 := Ab hd hb13
   have hd4 : V4.heap[bd]? = some (.cells (dcs n.vars 0 NA BA K nc k bc).toArray 35 (0,0)) := (hg4.block bd (Am hd3) (fun e => by
    obtain ⟨cells,hc⟩ := Kd.R_typed hRb3 bd e.symm
    exact An hd3 hc (by decide) rfl)).trans hd3
   have hl4 : (((n.subs K).take k).map (fun s => decide (s &&& AR n.fin ≠ 0)) ++ [decide (s &&& AR n.fin ≠ 0)]).length = k + 1 := by rw [List.length_append,List.length_map,htl]; rfl
   have ht4 : ((n.subs K).take k).map (fun s => decide (s &&& AR n.fin ≠ 0)) ++ [decide (s &&& AR n.fin ≠ 0)] = ((n.subs K).take (k + 1)).map (fun s => decide (s &&& AR n.fin ≠ 0)) := by rw [htake]; simp
   rw [hl4] at hR4 ⊢
   rw [ht4] at hR4
   refine ⟨fun _ => (Ac hd4 3).trans rfl,?_⟩
   refine Aq 7 (by kernel_rfl) G<|ofa BP G ⟨fun _ => (Ac hd4 3).trans rfl,?_⟩
   refine Aq 8 (by kernel_rfl) G<|Bc (v := .slice A4 (k + 1) c4) (cs := dcs n.vars 0 NA BA K nc k bc) (i := 0 + 3) S33 G G G hd4 (by simp) ?_
   intro V5 hd5 hg5
   refine ⟨fun h => absurd h (by decide),?_⟩
   refine Bw (by kernel_rfl) ?_
   have hB3 := Ad hB hb13
   have hB4 := hB3.grown hg4 hB3.size (fun k hk => Kd.R_base hRb3 k hk)
   have hs4 := hg4.size
   have hs5 := hg5.size
   have hs3 := hb13.size
   exact ⟨(A4,c4),⟨rfl,rfl,rfl,rfl,rfl,rfl,rfl,rfl⟩,hB4.grown hg5 hB4.size (fun k e => by cases e; exact hbdw),by omega,hd5,
    Ah (Kd.R_over (Kd.R_below hRz hb13) hRb3 (by decide) hg4) hd4 (by decide) hg5,Ah (Kd.R_over (Kd.R_below hRn hb13) hRb3 (by decide) hg4) hd4 (by decide) hg5,
    ((hf.below hb13).own hRb3 (by decide) hg4).block hd4 (by decide) hg5,((hsv.below hb13).own hRb3 (by decide) hg4).block hd4 (by decide) hg5,Ah hR4 hd4 (by decide) hg5,Ah (Kd.R_over (Kd.R_below hRl hb13) hRb3 (by decide) hg4) hd4 (by decide) hg5⟩
  ·rintro ⟨A4,c4⟩ f V2 ⟨hB,hsV,hd,hRz,hRn,hf,hsv,hRb,hRl⟩
   simp only at hd hRb
   have hGV : Glob V2 := hG.below hB
   have hbl := FK s hs32
   refine ms G<|ms G<|cl C37 [] G ((list37 s 0 _ V2 (by omega) hGV hsv (by omega)).mono ?_)
   rintro e V3 ⟨A6,c6,rfl,hR6,hb3⟩
   refine ⟨_,rfl,?_⟩
   have hs3 := hb3.size
   have hRl3 := Kd.R_below hRl hb3
   have hout : ∀ b,(Value.slice LA k lc).ownBlock = some b → b < V2.heap.size := fun b hb => by
    obtain ⟨cells,hc⟩ := Kd.R_typed hRl b hb
    exact Am hc
   have hp : Kii.M V3 m16 (fun i => some i ≠ (Value.slice LA k lc).ownBlock) (bitsW s) [.slice A6 (bitsW s).length c6] :=
    Kd.M_row (Kd.R_lower (Kd.R_mono (Kd.R_bound hR6) (fun i hi e => by have := hout i e.symm; have := hi.2.1; omega)) hsV)
   refine EJ (bytes := 24) (m := k) (c := lc) (A := LA) Kii (p := bitsW s) (cs := [.slice A6 (bitsW s).length c6]) U27 CY G (by decide) (by decide) G (by simp) G (AJ U27 CY G G) hRl3 hp (fun i hi => ⟨trivial,hi⟩) (fun _ _ => trivial) (by omega) (by rw [List.length_map,htl]; omega) ?_
   intro A7 c7 V4 hR7 hg4
   have hl7 : (((n.subs K).take k).map bitsW ++ [bitsW s]).length = k + 1 := by rw [List.length_append,List.length_map,htl]; rfl
   have ht7 : ((n.subs K).take k).map bitsW ++ [bitsW s] = ((n.subs K).take (k + 1)).map bitsW := by rw [htake]; simp
   rw [hl7] at hR7 ⊢
   rw [ht7] at hR7
   refine asl G<|oad G G (by first | assumption | omega)<|mi G<|?_
   have hd3 := Ab hd hb3
   have hob : ∀ b,(Value.slice LA k lc).ownBlock = some b → m16 ≤ b := fun b hb => Kd.R_base hRl3 b hb
   have hB3 := Ad hB hb3
   exact ⟨(k + 1,(A4,c4),(A7,c7)),⟨rfl,rfl,rfl,rfl,rfl,rfl,rfl⟩,⟨hlt,hB3.grown hg4 hB3.size (fun k hk => Nat.le_trans hm16w (hob k hk)),by have := hg4.size; omega,(hg4.block bd (Am hd3) (fun e => by have := hob bd e.symm; omega)).trans hd3,
    Kd.R_over (Kd.R_below hRz hb3) hRl3 (by decide) hg4,Kd.R_grown (Kd.R_below hRn hb3) hg4 (fun i hi e => by have := hob i e.symm; omega),(hf.below hb3).own hRl3 (by decide) hg4,Kd.R_over (Kd.R_below hRb hb3) hRl3 (by decide) hg4,hR7⟩,by dsimp only; omega⟩
 ·have hkK : k = (n.subs K).length := by omega
  subst hkK
  rw [List.take_length] at hRb hRl
  rw [hK'] at hd hRb hRl
  refine AV (vs := dcs n.vars 0 NA BA K nc K bc) G35 S35 G (Ak hd)<|ms G<|Bo (vs := dcs n.vars 0 NA BA K nc K bc) (cs := dcs n.vars 0 NA BA K nc K bc) S35 rfl rfl rfl (by intro u hu; simp only [dcs,List.mem_cons,List.not_mem_nil,or_false] at hu; rcases hu with rfl | rfl | rfl | rfl <;> rfl) hd (by simp) ?_
  intro V2 hd2 hg2
  have hd2 : V2.heap[bd]? = some (.cells (dcs n.vars 0 NA BA K nc K bc).toArray 35 (0,0)) := hd2
  refine asl G<|ai G<|rtctt G G G G hd2 G35 S35 ⟨NA,nc,BA,bc,LA,lc,K,?_,hK',?_,?_,?_,hB.grown hg2 hB.size (fun k e => by cases e; exact hbdw)⟩
  ·show Ending.returned (.tuple #[.agg (dcs n.vars 0 NA BA K nc K bc).toArray,.slice LA (n.subs K).length lc,.int .i64 0]) = _
   rw [hK']
  ·exact Kd.R_mono (Ah hRn hd (by decide) hg2) (fun _ _ => trivial)
  ·exact Ah hRb hd (by decide) hg2
  ·exact Kd.R_lower (Ah hRl hd (by decide) hg2) hm16w
structure Df where
 vars : Nat
 start : Nat
 next : List (List Int)
 fin : List Bool
structure Df.Ok (d : Df) : Prop where
 v : d.vars ≤ 6
 n : d.next.length ≤ 4096
 s : d.start < d.next.length
 f : d.fin.length = d.next.length
 rows : ∀ r ∈ d.next,r.length = 2 ^ d.vars ∧ ∀ x ∈ r,0 ≤ x ∧ x < d.next.length
abbrev Df.vals (d : Df) (NA FA : Option Addr) (nc fc : Nat) : List Value := dcs d.vars d.start NA FA d.next.length nc d.fin.length fc
structure DR (d : Df) (W : World) (NA FA : Option Addr) : Prop where
 next : Kii.C W NA d.next.length d.next
 fin : Kd.bool.C W FA d.fin.length d.fin
theorem DR.below {d : Df} {W W1 : World} {NA FA : Option Addr} (h : DR d W NA FA) (hb : Below W.heap.size W W1) : DR d W1 NA FA := ⟨Kd.C_below h.next hb,Kd.C_below h.fin hb⟩
theorem min81 (A : Option Addr) (c : Nat) (l : List Int) (w : World) (hl : (Kd.int .i64).C w A l.length l) (h0 : 0 < l.length) (hb : l.length ≤ 1000000) :
  Calls Tryz.prog 81 #[.slice A l.length c] w fun e w' => ∃ m : Int,e = .returned (.int .i64 m) ∧ m ∈ l ∧ (∀ x ∈ l,m ≤ x) ∧ w' = w := by
 obtain ⟨m0,hm0⟩ : ∃ m,l[0]? = some m := ⟨_,gE h0⟩
 obtain ⟨ad,rfl,hcell⟩ := Au hl hm0
 have ht1 : l.take 1 = [m0] := by rw [List.take_succ_eq_append_getElem h0]; rw [gE h0] at hm0; injection hm0 with h; rw [h]; rfl
 refine enter 25 Tryz.func81 G G _ (by simp) ?_
 refine ai G<|ms G<|oln U22 G<|olt G G<|isf (by omega) ?_
 refine cdf G<|ms G<|oix (i := 0) U22 Z3 G G (by omega) ?_
 refine old G3 G ‹_›<|ai G<|ai G<|lp (σ := Nat × Int) (fun q => [(0,.slice (some ad) l.length c),(3,.int .i64 q.2),(4,.int .i64 (q.1 : Nat))])
  (fun q V => V = w ∧ 1 ≤ q.1 ∧ q.1 ≤ l.length ∧ q.2 ∈ l ∧ ∀ x ∈ l.take q.1,q.2 ≤ x) (fun q => l.length - q.1) (1,m0) ⟨rfl,rfl,rfl,rfl⟩ ⟨rfl,Nat.le_refl _,h0,List.mem_of_getElem? hm0,by rw [ht1]; simp⟩ ?_
 rintro ⟨k,a⟩ f V ⟨rfl,hk1,hk,hin,hle⟩
 simp only at hk1 hk hin hle
 refine mi G<|ms G<|oln U22 G<|olt G G<|cdd G (fun hlt => ?_) (fun hge => ?_)
 ·have hkl : k < l.length := Int.ofNat_lt.1 hlt
  obtain ⟨m,hm⟩ : ∃ m,l[k]? = some m := ⟨_,gE hkl⟩
  obtain ⟨ad',had,hcell'⟩ := Au hl hm
  injection had with had
  subst had
  have htake : l.take (k + 1) = l.take k ++ [m] := by rw [List.take_succ_eq_append_getElem hkl]; rw [gE hkl] at hm; injection hm with hm; rw [hm]
  refine mi G<|ms G<|mi G<|AD U22 Z3 G G (by first | assumption | omega)<|old G3 G ‹_›<|omn G G<|ai G<|?_
  refine mi G<|oad G G (by first | assumption | omega)<|ai G<|?_
  refine ⟨(k + 1,if m < a then m else a),⟨rfl,rfl,rfl,rfl⟩,⟨rfl,by omega,hkl,?_,?_⟩,by dsimp only; omega⟩
  ·dsimp only
   split
   ·exact List.mem_of_getElem? hm
   ·exact hin
  ·dsimp only
   rw [htake]
   intro x hx
   rcases List.mem_append.1 hx with h | h
   ·have := hle x h
    split <;> omega
   ·rw [List.mem_singleton.1 h]
    split <;> omega
 ·have : k = l.length := by omega
  rw [this,List.take_length] at hle
  refine mi G<|ai G<|?_
  exact rt1 rfl rfl ⟨a,rfl,hin,hle,rfl⟩
theorem max82 (A : Option Addr) (c : Nat) (l : List Int) (w : World) (hl : (Kd.int .i64).C w A l.length l) (h0 : 0 < l.length) (hb : l.length ≤ 1000000) :
  Calls Tryz.prog 82 #[.slice A l.length c] w fun e w' => ∃ m : Int,e = .returned (.int .i64 m) ∧ m ∈ l ∧ (∀ x ∈ l,x ≤ m) ∧ w' = w := by
 obtain ⟨m0,hm0⟩ : ∃ m,l[0]? = some m := ⟨_,gE h0⟩
 obtain ⟨ad,rfl,hcell⟩ := Au hl hm0
 have ht1 : l.take 1 = [m0] := by rw [List.take_succ_eq_append_getElem h0]; rw [gE h0] at hm0; injection hm0 with h; rw [h]; rfl
 refine enter 25 Tryz.func82 G G _ (by simp) ?_
 refine ai G<|ms G<|oln U22 G<|olt G G<|isf (by omega) ?_
 refine cdf G<|ms G<|oix (i := 0) U22 Z3 G G (by omega) ?_
 refine old G3 G ‹_›<|ai G<|ai G<|lp (σ := Nat × Int) (fun q => [(0,.slice (some ad) l.length c),(3,.int .i64 q.2),(4,.int .i64 (q.1 : Nat))])
  (fun q V => V = w ∧ 1 ≤ q.1 ∧ q.1 ≤ l.length ∧ q.2 ∈ l ∧ ∀ x ∈ l.take q.1,x ≤ q.2) (fun q => l.length - q.1) (1,m0) ⟨rfl,rfl,rfl,rfl⟩ ⟨rfl,Nat.le_refl _,h0,List.mem_of_getElem? hm0,by rw [ht1]; simp⟩ ?_
 rintro ⟨k,a⟩ f V ⟨rfl,hk1,hk,hin,hle⟩
 simp only at hk1 hk hin hle
 refine mi G<|ms G<|oln U22 G<|olt G G<|cdd G (fun hlt => ?_) (fun hge => ?_)
 ·have hkl : k < l.length := Int.ofNat_lt.1 hlt
  obtain ⟨m,hm⟩ : ∃ m,l[k]? = some m := ⟨_,gE hkl⟩
  obtain ⟨ad',had,hcell'⟩ := Au hl hm
  injection had with had
  subst had
  have htake : l.take (k + 1) = l.take k ++ [m] := by rw [List.take_succ_eq_append_getElem hkl]; rw [gE hkl] at hm; injection hm with hm; rw [hm]
  refine mi G<|ms G<|mi G<|AD U22 Z3 G G (by first | assumption | omega)<|old G3 G ‹_›<|omx G G<|ai G<|?_
  refine mi G<|oad G G (by first | assumption | omega)<|ai G<|?_
  refine ⟨(k + 1,if a < m then m else a),⟨rfl,rfl,rfl,rfl⟩,⟨rfl,by omega,hkl,?_,?_⟩,by dsimp only; omega⟩
  ·dsimp only
   split
   ·exact List.mem_of_getElem? hm
   ·exact hin
  ·dsimp only
   rw [htake]
   intro x hx
   rcases List.mem_append.1 hx with h | h
   ·have := hle x h
    split <;> omega
   ·rw [List.mem_singleton.1 h]
    split <;> omega
 ·have : k = l.length := by omega
  rw [this,List.take_length] at hle
  refine mi G<|ai G<|?_
  exact rt1 rfl rfl ⟨a,rfl,hin,hle,rfl⟩
theorem ED (d : Df) (hd : d.Ok) (NA FA : Option Addr) (nc fc : Nat) (w : World) (hr : DR d w NA FA) :
  Calls Tryz.prog 43 #[.agg (d.vals NA FA nc fc).toArray] w fun e w' => e = .returned (.int .i64 0) ∧ Below w.heap.size w w' := by
 have hv := hd.v
 have hn := hd.n
 have hs := hd.s
 have hf := hd.f
 have h64 : 2 ^ d.vars ≤ 64 := Nat.pow_le_pow_right (n := 2) (by decide) hd.v
 have h1 : 0 < 2 ^ d.vars := Nat.two_pow_pos _
 refine enter 63 Tryz.func43 G G _ (by simp) ?_
 refine obx (cs := d.vals NA FA nc fc) G G ?_
 intro b w1 hbe hbb hb1
 have hc0 : w1.cell? ⟨b,0 + 0,none⟩ = some (.int .i64 (d.vars : Nat)) := (Ac hbb 0).trans rfl
 have hc1 : w1.cell? ⟨b,0 + 1,none⟩ = some (.int .i64 (d.start : Nat)) := (Ac hbb 1).trans rfl
 have hc2 : w1.cell? ⟨b,0 + 2,none⟩ = some (.slice NA d.next.length nc) := (Ac hbb 2).trans rfl
 have hc3 : w1.cell? ⟨b,0 + 3,none⟩ = some (.slice FA d.fin.length fc) := (Ac hbb 3).trans rfl
 refine ai G<|ofa Bz G<|old G27 G ‹_›<|oln U27 G<|ai G<|ofa CE G<|old G3 G ‹_›<|olt G G<|isf (by omega)<|mb G<|gon G<|ofa CE G<|gon G<|old G3 G ‹_›<|gon G<|ogt G G<|isf (by omega)<|pfb G G<|ab G<|?_
 refine cdf G<|mi G<|oeq G G<|isf (by omega) ?_
 refine ab G<|cdf G<|mi G<|ogt G G<|isf (by omega) ?_
 refine ab G<|cdf G<|ofa BP G<|old G33 G ‹_›<|oln U33 G<|mi G<|one G G<|isf (by omega) ?_
 refine ab G<|cdf G<|ofa CT G<|old G3 G ‹_›<|olt G G<|isf (by omega)<|mb G<|gon G<|ofa CT G<|gon G<|old G3 G ‹_›<|gon G<|mi G<|gon G<|oge G G<|isf (by omega)<|pfb G G<|ab G<|?_
 refine cdf G<|ofa Bz G<|old G27 G ‹_›<|oln U27 G<|mi G<|lp (σ := Nat) (fun k => [(1,.pointer (some ⟨b,0,none⟩)),(3,.int .i64 (d.next.length : Nat)),(41,.slice NA d.next.length nc),(42,.int .i64 (d.next.length : Nat)),(43,.int .i64 k)])
  (fun k V => k ≤ d.next.length ∧ V = w1) (fun k => d.next.length - k) 0 ⟨rfl,rfl,rfl,rfl,rfl,rfl⟩ ⟨Nat.zero_le _,rfl⟩ ?_
 rintro k f V ⟨hk,rfl⟩
 refine olt G G<|cdd G (fun hlt => ?_) (fun hge => ?_)
 ·have hkl : k < d.next.length := Int.ofNat_lt.1 hlt
  obtain ⟨row,hrow⟩ : ∃ row,d.next[k]? = some row := ⟨_,gE hkl⟩
  obtain ⟨adS,cc,rfl,_,⟨RA,rc,rfl,hrc,hRow⟩,hcS⟩ := DG hr.next hrow
  have hcS : V.cell? (adS.add (k * 1)) = some (.slice RA row.length rc) := Ae hb1 (hcS 0 _ rfl)
  obtain ⟨hrl,hrb⟩ := hd.rows row (List.mem_of_getElem? hrow)
  refine AD U27 Z22 G G (by first | assumption | omega)<|old G22 G ‹_›<|asl G<|?_
  refine ms G<|oln U22 G<|ofa CE G<|old G3 G ‹_›<|I8 (a := 1) (b := d.vars) G G (by show d.vars < 64; omega) (by rw [Nat.one_mul]; exact Nat.lt_of_le_of_lt h64 (by decide)) ?_
  refine one G G<|isf (by rw [Nat.one_mul,hrl]; simp) ?_
  refine cdf G<|ms G<|cl C81 [] G ((min81 RA rc row V (Kd.C_below hRow hb1) (by omega) (by omega)).mono ?_)
  rintro e w2 ⟨m1,rfl,hm1,_,rfl⟩
  refine ⟨_,rfl,?_⟩
  have hm1 := hrb m1 hm1
  refine olt G G<|isf (by omega)<|mb G<|gon G<|ms G<|?_
  refine gon G<|cl C82 [] G ((max82 RA rc row w2 (Kd.C_below hRow hb1) (by omega) (by omega)).mono ?_)
  rintro e w3 ⟨m2,rfl,hm2,_,rfl⟩
  refine ⟨_,rfl,?_⟩
  have hm2 := hrb m2 hm2
  refine gon G<|mi G<|gon G<|oge G G<|isf (by omega)<|pfb G G<|?_
  refine cdf G<|oad G G (by first | assumption | omega)<|mi G<|?_
  exact ⟨k + 1,⟨rfl,rfl,rfl,rfl,rfl,rfl⟩,⟨hkl,rfl⟩,by omega⟩
 ·refine ai G<|?_
  exact rt1 rfl rfl ⟨rfl,hb1⟩
theorem ru_callb {n : Nat} {P : Program} {f : Fm n} {W : World} {k : FuncId} {ty : TypeId} {x : Operand} {xs : List Operand} {ts : Array TypeId} {bd : List Value} (hC : Ag P k) (hx : ex f x = .func (.func k) bd.toArray #[]) :
  Ru P (.call { callee := .value x,args := xs.toArray,argTypes := ts }) ty f W = .ok (.enter k (bd ++ evs f xs).toArray) W := by
 obtain ⟨fn,h1,h2,h3⟩ := hC
 rw [← Gf]
 simp only [beq_eq_false_iff_ne,ne_eq] at h2
 cases hb : fn.body with
 | none => rw [hb] at h3; simp at h3
 | some b => simp [Ru,hx,go_sem,callFunc,h1,h2,hb]
theorem clb {n : Nat} {P : Program} {f : Fm n} {W : World} {Q : Bd n} {ops : Array Oper} {rest : List Oper} {d : Tmp} {ty : TypeId} {pos : String} {aft : Array Edge} {x : Operand} {xs : List Operand} {ts : Array TypeId} {k : FuncId} (hC : Ag P k) (bd : List Value) (hx : ex f x = .func (.func k) bd.toArray #[]) (h : Calls P k (bd ++ evs f xs).toArray W fun e w' => ∃ v,e = .returned v ∧ RL P ops Q rest (up f d v) w') :
  LS P ops Q ⟨some d,.call { callee := .value x,args := xs.toArray,argTypes := ts },ty,pos,aft,none⟩ rest f W := HX (ru_callb hC hx) h
def Df.step (d : Df) (s x : Nat) : Nat := ((d.next.getD s []).getD x 0).toNat
def Df.run (d : Df) (l : List Int) : Nat := l.foldl (fun s x => d.step s x.toNat) d.start
theorem Df.cellv {d : Df} (hd : d.Ok) {s x : Nat} (hs : s < d.next.length) (hx : x < 2 ^ d.vars) : ∃ row,d.next[s]? = some row ∧ row.length = 2 ^ d.vars ∧ row[x]? = some ((d.step s x : Nat) : Int) ∧ d.step s x < d.next.length := by
 obtain ⟨row,hrow⟩ : ∃ row,d.next[s]? = some row := ⟨_,gE hs⟩
 obtain ⟨h1,h2⟩ := hd.rows row (List.mem_of_getElem? hrow)
 obtain ⟨y,hy⟩ : ∃ y,row[x]? = some y := ⟨_,gE (by omega)⟩
 have h3 := h2 y (List.mem_of_getElem? hy)
 have e : d.step s x = y.toNat := by
  unfold Df.step
  simp only [gD,hrow,hy,Option.getD_some]
 refine ⟨row,hrow,h1,?_,by omega⟩
 rw [hy,e]
 congr 1
 omega
theorem Df.step_lt {d : Df} (hd : d.Ok) {s x : Nat} (hs : s < d.next.length) (hx : x < 2 ^ d.vars) : d.step s x < d.next.length := (Df.cellv hd hs hx).choose_spec.2.2.2
theorem Df.run_lt {d : Df} (hd : d.Ok) (l : List Int) (hl : ∀ x ∈ l,0 ≤ x ∧ x < ((2 ^ d.vars : Nat) : Int)) : d.run l < d.next.length := by
 unfold Df.run
 suffices ∀ (l : List Int) (s : Nat),s < d.next.length → (∀ x ∈ l,0 ≤ x ∧ x < ((2 ^ d.vars : Nat) : Int)) → l.foldl (fun s x => d.step s x.toNat) s < d.next.length from this l _ hd.s hl
 intro l
 induction l with
 | nil => exact fun s h _ => h
 | cons x l ih =>
  intro s hs h
  have := h x (List.mem_cons_self ..)
  exact ih _ (Df.step_lt hd hs (by omega)) (fun y hy => h y (List.mem_cons_of_mem _ hy))
theorem H0 {v : Nat} {l : List Int} (h : l.any (Cn v) = false) (hx : ∀ x ∈ l,0 ≤ x ∧ x ≤ 255) : ∀ x ∈ l,0 ≤ x ∧ x < ((2 ^ v : Nat) : Int) := fun x hm => by
 rw [List.any_eq_false] at h
 have h1 := h x hm
 unfold Cn at h1
 have := hx x hm
 simp only [decide_eq_true_eq] at h1
 omega
theorem DR.at {d : Df} (hd : d.Ok) {W : World} {NA FA : Option Addr} (hr : DR d W NA FA) {s x : Nat} (hs : s < d.next.length) (hx : x < 2 ^ d.vars) :
  ∃ ad adr rc,NA = some ad ∧ W.cell? (ad.add (s * 1)) = some (.slice (some adr) (2 ^ d.vars) rc) ∧ W.cell? (adr.add (x * 1)) = some (.int .i64 (d.step s x : Nat)) := by
 obtain ⟨row,hrow,hlen,hcell,_⟩ := Df.cellv hd hs hx
 obtain ⟨ad,cc,rfl,_,⟨RA,rc,rfl,hrc,hRow⟩,hcS⟩ := DG hr.next hrow
 have hcS : W.cell? (ad.add (s * 1)) = some (.slice RA row.length rc) := hcS 0 _ rfl
 obtain ⟨adr,rfl,hc⟩ := Au hRow hcell
 rw [hlen] at hcS
 exact ⟨ad,adr,rc,rfl,hcS,hc⟩
theorem run80 (d : Df) (hd : d.Ok) (NA FA : Option Addr) (nc fc : Nat) (A : Option Addr) (c : Nat) (l : List Int) (w : World) (hr : DR d w NA FA) (hl : (Kd.int .u8).C w A l.length l) (hb : l.length ≤ 64) (hx : ∀ x ∈ l,0 ≤ x ∧ x < ((2 ^ d.vars : Nat) : Int)) :
  Calls Tryz.prog 80 #[.agg (d.vals NA FA nc fc).toArray,.slice A l.length c] w fun e w' => e = .returned (.int .i64 (d.run l : Nat)) ∧ Below w.heap.size w w' := by
 refine enter 28 Tryz.func80 G G _ (by simp) ?_
 refine obx (cs := d.vals NA FA nc fc) G G ?_
 intro b w1 hbe hbb hb1
 have hc1 : w1.cell? ⟨b,0 + 0 + 1,none⟩ = some (.int .i64 (d.start : Nat)) := (Ac hbb 1).trans rfl
 have hc2 : w1.cell? ⟨b,0 + 0 + 2,none⟩ = some (.slice NA d.next.length nc) := (Ac hbb 2).trans rfl
 refine ai G<|ofa KP G<|ofa CT G<|old G3 G ‹_›<|ai G<|ms G<|oln U26 G<|mi G<|lp (σ := Nat) (fun k => [(2,.pointer (some ⟨b,0,none⟩)),(5,.int .i64 (d.run (l.take k) : Nat)),(11,.slice A l.length c),(12,.int .i64 l.length),(13,.int .i64 k)])
  (fun k V => k ≤ l.length ∧ V = w1) (fun k => l.length - k) 0 ⟨rfl,rfl,rfl,rfl,rfl,rfl⟩ ⟨Nat.zero_le _,rfl⟩ ?_
 rintro k f V ⟨hk,rfl⟩
 refine olt G G<|cdd G (fun hlt => ?_) (fun hge => ?_)
 ·have hkl : k < l.length := Int.ofNat_lt.1 hlt
  obtain ⟨m,hm⟩ : ∃ m,l[k]? = some m := ⟨_,gE hkl⟩
  obtain ⟨ad,rfl,hcell⟩ := Au hl hm
  have hcell := Ae hb1 hcell
  have hmr := hx m (List.mem_of_getElem? hm)
  obtain ⟨y,rfl⟩ : ∃ y : Nat,m = y := ⟨m.toNat,by omega⟩
  have hy : y < 2 ^ d.vars := by omega
  have hrun := Df.run_lt hd (l.take k) (fun x h => hx x (List.mem_of_mem_take h))
  obtain ⟨adn,adr,rc,rfl,hcS,hcT⟩ := (hr.below hb1).at hd hrun hy
  refine AD U26 Z5 G G (by first | assumption | omega)<|old G5 G ‹_›<|ai G<|?_
  refine ofa KP G<|ofa Bz G<|old G27 G ‹_›<|mi G<|AD U27 Z22 G G (by first | assumption | omega)<|old G22 G ‹_›<|mi G<|AD U22 Z3 G G (by first | assumption | omega)<|old G3 G ‹_›<|ai G<|?_
  refine oad G G (by first | assumption | omega)<|mi G<|?_
  refine ⟨k + 1,⟨rfl,?_,rfl,rfl,rfl,rfl⟩,⟨hkl,rfl⟩,by omega⟩
  have htake : l.take (k + 1) = l.take k ++ [(y : Int)] := by rw [List.take_succ_eq_append_getElem hkl]; rw [gE hkl] at hm; injection hm with hm; rw [hm]
  have : d.run (l.take (k + 1)) = d.step (d.run (l.take k)) y := by unfold Df.run; rw [htake,List.foldl_append]; rfl
  exact congrArg (fun n : Nat => Value.int .i64 (n : Int)) this.symm
 ·have : k = l.length := by omega
  rw [this,List.take_length]
  refine mi G<|ai G<|?_
  exact rt1 rfl rfl ⟨rfl,hb1⟩
theorem word79 (d : Df) (hd : d.Ok) (NA FA : Option Addr) (nc fc b : Nat) (x : Int) (hx : 0 ≤ x ∧ x ≤ 255) (w : World) (hb : w.heap[b]? = some (.cells (d.vals NA FA nc fc).toArray 35 (0,0))) :
  Calls Tryz.prog 79 #[.int .u8 x,.pointer (some ⟨b,0,none⟩)] w fun e w' => e = .returned (.bool (Cn d.vars x)) ∧ Below w.heap.size w w' := by
 obtain ⟨y,rfl⟩ : ∃ y : Nat,x = y := ⟨x.toNat,by omega⟩
 have h64 : 2 ^ d.vars ≤ 64 := Nat.pow_le_pow_right (n := 2) (by decide) hd.v
 have hv := hd.v
 have hy : y < 2 ^ (IntKind.bits .i64 - 1) := Nat.lt_of_le_of_lt (by omega : y ≤ 255) (by decide)
 have hsh : 1 * 2 ^ d.vars < 2 ^ (IntKind.bits .i64 - 1) := by rw [Nat.one_mul]; exact Nat.lt_of_le_of_lt h64 (by decide)
 have hvb : d.vars < IntKind.bits .i64 := by show d.vars < 64; omega
 have hc0 : w.cell? ⟨b,0 + 0,none⟩ = some (.int .i64 (d.vars : Nat)) := (Ac hb 0).trans rfl
 refine enter 10 Tryz.func79 G G _ (by simp) ?_
 refine ab G<|mi G<|CU UI5 UI3 G (by first | assumption | decide | omega)<|ofa CE G<|old G3 G ‹_›<|?_
 refine I8 (a := 1) (b := d.vars) G G hvb hsh<|oge G G<|ab G<|rt1 G G ⟨?_,Below.refl _ _⟩
 have e : decide (((1 * 2 ^ d.vars : Nat) : Int) ≤ (y : Nat)) = Cn d.vars y := by rw [Nat.one_mul]; rfl
 rw [← e]; rfl
theorem run42 (d : Df) (hd : d.Ok) (NA FA : Option Addr) (nc fc : Nat) (A : Option Addr) (c : Nat) (l : List Int) (w : World) (hr : DR d w NA FA) (hl : (Kd.int .u8).C w A l.length l) (hb : l.length ≤ 64) (hx : ∀ x ∈ l,0 ≤ x ∧ x ≤ 255) :
  Calls Tryz.prog 42 #[.agg (d.vals NA FA nc fc).toArray,.slice A l.length c] w fun e w' => Below w.heap.size w w' ∧ ((l.any (Cn d.vars) = true ∧ e = .returned (.tuple #[.int .i64 0,.int .i64 1])) ∨ (l.any (Cn d.vars) = false ∧ e = .returned (.tuple #[.int .i64 (d.run l : Nat),.int .i64 0]))) := by
 refine enter 27 Tryz.func42 G G _ (by simp) ?_
 refine obx (cs := d.vals NA FA nc fc) G G ?_
 intro b w1 hbe hbb hb1
 refine ai G<|ai G<|AV (vs := d.vals NA FA nc fc) G35 S35 G (Ak hbb)<|cl C43 [] G ((ED d hd NA FA nc fc w1 (hr.below hb1)).mono ?_)
 rintro e w2 ⟨rfl,hb2⟩
 refine ⟨_,rfl,?_⟩
 have hbb := Ab hbb hb2
 have hB := Ad hb1 hb2
 refine ai G<|mi G<|one G G<|isf (by omega)<|?_
 refine cdf G<|ms G<|oln U26 G<|ogt G G<|isf (by omega)<|ab G<|?_
 refine cdf G<|ms G<|pl (.func (.func 79) #[] #[.pointer (some ⟨b,0,none⟩)]) (fun _ => by kernel_rfl)<|cl C78 [] G ((FY A c l 79 [.pointer (some ⟨b,0,none⟩)] (Cn d.vars) w2 ⟨_,Tryz.func79,by kernel_rfl,by kernel_rfl⟩ (Kd.C_below hl hB) (by omega) (fun x hx' V hV => word79 d hd NA FA nc fc b x (hx x hx') V (Ab hbb hV))).mono ?_)
 rintro e w3 ⟨rfl,hb3⟩
 refine ⟨_,rfl,?_⟩
 have hbb := Ab hbb hb3
 have hB := Ad hB hb3
 refine ab G<|?_
 cases hbad : l.any (Cn d.vars) with
 | true =>
  refine cdt G<|ai G<|ai G<|?_
  exact rt2 rfl rfl rfl ⟨hB,.inl ⟨rfl,rfl⟩⟩
 | false =>
  refine cdf G<|AV (vs := d.vals NA FA nc fc) G35 S35 G (Ak hbb)<|pl (.agg (d.vals NA FA nc fc).toArray) (fun _ => by kernel_rfl)<|pl (.func (.func 80) #[.agg (d.vals NA FA nc fc).toArray] #[]) (fun _ => by kernel_rfl)<|af G<|mf G<|ms G<|clb (⟨_,Tryz.func80,by kernel_rfl,by kernel_rfl⟩ : Ag Tryz.prog 80) [.agg (d.vals NA FA nc fc).toArray] G ((run80 d hd NA FA nc fc A c l w3 (hr.below hB) (Kd.C_below hl hB) hb (H0 hbad hx)).mono ?_)
  rintro e w4 ⟨rfl,hb4⟩
  refine ⟨_,rfl,?_⟩
  refine ai G<|ai G<|?_
  exact rt2 rfl rfl rfl ⟨Ad hB hb4,.inr ⟨rfl,rfl⟩⟩
theorem accepts11 (d : Df) (hd : d.Ok) (NA FA : Option Addr) (nc fc : Nat) (A : Option Addr) (c : Nat) (l : List Int) (w : World) (hr : DR d w NA FA) (hl : (Kd.int .u8).C w A l.length l) (hb : l.length ≤ 64) (hx : ∀ x ∈ l,0 ≤ x ∧ x ≤ 255) :
  Calls Tryz.prog 11 #[.agg (d.vals NA FA nc fc).toArray,.slice A l.length c] w fun e w' => Below w.heap.size w w' ∧ ((l.any (Cn d.vars) = true ∧ e = .returned (.tuple #[.bool false,.int .i64 1])) ∨ (l.any (Cn d.vars) = false ∧ e = .returned (.tuple #[.bool (d.fin.getD (d.run l) false),.int .i64 0]))) := by
 refine enter 24 Tryz.func11 G G _ (by simp) ?_
 refine obx (cs := d.vals NA FA nc fc) G G ?_
 intro b w1 hbe hbb hb1
 refine ab G<|ai G<|AV (vs := d.vals NA FA nc fc) G35 S35 G (Ak hbb)<|ms G<|cl C42 [] G ((run42 d hd NA FA nc fc A c l w1 (hr.below hb1) (Kd.C_below hl hb1) hb hx).mono ?_)
 rintro e w2 ⟨hb2,⟨hbad,rfl⟩ | ⟨hbad,rfl⟩⟩
 ·refine ⟨_,rfl,?_⟩
  refine mv G<|oex G G<|oex G G<|ai G<|ai G<|mi G<|oeq G G<|isf (by omega)<|mb G<|gof G<|gof G<|gof G<|gof G<|gof G<|pfb G G<|mi G<|ab G<|ai G<|?_
  exact rt2 rfl rfl rfl ⟨Ad hb1 hb2,.inl ⟨hbad,rfl⟩⟩
 ·refine ⟨_,rfl,?_⟩
  have hbb := Ab hbb hb2
  have hB := Ad hb1 hb2
  have hc3 : w2.cell? ⟨b,0 + 3,none⟩ = some (.slice FA d.fin.length fc) := (Ac hbb 3).trans rfl
  have hrun := Df.run_lt hd l (H0 hbad hx)
  have hlt : d.run l < d.fin.length := by rw [hd.f]; exact hrun
  obtain ⟨z,hz⟩ : ∃ z,d.fin[d.run l]? = some z := ⟨_,gE hlt⟩
  obtain ⟨adf,rfl,hcell⟩ := Au (Kd.C_below hr.fin hB) hz
  have e : d.fin.getD (d.run l) false = z := by rw [gD,hz]; rfl
  rw [e]
  refine mv G<|oex G G<|oex G G<|ai G<|ai G<|mi G<|oeq G G<|ist (by omega)<|mb G<|gon G<|ofa BP G<|gon G<|old G33 G ‹_›<|gon G<|mi G<|gon G<|AD U33 Z4 G G (by first | assumption | omega)<|gon G<|old G4 G ‹_›<|ptb G G<|mi G<|ab G<|ai G<|?_
  exact rt2 rfl rfl rfl ⟨hB,.inr ⟨hbad,rfl⟩⟩
section
variable {n : Nat} {P : Program} {ops : Array Oper} {Q : Bd n} {S : World → Prop} {fuel : Nat} {listed : Array Bool} {f : Fm n} {W : World}
theorem KO {l : List Nat} (hr : Region.ready .any ops listed = l) (hne : l ≠ []) (h : ∀ i ∈ l,∃ o,ops[i]? = some o ∧ LS P ops (thn (fun f' w' => S w' ∧ AH P ops Q S fuel (listed.setIfInBounds i true) f' w') Q) o [] f W) : AH P ops Q S (fuel + 1) listed f W := by
 refine ⟨wpAnyH_all hr hne fun k hk => ?_⟩
 obtain ⟨o,ho,hl⟩ := h k hk
 refine wpOp_mono ?_ (Di ho hl)
 rintro a w ⟨f',rfl,hS,hA⟩
 exact ⟨hS,hA.out⟩
end
section
variable {n : Nat} {P : Program} {ops : Array Oper} {Q : Bd n} {S : World → Prop} {fuel : Nat} {listed : Array Bool} {f : Fm n} {W : World}
theorem aei_begin {l id : Nat} (e : Nat) (hQ : ∀ f W,¬ Q .outgrown f W) (hd : ops.toList.all ndo = true) (hm : F2 P) (S : World → Prop) (h : ∀ W1,Below W.heap.size W W1 → W.grownBy W1 none → W1.heap = W.heap → AE P ops Q S e ops.size (Array.replicate ops.size false) f W1) : CI l P (.region id ops true) Q f W := by
 refine ⟨fun m => wpIn_region_draw fun t => ?_⟩
 have h1 := G1 _ _ _ _ (h W.drew ((Below.refl _ _).drew) ⟨rfl,rfl,rfl,Nat.le_refl _,fun _ _ _ => rfl⟩ rfl).out
 have hm' : P.follows .mixedOrders = true := hm
 refine Fw (BM hQ) m (fun o ho => List.all_eq_true.1 hd o ho) _ _ _ ?_
 simp only [Region.schedule,hm',Bool.true_or,if_true]
 exact wpAny_sound ops.size t _ _ _ h1
theorem ah_cut {d : List Deferred} (l : List (Nat × Value)) (h : has f d l) (k : ∀ g : Fm n,AH P ops Q S fuel listed (ups (re g d) l) W) : AH P ops Q S fuel listed f W :=
 ⟨by rw [← CS (BS l f h)]; exact (k f).out⟩
end
def Ko (ops : Array Oper) (i c : Nat) : Bool := match ops[c]? with
 | some o => o.after.any fun e => Region.binds .any e && e.on == i
 | none => true
def GW (ops : Array Oper) : Nat → List Nat → Bool
 | _,[] => true
 | i,c :: cs => Ko ops i c && GW ops c cs
theorem waits_ready {ops : Array Oper} {i c : Nat} {listed : Array Bool} (h : Ko ops i c = true) (hi : listed.getD i false = false) : c ∉ Region.ready .any ops listed := fun hr => by
 obtain ⟨_,o,ho,hall⟩ := mem_ready.1 hr
 unfold Ko at h
 rw [ho] at h
 simp only [Array.any_eq_true,Bool.and_eq_true,beq_iff_eq] at h
 obtain ⟨k,hk,hb,he⟩ := h
 have := hall _ (Array.getElem_mem hk) hb
 rw [he,hi] at this
 cases this
theorem HH {ops : Array Oper} {listed : Array Bool} : ∀ (i : Nat) (cs : List Nat),GW ops i cs = true → listed.getD i false = false → (∀ c ∈ cs,listed.getD c false = false) → ∀ c ∈ cs,c ∉ Region.ready .any ops listed
 | _,[],_,_,_,c,hc => absurd hc (by simp)
 | i,a :: cs,h,hi,hu,c,hc => by
  simp only [GW,Bool.and_eq_true] at h
  rcases List.mem_cons.1 hc with rfl | h'
  ·exact waits_ready h.1 hi
  ·exact HH a cs h.2 (hu a (List.mem_cons_self ..)) (fun c hc => hu c (List.mem_cons_of_mem _ hc)) c h'
theorem Gm {ops : Array Oper} {i e : Nat} {cs : List Nat} (hc : GW ops i cs = true) (he : e ∈ cs) : ∀ (fuel : Nat) (listed : Array Bool),listed.getD i false = false → (∀ c ∈ cs,listed.getD c false = false) → G8 ops i e fuel listed = true
 | 0,_,_,_ => rfl
 | fuel + 1,listed,hi,hu => by
  unfold G8
  rw [List.all_eq_true]
  intro j hj
  by_cases hji : j = i
  ·simp [hji]
  ·have hoff := HH i cs hc hi hu
   have hje : j ≠ e := fun h => hoff e he (h ▸ hj)
   have hjc : ∀ c ∈ cs,j ≠ c := fun c h h' => hoff c h (h' ▸ hj)
   have := Gm hc he fuel (listed.setIfInBounds j true) (by rw [Bx hji]; exact hi) (fun c h => by rw [Bx (hjc c h)]; exact hu c h)
   simp [hje,this]
section
variable {n : Nat} {P : Program} {ops : Array Oper} {Q : Bd n} {S : World → Prop} {e fuel : Nat} {listed : Array Bool} {f : Fm n} {W : World}
theorem AG (i : Nat) (cs : List Nat) {d : Tmp} {op : Op} {ty : TypeId} {pos : String} {aft : Array Edge} {g : Option (Nat × Bool)} {v : Value} (hi : ops[i]? = some ⟨some d,op,ty,pos,aft,g⟩) (hk : (tk ops listed i && (!(listed.getD e false) && (i != e)) && (GW ops i cs && cs.contains e && !(listed.getD i false) && cs.all fun c => !(listed.getD c false))) = true) (hN : ∀ c f W,¬ Q (.panic c) f W) (hw : wanted ops f g = true)
  (hy : ∀ w,S w → Ru P op ty f w = .ok (.value v) w) (hS : S W) (h : AE P ops Q S e fuel (listed.setIfInBounds i true) (up f d v) W) : AE P ops Q S e (fuel + 1) listed f W := by
 simp only [Bool.and_eq_true,Bool.not_eq_true',List.contains_iff_mem,List.all_eq_true] at hk
 obtain ⟨⟨h1,h2,h3⟩,⟨⟨h4,h5⟩,h6⟩,h7⟩ := hk
 refine Ay i hi ?_ hN hw hy hS h
 rw [h1,h2,h3,Gm h4 h5 (fuel + 1) listed h6 h7]
 rfl
end
section
variable {P : Program} {ops : Array Oper} {Q : Exit → Act → World → Prop} {S : World → Prop}
theorem anyE_firstF {e i : Nat} {oi : Oper} {v : Value} (hi : ops[i]? = some oi) (hie : i ≠ e) (hsel : ∀ (j : Nat) (o : Oper) cs b,ops[j]? = some o → o.op ≠ .select cs b) (hN : ∀ c a w,¬ Q (.panic c) a w) :
  ∀ (fuel : Nat) (listed : Array Bool) (a : Act) (w : World),(∀ j oj,ops[j]? = some oj → j ≠ i → listed.getD j true = false → (∀ e ∈ oj.after,Region.binds .any e = true → e.on ≠ i) → oi.apart ops oj = true) →
   i ∈ Region.ready .any ops listed → YieldsIf P ops (fun _ => True) oi v a → (listed.getD e false = false → S w) → IU P ops Q S e fuel (listed.setIfInBounds i true) (a.put oi.dst v) w → IU P ops Q S e (fuel + 1) listed a w := by
 intro fuel
 induction fuel with
 | zero =>
  intro listed a w _ hr hy hS H
  refine ⟨fun h => (by rw [h] at hr; cases hr),fun j hj => ?_⟩
  by_cases e : j = i
  ·subst e; exact hy.wpOp hi trivial ⟨fun h => hS (by rw [Bx hie] at h; exact h),H⟩
  ·have := ready_mono hj e
   rw [H.1] at this
   cases this
 | succ fuel ih =>
  intro listed a w hfree hr hy hS H
  refine ⟨fun h => (by rw [h] at hr; cases hr),fun j hj => ?_⟩
  by_cases hji : j = i
  ·subst hji; exact hy.wpOp hi trivial ⟨fun h => hS (by rw [Bx hie] at h; exact h),H⟩
  ·obtain ⟨hjun,oj,hoj,hall⟩ := mem_ready.1 hj
   have hno : ∀ e ∈ oj.after,Region.binds .any e = true → e.on ≠ i := fun e he hb heq => by
    have h1 := hall e he hb
    have h0 := (mem_ready.1 hr).1
    rw [heq] at h1
    rcases Nat.lt_or_ge i listed.size with h' | h'
    ·simp [h'] at h0 h1; rw [h0] at h1; cases h1
    ·simp [Array.getElem?_eq_none h'] at h1
   have hs := wpOp_putIf hoj (hfree j oj hoj hji hjun hno) (fun cs b => hsel i oi cs b hi) (fun cs b => hsel j oj cs b hoj) (fun c a w h => absurd h (hN _ _ _)) hy (H.2 j (ready_mono hj hji))
   have hcomm : ∀ {b : Bool},((listed.setIfInBounds i true).setIfInBounds j true).getD e b = (listed.setIfInBounds j true).getD e b := by
    intro b
    rw [Array.setIfInBounds_comm _ _ (Ne.symm hji)]
    by_cases h1 : i < (listed.setIfInBounds j true).size
    ·simp [Array.getD_eq_getD_getElem?,Array.getElem?_setIfInBounds,hie]
    ·rw [Array.setIfInBounds_eq_of_size_le (by omega)]
   refine wpOp_mono (fun a' w' h3 => ⟨fun h => h3.2.1 (by rw [hcomm]; exact h),ih (listed.setIfInBounds j true) a' w' (fun k ok hk hki hun hno' => hfree k ok hk hki ?_ hno') (ready_mono hr (Ne.symm hji)) h3.1 (fun h => h3.2.1 (by rw [hcomm]; exact h)) ?_⟩) hs
   ·by_cases hjk : j = k
    ·subst hjk; exact hjun
    ·rw [getD_set_ne true hjk] at hun; exact hun
   ·rw [Array.setIfInBounds_comm _ _ hji]
    exact h3.2.2
end
section
variable {n : Nat} {P : Program} {ops : Array Oper} {Q : Bd n} {S : World → Prop} {e fuel : Nat} {listed : Array Bool} {f : Fm n} {W : World}
theorem Bf (i : Nat) {d : Tmp} {op : Op} {ty : TypeId} {pos : String} {aft : Array Edge} {g : Option (Nat × Bool)} {v : Value} (hi : ops[i]? = some ⟨some d,op,ty,pos,aft,g⟩) (hk : (tk ops listed i && (i != e)) = true) (hN : ∀ c f W,¬ Q (.panic c) f W) (hw : wanted ops f g = true)
  (hy : ∀ w,Ru P op ty f w = .ok (.value v) w) (hS : listed.getD e false = false → S W) (h : AE P ops Q S e fuel (listed.setIfInBounds i true) (up f d v) W) : AE P ops Q S e (fuel + 1) listed f W := by
 simp only [tk,Bool.and_eq_true,bne_iff_ne,ne_eq] at hk
 obtain ⟨⟨⟨h1,h2⟩,h3⟩,h5⟩ := hk
 refine ⟨anyE_firstF (v := v) hi h5 (Region.noSelect_spec h1) (fun c a w => ?_) fuel listed _ _ (Region.free_spec hi h2) (by simpa using h3) (.inl ⟨by rw [BI]; exact hw,fun w _ => ?_⟩) hS ?_⟩
 ·rintro ⟨f',_,hq⟩; exact hN c f' w hq
 ·rw [Ba,Ce]; exact hy w
 ·rw [show (act f).put (⟨some d,op,ty,pos,aft,g⟩ : Oper).dst v = act (up f d v) from Cc f d v]
  exact h.out
end
def decS (n : Nat) : ByteArray := ⟨(Lib.decDigits n).toArray⟩
theorem Ez (u : Nat) : (Lib.decDigits u).foldl (fun a b => 10 * a + (b.toNat - 48)) 0 = u := by
 induction u using Nat.strongRecOn with
 | ind u ih =>
  unfold Lib.decDigits
  split
  ·simp only [List.foldl_cons,List.foldl_nil,UInt8.toNat_ofNat']
   omega
  ·rw [List.foldl_append,ih (u / 10) (by omega)]
   simp only [List.foldl_cons,List.foldl_nil,UInt8.toNat_ofNat']
   omega
theorem decS_inj {m n : Nat} (h : decS m = decS n) : m = n := by
 unfold decS at h
 injection h with h
 have h2 : Lib.decDigits m = Lib.decDigits n := by
  have := congrArg Array.toList h
  simpa using this
 rw [← Ez m,← Ez n,h2]
theorem Jd (n : Nat) (hn : n ≤ 9223372036854775807) (w : World) (hG : Glob w) : Calls Tryz.prog 61 #[.int .i64 (n : Nat)] w fun e w' => e = .returned (.string (decS n)) ∧ Below w.heap.size w w' := by
 refine (Tryz.strconv_Itoa (n : Nat) (by omega) (by omega) w hG.pow).mono ?_
 rintro e w' ⟨rfl,k,os,rfl⟩
 refine ⟨by unfold decS; rw [Lib.itoa_nonneg],rfl,rfl,rfl,?_,fun i hi => ?_⟩
 ·show w.heap.size ≤ (w.heap ++ os).size
  rw [Array.size_append]
  omega
 ·show (w.heap ++ os)[i]? = w.heap[i]?
  rw [Array.getElem?_append_left hi]
def EF (N : Nat) (o : List Nat) : List Bool := (List.range N).map fun u => decide (u ∈ o)
theorem Et (N : Nat) (o : List Nat) : (EF N o).length = N := by simp [EF]
theorem E3 {N u : Nat} {o : List Nat} (hu : u < N) : (EF N o)[u]? = some (decide (u ∈ o)) := by
 unfold EF
 rw [List.getElem?_map,List.getElem?_range hu]
 rfl
theorem Ft {N u : Nat} {o : List Nat} (hu : u < N) : (EF N o).set u true = EF N (o ++ [u]) := by
 apply List.ext_getElem?
 intro i
 rw [List.getElem?_set]
 by_cases hi : i < N
 ·rw [Et,E3 hi,E3 hi]
  by_cases h : u = i
  ·subst h; rw [if_pos rfl,if_pos hu]; simp
  ·rw [if_neg h]
   congr 1
   simp only [List.mem_append,List.mem_singleton,decide_eq_decide]
   exact ⟨.inl,fun h' => h'.elim id (fun e => absurd e.symm h)⟩
 ·have h1 : (EF N o)[i]? = none := List.getElem?_eq_none (by rw [Et]; omega)
  have h2 : (EF N (o ++ [u]))[i]? = none := List.getElem?_eq_none (by rw [Et]; omega)
  rw [h1,h2,if_neg (by omega)]
def Bt (o : List Nat) : List Int := o.map fun u : Nat => (u : Int)
theorem Bp (o : List Nat) : (Bt o).length = o.length := by simp [Bt]
theorem Dg (o : List Nat) (u : Nat) : Bt (o ++ [u]) = Bt o ++ [(u : Int)] := by simp [Bt]
theorem F8 {o : List Nat} {k s : Nat} (h : o[k]? = some s) : (Bt o)[k]? = some (s : Int) := by unfold Bt; rw [List.getElem?_map,h]; rfl
structure InvR (d : Df) (NA FA : Option Addr) (nc fc n0 bd bo bs gs sc : Nat) (C : Nat → Prop) (o : List Nat) (V : World) : Prop where
 bnd : ∀ k,C k → k < V.heap.size
 dblk : V.heap[bd]? = some (.cells (d.vals NA FA nc fc).toArray 35 (0,0))
 orow : ∃ A c,V.heap[bo]? = some (.cells #[.slice A o.length c] 22 (0,0)) ∧ (Kd.int .i64).R 3 V n0 C (.slice A o.length c) (Bt o)
 sblk : V.heap[bs]? = some (.cells #[.slice (some ⟨gs,0,none⟩) d.next.length sc] 33 (0,0))
 srow : Kd.bool.R 4 V n0 C (.slice (some ⟨gs,0,none⟩) d.next.length sc) (EF d.next.length o)
 cd : C bd
 co : C bo
 cs : C bs
 bo0 : n0 ≤ bo
 glob : Glob V
theorem InvR.move {d : Df} {NA FA : Option Addr} {nc fc n0 bd bo bs gs sc : Nat} {w0 : World} (h2 : 2 < n0) (hG0 : Glob w0) {C : Nat → Prop} {o : List Nat} {V V' : World} (h : InvR d NA FA nc fc n0 bd bo bs gs sc C o V) (hb : Below n0 w0 V') (hs : V.heap.size ≤ V'.heap.size) (hm : ∀ k,C k → V'.heap[k]? = V.heap[k]?) : InvR d NA FA nc fc n0 bd bo bs gs sc C o V' := by
 obtain ⟨A,c,ha,hr⟩ := h.orow
 exact ⟨fun k hk => Nat.lt_of_lt_of_le (h.bnd k hk) hs,(hm bd h.cd).trans h.dblk,⟨A,c,(hm bo h.co).trans ha,Kd.R_step hr (fun k hk _ => hm k hk)⟩,(hm bs h.cs).trans h.sblk,Kd.R_step h.srow (fun k hk _ => hm k hk),h.cd,h.co,h.cs,h.bo0,hG0.low hb h2⟩
theorem next60 (d : Df) (hd : d.Ok) (NA FA : Option Addr) (nc fc bd bo bs gs sc : Nat) (w0 : World) (h2 : 2 < w0.heap.size) (hG0 : Glob w0) (hr : DR d w0 NA FA) (C : Nat → Prop) (o : List Nat) (k s x : Nat) (V : World) (hB : Below w0.heap.size w0 V)
  (hI : InvR d NA FA nc fc w0.heap.size bd bo bs gs sc C o V) (hk : o[k]? = some s) (hx : x < 2 ^ d.vars) (hP : ∀ u ∈ o,u < d.next.length) (ho : o.length ≤ d.next.length) :
  Calls Tryz.prog 60 #[.int .i64 (k : Nat),.int .u8 (x : Nat),.pointer (some ⟨bd,0,none⟩),.pointer (some ⟨bo,0,none⟩),.pointer (some ⟨bs,0,none⟩)] V fun e V' =>
   e = .returned (.string (decS (d.step s x))) ∧ Below w0.heap.size w0 V' ∧ V.heap.size ≤ V'.heap.size ∧ (∀ k,k < V.heap.size → ¬ C k → V'.heap[k]? = V.heap[k]?) ∧ ∃ C' : Nat → Prop,(∀ k,C' k → C k ∨ V.heap.size ≤ k) ∧ InvR d NA FA nc fc w0.heap.size bd bo bs gs sc C' (BE o (d.step s x)) V' := by
 have hv := hd.v
 have hn := hd.n
 have hsn := hP s (List.mem_of_getElem? hk)
 have htn := Df.step_lt hd hsn hx
 have hkl := (List.getElem?_eq_some_iff.1 hk).1
 have hBs := hB.size
 obtain ⟨A,c,ha,hR⟩ := hI.orow
 have hRl := (Kd.R_reads' hR).2.2
 obtain ⟨ado,rfl,hco⟩ := Au hRl (F8 hk)
 obtain ⟨adn,adr,rc,rfl,hcS,hcT⟩ := (hr.below hB).at hd hsn hx
 have hbo0 := hI.bo0
 have hc2 : V.cell? ⟨bd,0 + 2,none⟩ = some (.slice (some adn) d.next.length nc) := (Ac hI.dblk 2).trans rfl
 have hca : V.cell? ⟨bo,0,none⟩ = some (.slice (some ado) o.length c) := (Ac ha 0).trans rfl
 have hcs : V.cell? ⟨bs,0,none⟩ = some (.slice (some ⟨gs,0,none⟩) d.next.length sc) := (Ac hI.sblk 0).trans rfl
 obtain ⟨ads,hads,hcu⟩ := Au (Kd.R_reads' hI.srow).2.2 (E3 (o := o) htn)
 injection hads with hads
 subst hads
 refine enter 34 Tryz.func60 G G _ (by simp) ?_
 refine ast G<|drt mixed 11 (by kernel_rfl) ?_
 intro V1 hb1 _ _
 have hc2 := Ae hb1 hc2
 have hca1 := Ae hb1 hca
 have hcs := Ae hb1 hcs
 have hco := Ae hb1 hco
 have hcS := Ae hb1 hcS
 have hcT := Ae hb1 hcT
 have hcu := Ae hb1 hcu
 have hB1 := Ad hB hb1
 have hI1 := hI.move h2 hG0 hB1 hb1.size (fun k hk => hb1.block k (hI.bnd k hk))
 refine spu (AQ Bz G)<|sru (Ai G27 G ‹_›)<|sru (Ai G22 G ‹_›)<|spu (mi_ G)<|spu (AU U22 Z3 G G (by first | assumption | omega))<|sru (Ai G3 G ‹_›)<|spu (AU U27 Z22 G G (by first | assumption | omega))<|sru (Ai G22 G ‹_›)<|spu (mi_ G)<|spu (AU U22 Z3 G G (by first | assumption | omega))<|sru (Ai G3 G ‹_›)<|?_
 refine ai G<|old G33 G ‹_›<|mi G<|AD U33 Z4 G G (by first | assumption | omega)<|old G4 G ‹_›<|ont G<|?_
 refine cut (σ := Unit) (fun _ => [(8,.int .i64 (d.step s x : Nat))]) (fun _ V' => Below w0.heap.size w0 V' ∧ V.heap.size ≤ V'.heap.size ∧ (∀ k,k < V.heap.size → ¬ C k → V'.heap[k]? = V.heap[k]?) ∧ ∃ C' : Nat → Prop,(∀ k,C' k → C k ∨ V.heap.size ≤ k) ∧ InvR d (some adn) FA nc fc w0.heap.size bd bo bs gs sc C' (BE o (d.step s x)) V') (by repeat' (first | exact BB | exact BD | exact Bl | refine Bi ?_ ?_ | refine Bk ?_ | refine Bj ?_ | refine AX _ ?_)) ?_ ?_
 ·by_cases hmem : d.step s x ∈ o
  ·have e : BE o (d.step s x) = o := by unfold BE; rw [if_pos hmem]
   rw [e,decide_eq_true hmem]
   refine cdf G ?_
   exact ⟨(),⟨rfl,rfl⟩,hB1,hb1.size,fun k hk _ => hb1.block k hk,C,fun k hk => .inl hk,hI1⟩
  ·have e : BE o (d.step s x) = o ++ [d.step s x] := by unfold BE; rw [if_neg hmem]
   rw [e,decide_eq_false hmem]
   refine cdt G<|Bu mixed (fun V => V.cell? ⟨bs,0,none⟩ = some (.slice (some ⟨gs,0,none⟩) d.next.length sc)) ?_
   intro V1' hb1' _ _
   have hb1 := Ad hb1 hb1'
   have hB1 := Ad hB1 hb1'
   have hI1 := hI1.move h2 hG0 hB1 hb1'.size (fun k hk => hb1'.block k (hI1.bnd k hk))
   have hS : V1'.cell? ⟨bs,0,none⟩ = some (.slice (some ⟨gs,0,none⟩) d.next.length sc) := Ae hb1' hcs
   have hca1 := Ae hb1' hca1
   clear hcs
   have hz1 := hb1.size
   have hRo : (Kd.int .i64).R 3 V1' w0.heap.size (fun i => C i ∨ V.heap.size ≤ i) (.slice (some ado) o.length c) (Bt o) := Kd.R_mono (Kd.R_below hR hb1) (fun _ h => .inl h)
   refine Aj 0 G (by kernel_rfl) (fun _ _ _ h => h) G (fun v hv => Ai G33 G hv) hS<|Aj 1 G (by kernel_rfl) (fun _ _ _ h => h) G (fun v _ => mi_ G v) hS<|Aj 3 G (by kernel_rfl) (fun _ _ _ h => h) G (fun v _ => mi_ G v) hS<|Em 2 4 (by kernel_rfl) G G ?_ ?_
   ·refine old G22 G hca1 ⟨hS,?_⟩
    refine AA 4 (by kernel_rfl) G<|BV (Kd.int .i64) V1'.heap.size (p := ((d.step s x : Nat) : Int)) (okp := fun _ => True) (AJ (u := .int .i64 (d.step s x : Nat)) U22 I3 G G) G G (Nat.le_refl _) ?_
    intro B2 c2 V2 hR2 hb2
    have hb12 := hb2
    have hb12' := Ad hb1 hb2
    have hS := Ae hb2 hS
    have hz2 := hb2.size
    refine ⟨hS,?_⟩
    refine AA 5 (by kernel_rfl) G ?_
    have hRo2 := Kd.R_below hRo hb12
    refine BW (Kd.int .i64) (Rr := (Kd.int .i64).K V2) U22 I3 G (by decide) (by decide) G G hRo2 (Kd.R_reads' hR2).2.2 (okp := fun i => V.heap.size ≤ i ∧ some i ≠ (Value.slice (some ado) o.length c).ownBlock) (fun _ _ h => h) (fun i h => ⟨.inr h.1,h.2⟩) (fun i hi => .inr (by omega)) (by omega) (by rw [Bp]; omega) ?_
    intro A4 c4 V4 hR4 hg4
    have hl4 : (Bt (o ++ [d.step s x])).length = o.length + 1 := by simp [Bp]
    rw [← Dg,hl4] at hR4
    rw [← Dg,hl4]
    have hkeep4 : ∀ {g t : Nat} {cs : Array Value},V2.heap[g]? = some (.cells cs t (0,0)) → t ≠ 3 → V4.heap[g]? = some (.cells cs t (0,0)) := fun {g t cs} h ht => (hg4.block g (Am h) (fun e => by
     obtain ⟨cells,hc⟩ := Kd.R_typed hRo2 g e.symm
     exact An h hc ht rfl)).trans h
    have hs4 := hkeep4 (Ab hI1.sblk hb2) (by decide)
    have hd4 := hkeep4 (Ab hI1.dblk hb2) (by decide)
    have ho4 := hkeep4 (Ab (Ab ha hb1) hb2) (by decide)
    have hsr4 := Kd.R_over (Kd.R_below hI1.srow hb2) hRo2 (by decide) hg4
    refine ⟨(Ac hs4 0).trans rfl,?_⟩
    refine AA 6 (by kernel_rfl) G<|Bc (v := .slice A4 (o.length + 1) c4) (cs := [.slice (some ado) o.length c]) (i := 0) S22 G G G ho4 (by simp) ?_
    intro V5 ho5 hg5
    have hs5 := (hg5.block bs (Am hs4) (fun e => An hs4 ho4 (by decide) (by injection e))).trans hs4
    have hd5 := (hg5.block bd (Am hd4) (fun e => An hd4 ho4 (by decide) (by injection e))).trans hd4
    have hsr5 := Ah hsr4 ho4 (by decide) hg5
    have hR5 := Ah hR4 ho4 (by decide) hg5
    refine ⟨(Ac hs5 0).trans rfl,?_⟩
    refine AA 7 (by kernel_rfl) G<|AD U33 Z4 G G htn ⟨(Ac hs5 0).trans rfl,?_⟩
    refine AA 8 (by kernel_rfl) G<|CG (k := d.step s x) (z := true) S4 hsr5 htn G G ?_
    intro V6 hsr6 hg6
    obtain ⟨cells6,hgs5⟩ := Kd.R_typed hsr5 gs rfl
    have hs6 := (hg6.block bs (Am hs5) (fun e => An hs5 hgs5 (by decide) (by injection e))).trans hs5
    have hd6 := (hg6.block bd (Am hd5) (fun e => An hd5 hgs5 (by decide) (by injection e))).trans hd5
    have ho6 := (hg6.block bo (Am ho5) (fun e => An ho5 hgs5 (by decide) (by injection e))).trans ho5
    have hR6 := Ah hR5 hgs5 (by decide) hg6
    rw [Ft htn] at hsr6
    refine ⟨(Ac hs6 0).trans rfl,?_⟩
    refine AY (by kernel_rfl) ?_
    have hB2 := Ad hB1 hb2
    have hz4 := hg4.size
    have hz5 := hg5.size
    have hz6 := hg6.size
    have hB4 := hB2.grown hg4 hB2.size (fun k hk => Kd.R_base hRo2 k hk)
    have hB5 := hB4.grown hg5 hB4.size (fun k e => by cases e; exact hbo0)
    have hB6 := hB5.grown hg6 hB5.size (fun k e => by cases e; exact Kd.R_base hsr5 gs rfl)
    have hsame : ∀ k,k < V.heap.size → ¬ C k → V6.heap[k]? = V.heap[k]? := fun k hk hc => by
     have h1 := hb12'.block k hk
     have h2 := hg4.block k (by omega) (fun e => hc (hR.1 k e.symm))
     have h3 := hg5.block k (by omega) (fun e => by injection e with e; subst e; exact hc hI.co)
     have h4 := hg6.block k (by omega) (fun e => by injection e with e; subst e; exact hc (hI.srow.1 k rfl))
     rw [h4,h3,h2,h1]
    refine ⟨(),⟨rfl,rfl⟩,hB6,by omega,hsame,fun i => C i ∨ (V.heap.size ≤ i ∧ i < V6.heap.size),fun i hi => hi.imp id (fun h => h.1),⟨fun i hi => ?_,hd6,⟨A4,c4,?_,?_⟩,hs6,Kd.R_mono hsr6 (fun i hi => .inl hi),.inl hI.cd,.inl hI.co,.inl hI.cs,hbo0,hG0.low hB6 h2⟩⟩
    ·rcases hi with h | h
     ·have := hI.bnd i h; omega
     ·exact h.2
    ·rw [List.length_append,List.length_singleton]; exact ho6
    ·rw [List.length_append,List.length_singleton]
     refine Kd.R_mono (Kd.R_bound hR6) (fun i hi => ?_)
     rcases hi.1 with h | h
     ·exact .inl h
     ·exact .inr ⟨h,hi.2.2.1⟩
   ·refine BV (Kd.int .i64) V1'.heap.size (p := ((d.step s x : Nat) : Int)) (okp := fun _ => True) (AJ (u := .int .i64 (d.step s x : Nat)) U22 I3 G G) G G (Nat.le_refl _) ?_
    intro B2 c2 V2 hR2 hb2
    have hb12 := hb2
    have hb12' := Ad hb1 hb2
    have hS := Ae hb2 hS
    have hz2 := hb2.size
    refine ⟨hS,?_⟩
    refine AA 2 (by kernel_rfl) G<|old G22 G (Ae hb2 hca1) ⟨hS,?_⟩
    refine AA 5 (by kernel_rfl) G ?_
    have hRo2 := Kd.R_below hRo hb12
    refine BW (Kd.int .i64) (Rr := (Kd.int .i64).K V2) U22 I3 G (by decide) (by decide) G G hRo2 (Kd.R_reads' hR2).2.2 (okp := fun i => V.heap.size ≤ i ∧ some i ≠ (Value.slice (some ado) o.length c).ownBlock) (fun _ _ h => h) (fun i h => ⟨.inr h.1,h.2⟩) (fun i hi => .inr (by omega)) (by omega) (by rw [Bp]; omega) ?_
    intro A4 c4 V4 hR4 hg4
    have hl4 : (Bt (o ++ [d.step s x])).length = o.length + 1 := by simp [Bp]
    rw [← Dg,hl4] at hR4
    rw [← Dg,hl4]
    have hkeep4 : ∀ {g t : Nat} {cs : Array Value},V2.heap[g]? = some (.cells cs t (0,0)) → t ≠ 3 → V4.heap[g]? = some (.cells cs t (0,0)) := fun {g t cs} h ht => (hg4.block g (Am h) (fun e => by
     obtain ⟨cells,hc⟩ := Kd.R_typed hRo2 g e.symm
     exact An h hc ht rfl)).trans h
    have hs4 := hkeep4 (Ab hI1.sblk hb2) (by decide)
    have hd4 := hkeep4 (Ab hI1.dblk hb2) (by decide)
    have ho4 := hkeep4 (Ab (Ab ha hb1) hb2) (by decide)
    have hsr4 := Kd.R_over (Kd.R_below hI1.srow hb2) hRo2 (by decide) hg4
    refine ⟨(Ac hs4 0).trans rfl,?_⟩
    refine AA 6 (by kernel_rfl) G<|Bc (v := .slice A4 (o.length + 1) c4) (cs := [.slice (some ado) o.length c]) (i := 0) S22 G G G ho4 (by simp) ?_
    intro V5 ho5 hg5
    have hs5 := (hg5.block bs (Am hs4) (fun e => An hs4 ho4 (by decide) (by injection e))).trans hs4
    have hd5 := (hg5.block bd (Am hd4) (fun e => An hd4 ho4 (by decide) (by injection e))).trans hd4
    have hsr5 := Ah hsr4 ho4 (by decide) hg5
    have hR5 := Ah hR4 ho4 (by decide) hg5
    refine ⟨(Ac hs5 0).trans rfl,?_⟩
    refine AA 7 (by kernel_rfl) G<|AD U33 Z4 G G htn ⟨(Ac hs5 0).trans rfl,?_⟩
    refine AA 8 (by kernel_rfl) G<|CG (k := d.step s x) (z := true) S4 hsr5 htn G G ?_
    intro V6 hsr6 hg6
    obtain ⟨cells6,hgs5⟩ := Kd.R_typed hsr5 gs rfl
    have hs6 := (hg6.block bs (Am hs5) (fun e => An hs5 hgs5 (by decide) (by injection e))).trans hs5
    have hd6 := (hg6.block bd (Am hd5) (fun e => An hd5 hgs5 (by decide) (by injection e))).trans hd5
    have ho6 := (hg6.block bo (Am ho5) (fun e => An ho5 hgs5 (by decide) (by injection e))).trans ho5
    have hR6 := Ah hR5 hgs5 (by decide) hg6
    rw [Ft htn] at hsr6
    refine ⟨(Ac hs6 0).trans rfl,?_⟩
    refine AY (by kernel_rfl) ?_
    have hB2 := Ad hB1 hb2
    have hz4 := hg4.size
    have hz5 := hg5.size
    have hz6 := hg6.size
    have hB4 := hB2.grown hg4 hB2.size (fun k hk => Kd.R_base hRo2 k hk)
    have hB5 := hB4.grown hg5 hB4.size (fun k e => by cases e; exact hbo0)
    have hB6 := hB5.grown hg6 hB5.size (fun k e => by cases e; exact Kd.R_base hsr5 gs rfl)
    have hsame : ∀ k,k < V.heap.size → ¬ C k → V6.heap[k]? = V.heap[k]? := fun k hk hc => by
     have h1 := hb12'.block k hk
     have h2 := hg4.block k (by omega) (fun e => hc (hR.1 k e.symm))
     have h3 := hg5.block k (by omega) (fun e => by injection e with e; subst e; exact hc hI.co)
     have h4 := hg6.block k (by omega) (fun e => by injection e with e; subst e; exact hc (hI.srow.1 k rfl))
     rw [h4,h3,h2,h1]
    refine ⟨(),⟨rfl,rfl⟩,hB6,by omega,hsame,fun i => C i ∨ (V.heap.size ≤ i ∧ i < V6.heap.size),fun i hi => hi.imp id (fun h => h.1),⟨fun i hi => ?_,hd6,⟨A4,c4,?_,?_⟩,hs6,Kd.R_mono hsr6 (fun i hi => .inl hi),.inl hI.cd,.inl hI.co,.inl hI.cs,hbo0,hG0.low hB6 h2⟩⟩
    ·rcases hi with h | h
     ·have := hI.bnd i h; omega
     ·exact h.2
    ·rw [List.length_append,List.length_singleton]; exact ho6
    ·rw [List.length_append,List.length_singleton]
     refine Kd.R_mono (Kd.R_bound hR6) (fun i hi => ?_)
     rcases hi.1 with h | h
     ·exact .inl h
     ·exact .inr ⟨h,hi.2.2.1⟩
 ·rintro _ f V2 ⟨hB2,hz2,hsame,C',hC',hI2⟩
  refine mi G<|cl C61 [] G ((Jd (d.step s x) (by omega) V2 hI2.glob).mono ?_)
  rintro e V3 ⟨rfl,hb3⟩
  refine ⟨_,rfl,?_⟩
  refine ast G<|?_
  have hz3 := hb3.size
  have hB3 := Ad hB2 hb3
  exact rt1 rfl rfl ⟨rfl,hB3,by omega,fun k hk hc => (hb3.block k (by omega)).trans (hsame k hk hc),C',hC',hI2.move h2 hG0 hB3 hb3.size (fun k hk => hb3.block k (hI2.bnd k hk))⟩
section
structure St28 (bd bz st N : Nat) (W0 : World) (b2 b6 b7 b8 b9 : Bool) (f : Fm 64) (W : World) : Prop where
 low : Below W0.heap.size W0 W
 sl : has f [] [(1,.pointer (some ⟨bd,0,none⟩)),(2,.pointer (some ⟨bz,0,none⟩)),(17,.int .i64 (st : Nat)),(21,.int .i64 (N : Nat))]
 r2 : b2 = true → ∃ A c,gt f 18 = .slice A 1 c ∧ (Kd.int .i64).R 3 W W0.heap.size (fun _ => True) (.slice A 1 c) [(st : Int)]
 r6 : b6 = true → ∃ A c,gt f 22 = .slice A N c ∧ Kd.bool.R 4 W W0.heap.size (fun _ => True) (.slice A N c) (List.replicate N false)
 r7 : b7 = true → ∃ b,gt f 5 = .pointer (some ⟨b,0,none⟩) ∧ W0.heap.size ≤ b ∧ W.heap[b]? = some (.cells [bif b9 then gt f 18 else .slice none 0 0].toArray 22 (0,0))
 r8 : b8 = true → ∃ b,gt f 6 = .pointer (some ⟨b,0,none⟩) ∧ W0.heap.size ≤ b ∧ W.heap[b]? = some (.cells [.slice none 0 0].toArray 33 (0,0))
 ok : b9 = true → b2 = true ∧ b7 = true ∧ b8 = true
def L28 (b2 b6 b7 b8 b9 : Bool) : Array Bool := #[true,true,b2,true,true,true,b6,b7,b8,b9,false]
def F28 (b2 b6 b7 b8 b9 : Bool) : Nat := (bif b2 then 0 else 1) + (bif b6 then 0 else 1) + (bif b7 then 0 else 1) + (bif b8 then 0 else 1) + (bif b9 then 0 else 1) + 1
def D28 (b2 b6 b7 b8 b9 : Bool) : List Nat := (bif b2 then [] else [2]) ++ (bif b6 then [] else [6]) ++ (bif b7 then [] else [7]) ++ (bif b8 then [] else [8]) ++ (bif b2 && b7 && b8 && !b9 then [9] else []) ++ (bif b2 && b6 && b7 && b8 && b9 then [10] else [])
variable {bd bz st N : Nat} {W0 : World} {b2 b6 b7 b8 b9 : Bool} {f : Fm 64} {W : World}
theorem St28.below {W1 : World} (h : St28 bd bz st N W0 b2 b6 b7 b8 b9 f W) (hb : Below W.heap.size W W1) : St28 bd bz st N W0 b2 b6 b7 b8 b9 f W1 :=
 ⟨Ad h.low hb,h.sl,fun e => by obtain ⟨A,c,h1,h2⟩ := h.r2 e; exact ⟨A,c,h1,Kd.R_below h2 hb⟩,fun e => by obtain ⟨A,c,h1,h2⟩ := h.r6 e; exact ⟨A,c,h1,Kd.R_below h2 hb⟩,
  fun e => by obtain ⟨b,h1,h2,h3⟩ := h.r7 e; exact ⟨b,h1,h2,Ab h3 hb⟩,fun e => by obtain ⟨b,h1,h2,h3⟩ := h.r8 e; exact ⟨b,h1,h2,Ab h3 hb⟩,h.ok⟩
variable {ops : Array Oper} {Q : Bd 64} {T : Fm 64 → World → Prop}
theorem s28_2 {ty : Nat} {pos : String} {aft : Array Edge} (h : St28 bd bz st N W0 false b6 b7 b8 b9 f W) (hk : ∀ f W,St28 bd bz st N W0 true b6 b7 b8 b9 f W → T f W) :
  LS Tryz.prog ops (thn T Q) ⟨some 18,.buildSlice 22 1 #[(0,.tmp 17)],ty,pos,aft,none⟩ [] f W := by
 have h9 : b9 = false := by cases hb : b9 with
  | false => rfl
  | true => have := (h.ok hb).1; cases this
 subst h9
 have hz := h.low.size
 refine BV (Kd.int .i64) W0.heap.size (p := (st : Int)) (okp := fun _ => True) (AJ (u := .int .i64 (st : Nat)) U22 I3 h.sl.2.2.1 G) G G hz ?_
 intro A c w1 hR hb
 have h1 := h.below hb
 exact hk _ _ ⟨h1.low,h1.sl,fun _ => ⟨A,c,rfl,hR⟩,h1.r6,h1.r7,h1.r8,fun e => by cases e⟩
theorem s28_6 {ty : Nat} {pos : String} {aft : Array Edge} (hN : N ≤ 4096) (h : St28 bd bz st N W0 b2 false b7 b8 b9 f W) (hk : ∀ f W,St28 bd bz st N W0 b2 true b7 b8 b9 f W → T f W) :
  LS Tryz.prog ops (thn T Q) ⟨some 22,.makeSlice 33 (.tmp 21) (.tmp 21),ty,pos,aft,none⟩ [] f W := by
 have hz := h.low.size
 refine omk Kd.bool U33 I4 h.sl.2.2.2.1 h.sl.2.2.2.1 false (fun _ => rfl) (by omega) G (by decide) (by decide) ?_
 intro A c w1 hR hb
 have h1 := h.below hb
 exact hk _ _ ⟨h1.low,h1.sl,h1.r2,fun _ => ⟨A,c,rfl,Kd.R_lower hR hz⟩,h1.r7,h1.r8,h1.ok⟩
theorem s28_7 {ty : Nat} {pos : String} {aft : Array Edge} (h : St28 bd bz st N W0 b2 b6 false b8 b9 f W) (hk : ∀ f W,St28 bd bz st N W0 b2 b6 true b8 b9 f W → T f W) :
  LS Tryz.prog ops (thn T Q) ⟨some 5,.alloc 22,ty,pos,aft,none⟩ [] f W := by
 have h9 : b9 = false := by cases hb : b9 with
  | false => rfl
  | true => have := (h.ok hb).2.1; cases this
 subst h9
 have hz := h.low.size
 refine oal (v := .slice none 0 0) (cs := [.slice none 0 0]) (fun _ => by kernel_rfl) G ?_
 intro b w1 hbe hbb hb
 have h1 := h.below hb
 exact hk _ _ ⟨h1.low,h1.sl,h1.r2,h1.r6,fun _ => ⟨b,rfl,by omega,hbb⟩,h1.r8,fun e => by cases e⟩
theorem s28_8 {ty : Nat} {pos : String} {aft : Array Edge} (h : St28 bd bz st N W0 b2 b6 b7 false b9 f W) (hk : ∀ f W,St28 bd bz st N W0 b2 b6 b7 true b9 f W → T f W) :
  LS Tryz.prog ops (thn T Q) ⟨some 6,.alloc 33,ty,pos,aft,none⟩ [] f W := by
 have h9 : b9 = false := by cases hb : b9 with
  | false => rfl
  | true => have := (h.ok hb).2.2; cases this
 subst h9
 have hz := h.low.size
 refine oal (v := .slice none 0 0) (cs := [.slice none 0 0]) (fun _ => by kernel_rfl) G ?_
 intro b w1 hbe hbb hb
 have h1 := h.below hb
 exact hk _ _ ⟨h1.low,h1.sl,h1.r2,h1.r6,h1.r7,fun _ => ⟨b,rfl,by omega,hbb⟩,fun e => by cases e⟩
theorem s28_9 {ty : Nat} {pos : String} {aft : Array Edge} (h : St28 bd bz st N W0 true b6 true true false f W) (hk : ∀ f W,St28 bd bz st N W0 true b6 true true true f W → T f W) :
  LS Tryz.prog ops (thn T Q) ⟨none,.store 22 (.tmp 5) (.tmp 18),ty,pos,aft,none⟩ [] f W := by
 obtain ⟨b,h1,h2,h3⟩ := h.r7 rfl
 obtain ⟨A,c,h4,h5⟩ := h.r2 rfl
 obtain ⟨b8,h6,h7,h8⟩ := h.r8 rfl
 refine Bc (v := .slice A 1 c) (cs := [.slice none 0 0]) (i := 0) S22 h1 h4 G h3 (by simp) ?_
 intro w1 hb1 hg
 refine hk _ _ ⟨h.low.grown hg h.low.size (fun k e => by cases e; exact h2),h.sl,fun _ => ⟨A,c,h4,Ah h5 h3 (by decide) hg⟩,fun e => by obtain ⟨A6,c6,h61,h62⟩ := h.r6 e; exact ⟨A6,c6,h61,Ah h62 h3 (by decide) hg⟩,
  fun _ => ⟨b,h1,h2,by rw [cond_true,h4]; exact hb1⟩,fun _ => ⟨b8,h6,h7,(hg.block b8 (Am h8) (fun e => An h8 h3 (by decide) (by injection e))).trans h8⟩,fun _ => ⟨rfl,rfl,rfl⟩⟩
structure En28 (bd bz st N : Nat) (W0 : World) (b5 b6' : Nat) (A2 A6 : Option Addr) (c2 c6 : Nat) (f : Fm 64) (W : World) : Prop where
 low : Below W0.heap.size W0 W
 sl : has f [] [(1,.pointer (some ⟨bd,0,none⟩)),(2,.pointer (some ⟨bz,0,none⟩)),(5,.pointer (some ⟨b5,0,none⟩)),(6,.pointer (some ⟨b6',0,none⟩))]
 o : (Kd.int .i64).R 3 W W0.heap.size (fun _ => True) (.slice A2 1 c2) [(st : Int)]
 s : Kd.bool.R 4 W W0.heap.size (fun _ => True) (.slice A6 N c6) (List.replicate N false)
 h5 : W0.heap.size ≤ b5 ∧ W.heap[b5]? = some (.cells [.slice A2 1 c2].toArray 22 (0,0))
 h6 : W0.heap.size ≤ b6' ∧ W.heap[b6']? = some (.cells [.slice A6 N c6].toArray 33 (0,0))
theorem s28_10 {ty : Nat} {pos : String} {aft : Array Edge} (h : St28 bd bz st N W0 true true true true true f W) (hk : ∀ b5 b6' A2 A6 c2 c6 f W,En28 bd bz st N W0 b5 b6' A2 A6 c2 c6 f W → T f W) :
  LS Tryz.prog ops (thn T Q) ⟨none,.store 33 (.tmp 6) (.tmp 22),ty,pos,aft,none⟩ [] f W := by
 obtain ⟨b,h1,h2,h3⟩ := h.r7 rfl
 obtain ⟨A,c,h4,h5⟩ := h.r2 rfl
 obtain ⟨b8,h6,h7,h8⟩ := h.r8 rfl
 obtain ⟨A6,c6,h9,h10⟩ := h.r6 rfl
 rw [cond_true,h4] at h3
 refine Bc (v := .slice A6 N c6) (cs := [.slice none 0 0]) (i := 0) S33 h6 h9 G h8 (by simp) ?_
 intro w1 hb1 hg
 exact hk b b8 A A6 c c6 _ _ ⟨h.low.grown hg h.low.size (fun k e => by cases e; exact h7),⟨h.sl.1,h.sl.2.1,h1,h6,h.sl.2.2.2.2⟩,Ah h5 h8 (by decide) hg,Ah h10 h8 (by decide) hg,⟨h2,(hg.block b (Am h3) (fun e => An h3 h8 (by decide) (by injection e))).trans h3⟩,⟨h7,hb1⟩⟩
theorem r28_4 {ops : Array Oper} {Q : Bd 64} {S : World → Prop} (hS : ∀ W,Below W0.heap.size W0 W → S W) {t2 t6 t7 t8 t9 t10 : Nat} {p2 p6 p7 p8 p9 p10 : String} {a2 a6 a7 a8 a9 a10 : Array Edge} (hN : N ≤ 4096)
  (o2 : ops[2]? = some ⟨some 18,.buildSlice 22 1 #[(0,.tmp 17)],t2,p2,a2,none⟩)
  (o6 : ops[6]? = some ⟨some 22,.makeSlice 33 (.tmp 21) (.tmp 21),t6,p6,a6,none⟩)
  (o7 : ops[7]? = some ⟨some 5,.alloc 22,t7,p7,a7,none⟩)
  (o8 : ops[8]? = some ⟨some 6,.alloc 33,t8,p8,a8,none⟩)
  (o9 : ops[9]? = some ⟨none,.store 22 (.tmp 5) (.tmp 18),t9,p9,a9,none⟩)
  (o10 : ops[10]? = some ⟨none,.store 33 (.tmp 6) (.tmp 22),t10,p10,a10,none⟩)
  (hr : ∀ b2 b6 b7 b8 b9,(b9 = true → b2 = true ∧ b7 = true ∧ b8 = true) → Region.ready .any ops (L28 b2 b6 b7 b8 b9) = D28 b2 b6 b7 b8 b9)
  (he : Region.ready .any ops #[true,true,true,true,true,true,true,true,true,true,true] = [])
  (hQ : ∀ b5 b6' A2 A6 c2 c6 f W,En28 bd bz st N W0 b5 b6' A2 A6 c2 c6 f W → Q .normal f W) :
  ∀ (m : Nat) (b2 b6 b7 b8 b9 : Bool) (f : Fm 64) (W : World),F28 b2 b6 b7 b8 b9 = m → St28 bd bz st N W0 b2 b6 b7 b8 b9 f W → AH Tryz.prog ops Q S m (L28 b2 b6 b7 b8 b9) f W := by
 intro m
 induction m with
 | zero => intro b2 b6 b7 b8 b9 f W h; unfold F28 at h; omega
 | succ m ih =>
  intro b2 b6 b7 b8 b9 f W hm h
  have hl := hr b2 b6 b7 b8 b9 h.ok
  refine KO hl (by cases b2 <;> cases b6 <;> cases b7 <;> cases b8 <;> cases b9 <;> simp [D28] <;> exact absurd (h.ok G) (by decide)) ?_
  intro i hi
  have hcase : (i = 2 ∧ b2 = false) ∨ (i = 6 ∧ b6 = false) ∨ (i = 7 ∧ b7 = false) ∨ (i = 8 ∧ b8 = false) ∨ (i = 9 ∧ b2 = true ∧ b7 = true ∧ b8 = true ∧ b9 = false) ∨ (i = 10 ∧ b2 = true ∧ b6 = true ∧ b7 = true ∧ b8 = true ∧ b9 = true) := by
   revert hi
   unfold D28
   cases b2 <;> cases b6 <;> cases b7 <;> cases b8 <;> cases b9 <;> simp
  rcases hcase with ⟨rfl,rfl⟩ | ⟨rfl,rfl⟩ | ⟨rfl,rfl⟩ | ⟨rfl,rfl⟩ | ⟨rfl,rfl,rfl,rfl,rfl⟩ | ⟨rfl,rfl,rfl,rfl,rfl,rfl⟩
  ·exact ⟨_,o2,s28_2 h (fun f W h' => ⟨hS _ h'.low,ih true b6 b7 b8 b9 f W (by unfold F28 at hm ⊢; simp only [cond_false,cond_true] at hm ⊢; omega) h'⟩)⟩
  ·exact ⟨_,o6,s28_6 hN h (fun f W h' => ⟨hS _ h'.low,ih b2 true b7 b8 b9 f W (by unfold F28 at hm ⊢; simp only [cond_false,cond_true] at hm ⊢; omega) h'⟩)⟩
  ·exact ⟨_,o7,s28_7 h (fun f W h' => ⟨hS _ h'.low,ih b2 b6 true b8 b9 f W (by unfold F28 at hm ⊢; simp only [cond_false,cond_true] at hm ⊢; omega) h'⟩)⟩
  ·exact ⟨_,o8,s28_8 h (fun f W h' => ⟨hS _ h'.low,ih b2 b6 b7 true b9 f W (by unfold F28 at hm ⊢; simp only [cond_false,cond_true] at hm ⊢; omega) h'⟩)⟩
  ·exact ⟨_,o9,s28_9 h (fun f W h' => ⟨hS _ h'.low,ih true b6 true true true f W (by unfold F28 at hm ⊢; simp only [cond_false,cond_true] at hm ⊢; omega) h'⟩)⟩
  ·exact ⟨_,o10,s28_10 h (fun b5 b6' A2 A6 c2 c6 f W h' => ⟨hS _ h'.low,AY he (hQ b5 b6' A2 A6 c2 c6 f W h')⟩)⟩
end
def Df.ord (d : Df) (K : Nat) : List Nat := AZ d.step (2 ^ d.vars) d.start K
def Df.finO (d : Df) (s : Nat) : Bool := d.fin.getD s false
theorem seenL_one {N s : Nat} (hs : s < N) : (List.replicate N false).set s true = EF N [s] := by
 rw [show ([s] : List Nat) = [] ++ [s] from rfl,← Ft hs]
 congr 1
 apply List.ext_getElem?
 intro i
 by_cases hi : i < N
 ·rw [E3 hi]; simp [hi]
 ·rw [List.getElem?_eq_none (by simp; omega),List.getElem?_eq_none (by rw [Et]; omega)]
theorem JD (d : Df) (hd : d.Ok) (NA FA : Option Addr) (nc fc : Nat) (w : World) (hr : DR d w NA FA) (hG : Glob w) :
  Calls Tryz.prog 28 #[.agg (d.vals NA FA nc fc).toArray] w fun e w' => ∃ NB nc' BA bc K,e = .returned (.tuple #[.agg (dcs d.vars 0 NB BA K nc' K bc).toArray,.int .i64 0]) ∧ (d.ord K).length = K ∧
   Kii.R 22 w' w.heap.size (fun _ => True) (.slice NB K nc') (Cg d.step (2 ^ d.vars) d.start K) ∧ Kd.bool.R 4 w' w.heap.size (fun _ => True) (.slice BA K bc) ((d.ord K).map d.finO) ∧ Below w.heap.size w w' := by
 have hv := hd.v
 have hn := hd.n
 have hs := hd.s
 have hf := hd.f
 have h64 : 2 ^ d.vars ≤ 64 := Nat.pow_le_pow_right (n := 2) (by decide) hd.v
 have hGl := hG.lt
 refine enter 64 Tryz.func28 G G _ (by simp) ?_
 refine obx (cs := d.vals NA FA nc fc) G G ?_
 intro b w1 hbe hbb hb1
 refine oal (v := .agg (dcs 0 0 none none 0 0 0 0).toArray) (cs := dcs 0 0 none none 0 0 0 0) (fun _ => by kernel_rfl) G ?_
 intro bz w2 hze hzb hb2
 have hbbl := Am hbb
 have hzl := Am hzb
 have hbb := Ab hbb hb2
 have hB := Ad hb1 hb2
 refine ai G<|AV (vs := d.vals NA FA nc fc) G35 S35 G (Ak hbb)<|cl C43 [] G ((ED d hd NA FA nc fc w2 (hr.below hB)).mono ?_)
 rintro e w3 ⟨rfl,hb3⟩
 refine ⟨_,rfl,?_⟩
 have hbb := Ab hbb hb3
 have hzb := Ab hzb hb3
 have hB := Ad hB hb3
 have hs1 := hb1.size
 have hs2 := hb2.size
 have hs3 := hb3.size
 refine ai G<|mi G<|one G G<|cdf G<|Bu mixed (fun V => V.heap[b]? = some (.cells (d.vals NA FA nc fc).toArray 35 (0,0))) ?_
 intro w4 hb4 _ _
 have hS := Ab hbb hb4
 have hzb := Ab hzb hb4
 have hB := Ad hB hb4
 have hs4 := hb4.size
 refine Aj 0 G (by kernel_rfl) (fun _ _ _ h => h) G (fun v _ => AQ CT G v) hS<|Aj 1 G (by kernel_rfl) (fun _ _ _ h => h) G (fun v hv => Ai G3 G ((Ac hv _).trans G)) hS<|Aj 3 G (by kernel_rfl) (fun _ _ _ h => h) G (fun v _ => AQ Bz G v) hS<|Aj 4 G (by kernel_rfl) (fun _ _ _ h => h) G (fun v hv => Ai G27 G ((Ac hv _).trans G)) hS<|Aj 5 G (by kernel_rfl) (fun _ _ _ h => h) G (fun v _ => Ec U27 G v) hS<|r28_4 (W0 := w4) (bd := b) (bz := bz) (st := d.start) (N := d.next.length) (fun W hW => Ab hS hW) hn rfl rfl rfl rfl rfl rfl ?_ (by kernel_rfl) ?_ 6 false false false false false _ w4 rfl ⟨Below.refl _ _,⟨rfl,rfl,rfl,rfl,rfl⟩,fun h => (by cases h),fun h => (by cases h),fun h => (by cases h),fun h => (by cases h),fun h => (by cases h)⟩
 ·intro b2 b6 b7 b8 b9 h
  cases b2 <;> cases b6 <;> cases b7 <;> cases b8 <;> cases b9 <;> first | exact absurd (h rfl) (by decide) | kernel_rfl
 rintro bo bs A2 A6 c2 c6 f w5 H
 obtain ⟨hB5,hsl,hRo,hRs,⟨hbo,hob⟩,⟨hbs,hsb⟩⟩ := H
 obtain ⟨rr,hA6⟩ : ∃ g,A6 = some ⟨g,0,none⟩ := by
  obtain ⟨g,_,hv,_⟩ := Kd.R_form hRs (by simp; omega)
  injection hv with hv _ _
  exact ⟨g,hv⟩
 subst hA6
 refine AX _ (by repeat' (first | exact BB | exact BD | exact Bl | refine Bi ?_ ?_ | refine Bk ?_ | refine Bj ?_ | refine AX _ ?_)) _ f w5 (BS _ f hsl) ?_
 have hs5 := hB5.size
 have hbb5 := Ab hS hB5
 have hzb5 := Ab hzb hB5
 have hBw5 := Ad hB hB5
 have hc1 : w5.cell? ⟨b,0 + 1,none⟩ = some (.int .i64 (d.start : Nat)) := (Ac hbb5 1).trans rfl
 have hcs : w5.cell? ⟨bs,0,none⟩ = some (.slice (some ⟨rr,0,none⟩) d.next.length c6) := (Ac hsb 0).trans rfl
 refine old G33 G ‹_›<|ofa CT G<|old G3 G ‹_›<|AD U33 Z4 G G (by first | assumption | omega)<|?_
 refine CG (enc := fun x => Value.bool x) (h1 := fun _ => rfl) (k := d.start) (z := true) S4 hRs hs G G ?_
 intro w6 hRs6 hg6
 rw [seenL_one hs] at hRs6
 obtain ⟨cells5,hrr5⟩ := Kd.R_typed hRs rr rfl
 have hob6 := (hg6.block bo (Am hob) (fun e => An hob hrr5 (by decide) (by injection e))).trans hob
 have hsb6 := (hg6.block bs (Am hsb) (fun e => An hsb hrr5 (by decide) (by injection e))).trans hsb
 have hbb6 := (hg6.block b (Am hbb5) (fun e => An hbb5 hrr5 (by decide) (by injection e))).trans hbb5
 have hzb6 := (hg6.block bz (Am hzb5) (fun e => An hzb5 hrr5 (by decide) (by injection e))).trans hzb5
 have hRo6 := Ah hRo hrr5 (by decide) hg6
 have hrr0 := Kd.R_base hRs rr rfl
 have hBw6 := hBw5.grown hg6 hBw5.size (fun k e => by cases e; omega)
 have hs6 := hg6.size
 refine pl (.func (.func 60) #[] #[.pointer (some ⟨b,0,none⟩),.pointer (some ⟨bo,0,none⟩),.pointer (some ⟨bs,0,none⟩)]) (fun _ => by kernel_rfl)<|af G<|?_
 have hc0 : w6.cell? ⟨b,0 + 0,none⟩ = some (.int .i64 (d.vars : Nat)) := (Ac hbb6 0).trans rfl
 refine ofa CE G<|old G3 G ‹_›<|ofa CE G<|Bc (v := .int .i64 (d.vars : Nat)) (cs := dcs 0 0 none none 0 0 0 0) (i := 0 + 0) S3 G G G hzb6 (by simp) ?_
 intro w7 hzb7 hg7
 have hzb7 : w7.heap[bz]? = some (.cells (dcs d.vars 0 none none 0 0 0 0).toArray 35 (0,0)) := hzb7
 have hne : b ≠ bz := by omega
 have hbb7 := (hg7.block b (Am hbb6) (fun e => by injection e with e; exact hne e)).trans hbb6
 have hob7 := (hg7.block bo (Am hob6) (fun e => An hob6 hzb6 (by decide) (by injection e))).trans hob6
 have hsb7 := (hg7.block bs (Am hsb6) (fun e => An hsb6 hzb6 (by decide) (by injection e))).trans hsb6
 have hRo7 := Ah hRo6 hzb6 (by decide) hg7
 have hRs7 := Ah hRs6 hzb6 (by decide) hg7
 have hbz0 : w.heap.size ≤ bz := by omega
 have hBw7 := hBw6.grown hg7 hBw6.size (fun k e => by cases e; exact hbz0)
 have hs7 := hg7.size
 clear hRo6 hRs6 hRo hRs hob hob6 hsb hsb6 hbb hbb5 hbb6 hzb hzb5 hzb6 hg6 hg7 hS hb1 hb2 hb3 hb4 hc0 hc1 hcs hrr5 hB5 hBw5 hBw6 hsl
 obtain ⟨C0,hC0⟩ : ∃ C0 : Nat → Prop,C0 = fun k => k = b ∨ (w4.heap.size ≤ k ∧ k < w7.heap.size) := ⟨_,rfl⟩
 have hI0 : InvR d NA FA nc fc w.heap.size b bo bs rr c6 C0 [d.start] w7 := by
  subst hC0
  refine ⟨fun k hk => ?_,hbb7,⟨A2,c2,hob7,Kd.R_lower (Kd.R_mono (Kd.R_bound hRo7) (fun k hk => .inr ⟨hk.2.1,hk.2.2.1⟩)) (by omega)⟩,hsb7,Kd.R_lower (Kd.R_mono (Kd.R_bound hRs7) (fun k hk => .inr ⟨hk.2.1,hk.2.2.1⟩)) (by omega),.inl rfl,.inr ⟨hbo,Am hob7⟩,.inr ⟨hbs,Am hsb7⟩,by omega,hG.low hBw7 hGl⟩
  rcases hk with rfl | h
  ·omega
  ·exact h.2
 have E : Expl decS d.step (2 ^ d.vars) d.next.length d.start (· < d.next.length) w.heap.size w 60 [.pointer (some ⟨b,0,none⟩),.pointer (some ⟨bo,0,none⟩),.pointer (some ⟨bs,0,none⟩)] (InvR d NA FA nc fc w.heap.size b bo bs rr c6) :=
  {hL := ⟨Nat.two_pow_pos _,h64⟩
   hN := hn
   callable := ⟨_,Tryz.func60,by kernel_rfl,by kernel_rfl⟩
   move := fun C o V V' _ hI hb hs hm => hI.move hGl hG hb hs hm
   lt := fun C o V hI => hI.bnd
   start := hs
   closed := fun s x h1 h2 => Df.step_lt hd h1 h2
   inj := fun s t _ _ h => decS_inj h
   many := fun o hn h => Cw _ o hn h
   next := fun C o k s x V hB hI hk hx hP ho => next60 d hd NA FA nc fc b bo bs rr c6 w hGl hG hr C o k s x V hB hI hk hx hP ho }
 refine Bu mixed (fun V => V.heap[b]? = some (.cells (d.vals NA FA nc fc).toArray 35 (0,0))) ?_
 intro w8 hb8 _ _
 have hS := Ab hbb7 hb8
 have hs8 := hb8.size
 refine Aj 0 G (by kernel_rfl) (fun _ _ _ h => h) G (fun v _ => AQ CE G v) hS<|Aj 1 G (by kernel_rfl) (fun _ _ _ h => h) G (fun v hv => Ai G3 G ((Ac hv _).trans G)) hS<|Aj 2 G (by kernel_rfl) (fun _ _ _ h => h) G (fun v _ => I7 G (by omega) v) hS<|?_
 refine Aj 3 G (by kernel_rfl) (fun _ _ _ h => h) G (fun v _ => AQ Bz G v) hS<|Aj 4 G (by kernel_rfl) (fun _ _ _ h => h) G (fun v hv => Ai G27 G ((Ac hv _).trans G)) hS<|Aj 5 G (by kernel_rfl) (fun _ _ _ h => h) G (fun v _ => Ec U27 G v) hS<|Aj 6 G (by kernel_rfl) (fun _ _ _ h => h) G (fun v _ => AQ CT G v) hS<|Aj 7 G (by kernel_rfl) (fun _ _ _ h => h) G (fun v hv => Ai G3 G ((Ac hv _).trans G)) hS<|Aj 9 G (by kernel_rfl) (fun _ _ _ h => h) G (fun v _ => mf_ G v) hS<|?_
 have hBw8 := Ad hBw7 hb8
 refine AA 8 (by kernel_rfl) G<|cl C61 [] G ((Jd d.start (by omega) w8 (hG.low hBw8 hGl)).mono ?_)
 rintro e w9 ⟨rfl,hb9⟩
 have hs9 := hb9.size
 have hS := Ab hS hb9
 refine ⟨_,rfl,hS,?_⟩
 have hb79 := Ad hb8 hb9
 have hBw9 := Ad hBw7 hb79
 have hI9 := hI0.move hGl hG hBw9 (by omega) (fun k hk => hb79.block k (hI0.bnd k hk))
 refine AA 10 (by kernel_rfl) G<|cl (⟨_,Tryz.func35,by kernel_rfl,by kernel_rfl⟩ : Ag Tryz.prog 35) [] G ((HA E d.next.length (Nat.le_refl _) C0 w9 hBw9 (by omega) hI9).mono ?_)
 rintro e w10 ⟨NB,nc',K,C',rfl,hK,hRn,hI10,hsub,hold,hBw10⟩
 have hS := hI10.dblk
 refine ⟨_,rfl,hS,?_⟩
 have hzb9 := Ab hzb7 hb79
 have hzlt7 : bz < w4.heap.size := by omega
 have hzb10 : w10.heap[bz]? = some (.cells (dcs d.vars 0 none none 0 0 0 0).toArray 35 (0,0)) := by
  refine (hold bz (Am hzb9) (fun hc => ?_)).trans hzb9
  subst hC0
  rcases hc with h | h <;> omega
 have hnz : ¬ C' bz := fun hc => by
  rcases hsub bz hc with h | h
  ·subst hC0
   rcases h with h | h <;> omega
  ·omega
 refine Aj 11 G (by kernel_rfl) (fun _ _ _ h => h) G (fun v _ => mv_ G v) hS<|Aj 12 G (by kernel_rfl) (fun _ _ _ h => h) G (fun v _ => Ef G G v) hS<|Aj 13 G (by kernel_rfl) (fun _ _ _ h => h) G (fun v _ => Ef G G v) hS<|Aj 14 G (by kernel_rfl) (fun _ _ _ h => h) G (fun v _ => AQ Bz G v) hS<|AA 15 (by kernel_rfl) G<|Bc (v := .slice NB K nc') (cs := dcs d.vars 0 none none 0 0 0 0) (i := 0 + 2) S27 G G G hzb10 (by simp) ?_
 intro w11 hzb11 hg11
 have hzb11 : w11.heap[bz]? = some (.cells (dcs d.vars 0 NB none K nc' 0 0).toArray 35 (0,0)) := hzb11
 have hbb11 := (hg11.block b (Am hS) (fun e => by injection e with e; exact hne e)).trans hS
 refine ⟨hbb11,?_⟩
 refine AY (by kernel_rfl) ?_
 obtain ⟨Ao,co,hob,hRo⟩ := hI10.orow
 have hob11 := (hg11.block bo (Am hob) (fun e => An hob hzb10 (by decide) (by injection e))).trans hob
 have hRo11 : (Kd.int .i64).R 3 w11 w.heap.size (fun _ => True) (.slice Ao (d.ord K).length co) (Bt (d.ord K)) := Kd.R_mono (Ah hRo hzb10 (by decide) hg11) (fun _ _ => trivial)
 have hs9' : w.heap.size ≤ w9.heap.size := by omega
 have hRn11 : Kii.R 22 w11 w.heap.size (fun _ => True) (.slice NB K nc') (Cg d.step (2 ^ d.vars) d.start K) := Kd.R_lower (Kd.R_mono (Ah hRn hzb10 (by decide) hg11) (fun _ _ => trivial)) hs9'
 have hBw11 := hBw10.grown hg11 hBw10.size (fun k e => by cases e; exact hbz0)
 have hK' : (d.ord K).length = K := hK
 have hall : ∀ u ∈ d.ord K,u < d.next.length := DM d.step (P := (· < d.next.length)) hs (fun s x h1 h2 => Df.step_lt hd h1 h2) K
 have hKle : K ≤ d.next.length := by
  have h1 := Cw d.next.length (d.ord K) (B4 d.step (2 ^ d.vars) d.start K) hall
  omega
 clear hob hRo hRn hI10 hzb10 hzb9 hg11 hS hI9 E hold hsub hnz hI0 hC0 hb79 hb8 hb9 hBw7 hBw8 hBw9 hBw10 hbb7 hob7 hsb7 hzb7 hRo7 hRs7 hB
 have hca : w11.cell? ⟨bo,0,none⟩ = some (.slice Ao (d.ord K).length co) := (Ac hob11 0).trans rfl
 refine old G22 G ‹_›<|oln U22 G<|mi G<|lp (σ := Nat × Option Addr × Nat) (fun q => [(1,.pointer (some ⟨b,0,none⟩)),(2,.pointer (some ⟨bz,0,none⟩)),(46,.slice Ao (d.ord K).length co),(47,.int .i64 (d.ord K).length),(48,.int .i64 q.1)])
  (fun q V => q.1 ≤ (d.ord K).length ∧ Below w.heap.size w V ∧ V.heap[bz]? = some (.cells (dcs d.vars 0 NB q.2.1 K nc' q.1 q.2.2).toArray 35 (0,0)) ∧ V.heap[b]? = some (.cells (d.vals NA FA nc fc).toArray 35 (0,0)) ∧ (Kd.int .i64).R 3 V w.heap.size (fun _ => True) (.slice Ao (d.ord K).length co) (Bt (d.ord K)) ∧ Kii.R 22 V w.heap.size (fun _ => True) (.slice NB K nc') (Cg d.step (2 ^ d.vars) d.start K) ∧
   Kd.bool.R 4 V w.heap.size (fun _ => True) (.slice q.2.1 q.1 q.2.2) (((d.ord K).take q.1).map d.finO)) (fun q => (d.ord K).length - q.1) (0,none,0) ⟨rfl,rfl,rfl,rfl,rfl,rfl⟩ ⟨Nat.zero_le _,hBw11,hzb11,hbb11,hRo11,hRn11,Kd.R_nil _ _ _ _ _⟩ ?_
 clear hBw11 hzb11 hbb11 hRo11 hRn11 hob11 hca
 rintro ⟨k,BA,bc⟩ f V ⟨hk,hB,hzb,hbb,hRo,hRn,hRb⟩
 simp only at hk hzb hRb
 refine olt G G<|cdd G (fun hlt0 => ?_) (fun hge0 => ?_)
 ·have hlt : k < (d.ord K).length := Int.ofNat_lt.1 hlt0
  obtain ⟨s,hss⟩ : ∃ s,(d.ord K)[k]? = some s := ⟨_,gE hlt⟩
  have hsn := hall s (List.mem_of_getElem? hss)
  have htake : (d.ord K).take (k + 1) = (d.ord K).take k ++ [s] := by rw [List.take_succ_eq_append_getElem hlt]; rw [gE hlt] at hss; injection hss with hss; rw [hss]
  have htl : ((d.ord K).take k).length = k := by rw [List.length_take]; omega
  obtain ⟨ado,rfl,hco⟩ := Au (Kd.R_reads' hRo).2.2 (F8 hss)
  have hlf : s < d.fin.length := by rw [hf]; exact hsn
  obtain ⟨z,hz⟩ : ∃ z,d.fin[s]? = some z := ⟨_,gE hlf⟩
  have hzf : d.finO s = z := by unfold Df.finO; rw [gD,hz]; rfl
  obtain ⟨adf,rfl,hcf⟩ := Au (Kd.C_below hr.fin hB) hz
  refine AD U22 Z3 G G (by first | assumption | omega)<|old G3 G ‹_›<|ai G<|?_
  refine Bv 10 mixed (fun V => V.cell? ⟨bz,0 + 3,none⟩ = some (.slice BA k bc) ∧ V.cell? ⟨b,0 + 3,none⟩ = some (.slice (some adf) d.fin.length fc) ∧ V.cell? (adf.add (s * 1)) = some (.bool z)) ?_
  intro V1 hb1 _ _
  have hS := (⟨Ae hb1 ((Ac hzb 3).trans rfl),Ae hb1 ((Ac hbb 3).trans rfl),Ae hb1 hcf⟩ : V1.cell? ⟨bz,0 + 3,none⟩ = some (.slice BA k bc) ∧ V1.cell? ⟨b,0 + 3,none⟩ = some (.slice (some adf) d.fin.length fc) ∧ V1.cell? (adf.add (s * 1)) = some (.bool z))
  refine Ay 0 G (by kernel_rfl) (fun _ _ _ h => h) G (fun v _ => AQ BP G v) hS<|Ay 1 G (by kernel_rfl) (fun _ _ _ h => h) G (fun v hv => Ai G33 G hv.1) hS<|Ay 2 G (by kernel_rfl) (fun _ _ _ h => h) G (fun v _ => AQ BP G v) hS<|Ay 3 G (by kernel_rfl) (fun _ _ _ h => h) G (fun v hv => Ai G33 G hv.2.1) hS<|Ay 4 G (by kernel_rfl) (fun _ _ _ h => h) G (fun v _ => mi_ G v) hS<|Ay 5 G (by kernel_rfl) (fun _ _ _ h => h) G (fun v _ => AU U33 Z4 G G (by first | assumption | omega) v) hS<|Ay 6 G (by kernel_rfl) (fun _ _ _ h => h) G (fun v hv => Ai G4 G hv.2.2) hS<|?_
  refine Aq 7 (by kernel_rfl) G<|BV Kd.bool V1.heap.size (p := z) (okp := fun _ => True) (AJ (u := .bool z) U33 I4 G G) G G (Nat.le_refl _) ?_
  intro B3 c3 V3 hR3 hb3
  have hb13 := Ad hb1 hb3
  have hS := (⟨Ae hb3 hS.1,Ae hb3 hS.2.1,Ae hb3 hS.2.2⟩ : V3.cell? ⟨bz,0 + 3,none⟩ = some (.slice BA k bc) ∧ V3.cell? ⟨b,0 + 3,none⟩ = some (.slice (some adf) d.fin.length fc) ∧ V3.cell? (adf.add (s * 1)) = some (.bool z))
  refine ⟨fun _ => hS,?_⟩
  refine Aq 8 (by kernel_rfl) G ?_
  have hRb3 := Kd.R_below hRb hb13
  have hB3 := Ad hB hb13
  refine BW Kd.bool (Rr := Kd.bool.K V3) U33 I4 G (by decide) (by decide) G G hRb3 (Kd.R_reads' hR3).2.2 (okp := fun i => some i ≠ (Value.slice BA k bc).ownBlock) (fun _ _ h => h) (fun _ h => ⟨trivial,h⟩) (fun _ _ => trivial) hB3.size (by rw [List.length_map,htl]; omega) ?_
  intro A4 c4 V4 hR4 hg4
  have hkeep4 : ∀ {g : Nat} {cs : Array Value},V3.heap[g]? = some (.cells cs 35 (0,0)) → V4.heap[g]? = some (.cells cs 35 (0,0)) := fun {g cs} h => (hg4.block g (Am h) (fun e => by
   obtain ⟨cells,hc⟩ := Kd.R_typed hRb3 g e.symm
   exact An h hc (by decide) rfl)).trans h
  have hzb4 := hkeep4 (Ab hzb hb13)
  have hbb4 := hkeep4 (Ab hbb hb13)
  have hB4 := hB3.grown hg4 hB3.size (fun k hk => Kd.R_base hRb3 k hk)
  have hl4 : (((d.ord K).take k).map d.finO ++ [z]).length = k + 1 := by rw [List.length_append,List.length_map,htl]; rfl
  have ht4 : ((d.ord K).take k).map d.finO ++ [z] = ((d.ord K).take (k + 1)).map d.finO := by rw [htake,List.map_append,← hzf]; rfl
  rw [hl4] at hR4 ⊢
  rw [ht4] at hR4
  have hcf4 : V4.cell? (adf.add (s * 1)) = some (.bool z) := by
   obtain ⟨adf',he,hc⟩ := Au (Kd.C_below hr.fin hB4) hz
   injection he with he
   subst he
   exact hc
  refine ⟨fun _ => ⟨(Ac hzb4 3).trans rfl,(Ac hbb4 3).trans rfl,hcf4⟩,?_⟩
  refine Aq 9 (by kernel_rfl) G<|ofa BP G ⟨fun _ => ⟨(Ac hzb4 3).trans rfl,(Ac hbb4 3).trans rfl,hcf4⟩,?_⟩
  refine Aq 10 (by kernel_rfl) G<|Bc (v := .slice A4 (k + 1) c4) (cs := dcs d.vars 0 NB BA K nc' k bc) (i := 0 + 3) S33 G G G hzb4 (by simp) ?_
  intro V5 hzb5 hg5
  refine ⟨fun h => absurd h (by decide),?_⟩
  refine Bw (by kernel_rfl)<|oad G G (by first | assumption | omega)<|mi G<|?_
  exact ⟨(k + 1,A4,c4),⟨rfl,rfl,rfl,rfl,rfl,rfl⟩,⟨hlt,hB4.grown hg5 hB4.size (fun k e => by cases e; exact hbz0),hzb5,(hg5.block b (Am hbb4) (fun e => by injection e with e; exact hne e)).trans hbb4,
   Ah (Kd.R_over (Kd.R_below hRo hb13) hRb3 (by decide) hg4) hzb4 (by decide) hg5,Ah (Kd.R_over (Kd.R_below hRn hb13) hRb3 (by decide) hg4) hzb4 (by decide) hg5,Ah hR4 hzb4 (by decide) hg5⟩,by dsimp only; omega⟩
 ·have hkK : k = (d.ord K).length := by omega
  subst hkK
  rw [List.take_length] at hRb
  rw [hK'] at hzb hRb
  refine AV (vs := dcs d.vars 0 NB BA K nc' K bc) G35 S35 G (Ak hzb)<|Bo (vs := dcs d.vars 0 NB BA K nc' K bc) (cs := dcs d.vars 0 NB BA K nc' K bc) S35 rfl rfl rfl (by intro u hu; simp only [dcs,List.mem_cons,List.not_mem_nil,or_false] at hu; rcases hu with rfl | rfl | rfl | rfl <;> rfl) hzb (by simp) ?_
  intro V2 hzb2 hg2
  have hzb2 : V2.heap[bz]? = some (.cells (dcs d.vars 0 NB BA K nc' K bc).toArray 35 (0,0)) := hzb2
  refine ai G<|?_
  exact K2 rfl rfl rfl hzb2 G35 S35 ⟨NB,nc',BA,bc,K,rfl,hK',Ah hRn hzb (by decide) hg2,Ah hRb hzb (by decide) hg2,hB.grown hg2 hB.size (fun k e => by cases e; exact hbz0)⟩
def KpS (n0 : Nat) (X : Nat → Prop) (A B : World) : Prop := A.heap.size ≤ B.heap.size ∧ ∀ i,i < n0 → ¬ X i → B.heap[i]? = A.heap[i]?
theorem KpS.refl (n0 : Nat) (X : Nat → Prop) (A : World) : KpS n0 X A A := ⟨Nat.le_refl _,fun _ _ _ => rfl⟩
theorem KpS.trans {n0 : Nat} {X : Nat → Prop} {A B C : World} (h : KpS n0 X A B) (k : KpS n0 X B C) : KpS n0 X A C := ⟨Nat.le_trans h.1 k.1,fun i hi hne => (k.2 i hi hne).trans (h.2 i hi hne)⟩
theorem KpS.low {n0 : Nat} {X : Nat → Prop} {A B : World} (h : Below n0 A B) : KpS n0 X A B := ⟨h.size,fun i hi _ => h.block i hi⟩
theorem KpS.new {n0 : Nat} {X : Nat → Prop} {w A B : World} (h : KpS n0 X w A) (k : Below A.heap.size A B) (hn : n0 ≤ A.heap.size) : KpS n0 X w B := ⟨Nat.le_trans h.1 k.size,fun i hi hne => (k.block i (Nat.lt_of_lt_of_le hi hn)).trans (h.2 i hi hne)⟩
theorem KpS.turn {n0 : Nat} {X : Nat → Prop} {w A B : World} (h : KpS n0 X w A) {row : Option Nat} (k : A.grownBy B row) (hn : n0 ≤ A.heap.size) (hr : ∀ i,row = some i → n0 ≤ i ∨ X i) : KpS n0 X w B :=
 ⟨Nat.le_trans h.1 k.size,fun i hi hne => (k.block i (Nat.lt_of_lt_of_le hi hn) (fun e => by rcases hr i e.symm with h | h; omega; exact hne h)).trans (h.2 i hi hne)⟩
theorem KpS.cells {n0 c t : Nat} {X : Nat → Prop} {A B : World} {cs : Array Value} (h : KpS n0 X A B) (hc : A.heap[c]? = some (.cells cs t (0,0))) (hn : c < n0) (hne : ¬ X c) : B.heap[c]? = some (.cells cs t (0,0)) := (h.2 c hn hne).trans hc
theorem KpS.cell {X : Nat → Prop} {wa w0 V : World} (hb : Below wa.heap.size wa w0) (h : KpS w0.heap.size X w0 V) (hX : ∀ i,X i → wa.heap.size ≤ i) {a : Addr} {v : Value} (hc : wa.cell? a = some v) : V.cell? a = some v := by
 have hl := World.block_lt_of_cell? wa a hc
 have h1 := Ae hb hc
 have e : V.heap[a.block]? = w0.heap[a.block]? := h.2 _ (Nat.lt_of_lt_of_le hl hb.size) (fun hx => by have := hX _ hx; omega)
 have : V.cell? a = w0.cell? a := by unfold World.cell?; rw [e]
 rw [this]; exact h1
theorem Ku (d : Df) (NA FA : Option Addr) (nc fc : Nat) (w : World) :
  Calls Tryz.prog 39 #[.agg (d.vals NA FA nc fc).toArray] w fun e w' => ∃ c,e = .returned (.func (.func 77) #[] #[.pointer (some ⟨c,0,none⟩)]) ∧ w.heap.size ≤ c ∧ w'.heap[c]? = some (.cells (d.vals NA FA nc fc).toArray 35 (0,0)) ∧ Below w.heap.size w w' := by
 refine enter 4 Tryz.func39 G G _ (by simp) ?_
 refine obx (cs := d.vals NA FA nc fc) G G ?_
 intro b w1 hbe hbb hb1
 refine pl .nilFunc (fun _ => by kernel_rfl)<|pl (.func (.func 77) #[] #[.pointer (some ⟨b,0,none⟩)]) (fun _ => by kernel_rfl)<|af G<|?_
 exact rt1 rfl rfl ⟨b,rfl,by omega,hbb,hb1⟩
def KX (d : Df) (w : World) (NA : Option Addr) (sv : Nat → Value) : Prop := ∀ k,k < d.next.length → ∃ ad RA rc,NA = some ad ∧ sv k = .slice RA (d.next.getD k []).length rc ∧ w.cell? (ad.add (k * 1)) = some (sv k) ∧ (Kd.int .i64).C w RA (d.next.getD k []).length (d.next.getD k [])
theorem Ks {d : Df} {w : World} {NA FA : Option Addr} (h : DR d w NA FA) : ∃ sv,KX d w NA sv := by
 have : ∀ k,∃ v,k < d.next.length → ∃ ad RA rc,NA = some ad ∧ v = .slice RA (d.next.getD k []).length rc ∧ w.cell? (ad.add (k * 1)) = some v ∧ (Kd.int .i64).C w RA (d.next.getD k []).length (d.next.getD k []) := by
  intro k
  by_cases hk : k < d.next.length
  ·obtain ⟨row,hrow⟩ : ∃ row,d.next[k]? = some row := ⟨_,gE hk⟩
   obtain ⟨ad,cc,rfl,_,⟨RA,rc,rfl,hrc,hRow⟩,hcS⟩ := DG h.next hrow
   have e : d.next.getD k [] = row := by rw [gD,hrow]; rfl
   refine ⟨.slice RA row.length rc,fun _ => ⟨ad,RA,rc,rfl,by rw [e],hcS 0 _ rfl,by rw [e]; exact hRow⟩⟩
  ·exact ⟨.int .i64 0,fun h => absurd h hk⟩
 exact ⟨fun k => Classical.choose (this k),fun k hk => Classical.choose_spec (this k) hk⟩
theorem Kt (d : Df) (hN : d.next.length ≤ 4096) (NA FA : Option Addr) (nc fc : Nat) (sv : Nat → Value) (c : Nat) (X : Nat → Prop) (wa w0 : World) (hba : Below wa.heap.size wa w0) (hR : KX d wa NA sv) (hX : ∀ i,X i → wa.heap.size ≤ i)
  (h1 : w0.heap[c]? = some (.cells (d.vals NA FA nc fc).toArray 35 (0,0))) (hc : ¬ X c) (mm : Nat) :
  SeqStopsK Fence.wide mm Tryz.prog 77 #[.pointer (some ⟨c,0,none⟩)] (fun k : Fin d.next.length => #[.int .i64 (k.1 : Nat),sv k.1]) (KpS w0.heap.size X) (fun xs => xs.map (·.1) = List.range d.next.length) (fun _ => True) (d.next.length + 1) w0 := by
 intro l J Jx W hW hJ hJx hY h0
 refine H3 19 Tryz.func77 G G [.func (.yield l) #[] #[],.pointer (some ⟨c,0,none⟩)] (by simp) ?_ mm
 have hl1 := Am h1
 have hk0 : KpS w0.heap.size X w0 W := KpS.low hW
 have hc2 : W.cell? ⟨c,0 + 2,none⟩ = some (.slice NA d.next.length nc) := (Ac (hk0.cells h1 hl1 hc) 2).trans rfl
 refine oj (fun _ _ h => h)<|ofa Bz G<|oj (fun _ _ h => h)<|old G27 G ‹_›<|oj (fun _ _ h => h)<|oln U27 G<|oj (fun _ _ h => h)<|mi G<|lpj (σ := Nat × List (Fin d.next.length)) (fun q => [(0,.func (.yield l) #[] #[]),(1,.pointer (some ⟨c,0,none⟩)),(6,.slice NA d.next.length nc),(7,.int .i64 d.next.length),(8,.int .i64 q.1)])
  (fun q V => KpS w0.heap.size X w0 V ∧ w0.heap.size ≤ V.heap.size ∧ W.heap.size ≤ V.heap.size ∧ q.1 ≤ d.next.length ∧ J q.2 V ∧ q.2.map (·.1) = List.range q.1) (fun q => d.next.length - q.1) (0,[]) ⟨rfl,rfl,rfl,rfl,rfl,rfl⟩ ⟨hk0,hW.size,Nat.le_refl _,Nat.zero_le _,h0,rfl⟩ ?_
 clear hc2 hk0
 rintro ⟨k,pre⟩ f V ⟨hK,hVs,hWV,hk,hJp,hpre⟩
 simp only at hk hJp hpre
 refine oj (fun _ _ h => h)<|olt G G<|cdd G (fun h => ?_) (fun h => ?_)
 ·have hkl : k < d.next.length := Int.ofNat_lt.1 h
  obtain ⟨ad,RA,rc,rfl,hsv,hcell,hRow⟩ := hR k hkl
  have hcell : V.cell? (ad.add (k * 1)) = some (sv k) := hK.cell hba hX hcell
  rw [hsv] at hcell
  refine oj (fun _ _ h => h)<|mi G<|oj (fun _ _ h => h)<|AD U27 Z22 G G (by first | assumption | omega)<|oj (fun _ _ h => h)<|old G22 G ‹_›<|oj (fun _ _ h => h)<|ai G<|oj (fun _ _ h => h)<|asl G<|?_
  refine oj (fun _ _ h => h)<|mf G<|oj (fun _ _ h => h)<|mi G<|oj (fun _ _ h => h)<|ms G<|HS (l := l) G (fun m1 => ?_)
  have hpl' : pre.length = k := by rw [← List.length_map (f := fun e : Fin d.next.length => e.1),hpre,List.length_range]
  have hy := hY pre ⟨k,hkl⟩ V hJp (by omega)
  simp only [hsv] at hy
  refine YieldAt.mono (Eo hy) ?_
  rintro e' V4 (⟨rfl,hJ4,hk4⟩ | ⟨rfl,hJx⟩)
  ·refine ⟨_,rfl,?_⟩
   have hs4 := hk4.1
   refine oj (fun _ _ h => h) (ont G ?_)
   refine cdf G<|oj (fun _ _ h => h)<|oad G G (by first | assumption | omega)<|oj (fun _ _ h => h)<|mi G<|?_
   refine ⟨(k + 1,pre ++ [⟨k,hkl⟩]),⟨rfl,rfl,rfl,rfl,rfl,rfl⟩,⟨hK.trans hk4,by omega,by omega,hkl,hJ4,?_⟩,Nat.sub_lt_sub_left hkl (Nat.lt_succ_self k)⟩
   show (pre ++ [(⟨k,hkl⟩ : Fin d.next.length)]).map (·.1) = _
   rw [List.map_append,List.range_succ,hpre]
   rfl
  ·refine ⟨_,rfl,?_⟩
   refine oj (fun _ _ h => h) (ont G ?_)
   refine cdt G ?_
   exact rt0 rfl ⟨⟨_,rfl⟩,.inr ⟨_,trivial,hJx⟩⟩
 ·refine rt0 G ⟨⟨_,rfl⟩,.inl ⟨pre,?_,hJp⟩⟩
  have : k = d.next.length := by omega
  show pre.map (·.1) = _
  rw [hpre,this]
theorem visit155 {κ : Type} [DecidableEq κ] (key : κ → ByteArray) (o : List κ) (t : κ) (b r : Nat) (w : World) (hb : w.heap[b]? = some (.cells #[.map (some r)] 118 (0,0))) (hm : MapIs w r (nums key o))
  (hf : BK (nums key o) (key t) = if t ∈ o then some (.int .i64 ((o.idxOf t : Nat) : Int)) else none) :
  Calls Tryz.prog 155 #[.string (key t),.pointer (some ⟨b,0,none⟩)] w fun e w' => e = .returned (.int .i64 (((BE o t).idxOf t : Nat) : Int)) ∧ MapIs w' r (nums key (BE o t)) ∧ w.grownBy w' (some r) := by
 have hc : w.cell? ⟨b,0,none⟩ = some (.map (some r)) := (Ac hb 0).trans rfl
 refine enter 20 Tryz.func155 G G _ (by simp) ?_
 refine ai G<|old G7 G ‹_›<|mt G<|olk (z := .int .i64 0) US9 Ds G G hm (zv3 w) ?_
 by_cases ht : t ∈ o
 ·rw [if_pos ht] at hf
  rw [hf]
  refine mv G<|oex G G<|oex G G<|ai G<|ab G<|mb G<|ont G<|cdf G<|mi G<|ai G<|?_
  have e : BE o t = o := by unfold BE; rw [if_pos ht]
  rw [e]
  exact rt1 rfl rfl ⟨rfl,hm,B6 _ _⟩
 ·rw [if_neg ht] at hf
  rw [hf]
  refine mv G<|oex G G<|oex G G<|ai G<|ab G<|mb G<|ont G<|cdt G<|old G7 G ‹_›<|Kz Ds G hm<|ai G<|old G7 G ‹_›<|mt G<|mi G<|opm US9 Ds G G G hm hf ?_
  intro w1 hm1 hg1
  refine mi G<|ai G<|?_
  have e : BE o t = o ++ [t] := by unfold BE; rw [if_neg ht]
  have ei : (BE o t).idxOf t = o.length := by rw [GI,if_neg ht]
  rw [ei,e,Fx]
  rw [Eh] at hm1 ⊢
  exact rt1 rfl rfl ⟨rfl,hm1,hg1⟩
end
end Go.Proofs.YtmjllchdhcdinaaGreatDoor

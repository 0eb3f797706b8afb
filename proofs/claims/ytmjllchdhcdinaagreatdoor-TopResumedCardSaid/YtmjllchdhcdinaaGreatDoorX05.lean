/- Part of the proof: Z6 Z7 Z8 Z9 P1. -/
import Derived.Test.YtmjllchdhcdinaaGreatDoorX04
set_option linter.unusedVariables false
set_option linter.unusedSimpArgs false
set_option maxRecDepth 100000
set_option maxHeartbeats 8000000
namespace Go.Proofs.YtmjllchdhcdinaaGreatDoor
section
open Go Fm Go.RowKit Go.Proofs.YtmjllchdhcdinaaGreatDoorW.PrintWords
theorem solve_go (g : GL) (hg : g.Ok) (w0 : World) (p gs : Nat) (OA PA SA : Option Addr) (co cp cS cs : Nat) (hG : GR g w0 OA PA SA) :
  ∀ (m : Nat) (w : World) (A : Option Addr) (ca : Nat) (a : List Bool),cnt a < m → SV g w0 p gs OA PA SA co cp cS cs w → a.length = g.own.length → Kd.bool.R 4 w 0 (fun _ => True) (.slice A g.own.length ca) a → g.gm.Arena (mem a) →
  Calls Tryz.prog 55 #[.pointer (some ⟨p,0,none⟩),.slice A g.own.length ca] w fun e w' => ∃ A0 c0 A1 c1 z0 z1,e = .returned (.agg #[.slice A0 g.own.length c0,.slice A1 g.own.length c1]) ∧ z0.length = g.own.length ∧ z1.length = g.own.length ∧
   Kd.bool.R 4 w' 0 (fun _ => True) (.slice A0 g.own.length c0) z0 ∧ Kd.bool.R 4 w' 0 (fun _ => True) (.slice A1 g.own.length c1) z1 ∧ SV g w0 p gs OA PA SA co cp cS cs w' ∧ w.grownBy w' (some gs) ∧ (∀ v,mem a v ↔ mem z0 v ∨ mem z1 v) ∧ (∃ φ,g.gm.Cert 0 (mem a) (mem z0) φ) ∧ ∃ φ,g.gm.Cert 1 (mem a) (mem z1) φ := by
 have hn := hg.max
 have hn0 := hg.pos
 have hls := hg.ls
 have hlp := hg.lp
 intro m
 induction m with
 | zero => intro w A ca a hm; omega
 | succ m ih =>
  intro w A ca a hm hSV hla hA hAr
  refine enter 182 Tryz.func55 G G _ (by simp) ?_
  refine obx G G ?_
  intro bi w1 hbi hbb hb1
  refine oal (v := .agg #[.slice none 0 0,.slice none 0 0]) (fun _ => by kernel_rfl) G ?_
  intro bw w2 hbw hbwb hb2
  have hw1 := hb1.size
  have hlbw : w.heap.size ≤ bw := by omega
  have hbb2 := Ab hbb hb2
  have hSO : SO g w0 p gs OA PA SA co cp cS cs w bi (.slice A g.own.length ca) a w2 := ⟨(hSV.below hb1).below hb2,B7 (B7 (B6 _ _) hb1) hb2,hbb2,Kd.R_below (Kd.R_below (FR hA) hb1) hb2,hSV.low.size⟩
  refine cut (σ := Option Addr × Nat × Option Addr × Nat) (fun _ => [(0,.pointer (some ⟨p,0,none⟩)),(3,.pointer (some ⟨bi,0,none⟩)),(4,.pointer (some ⟨bw,0,none⟩))])
   (fun s W => SE g w0 p gs OA PA SA co cp cS cs w bi (.slice A g.own.length ca) a bw s.1 s.2.1 s.2.2.1 s.2.2.2 (List.replicate g.own.length false) (List.replicate g.own.length false) W) (by repeat' (first | exact BB | exact BD | exact Bl | refine Bi ?_ ?_ | refine Bk ?_ | refine Bj ?_ | refine AX _ ?_)) ?_ ?_
  ·refine Bu mixed (fun v => v.heap[bi]? = some (.cells #[.slice A g.own.length ca] 133 (0,0))) ?_
   intro w3 hb3 _ _
   have hSO := hSO.below hb3
   have hbwb := Ab hbwb hb3
   have hS := hSO.box
   refine Aj 0 G (by kernel_rfl) (fun _ _ _ h => h) G (fun v hv => Ai Ci G ((Ac hv 0).trans G)) hS<|Aj 1 G (by kernel_rfl) (fun _ _ _ h => h) G (fun v _ => Ec Bn G v) hS<|Aj 3 G (by kernel_rfl) (fun _ _ _ h => h) G (fun v hv => Ai Ci G ((Ac hv 0).trans G)) hS<|Aj 4 G (by kernel_rfl) (fun _ _ _ h => h) G (fun v _ => Ec Bn G v) hS<|Em 2 5 (by kernel_rfl) G G ?_ ?_
   ·refine omk Kd.bool Bn I4 G G false (fun _ => rfl) (by omega) G (by decide) (by decide) ?_
    intro A0 c0 w4 hr0 hb4
    have hSO := hSO.below hb4
    have hbwb := Ab hbwb hb4
    refine ⟨hSO.box,?_⟩
    refine AA 5 (by kernel_rfl) G<|omk Kd.bool Bn I4 G G false (fun _ => rfl) (by omega) G (by decide) (by decide) ?_
    intro A1 c1 w5 hr1 hb5
    have hSO := hSO.below hb5
    have hbwb := Ab hbwb hb5
    have hr0 := Bg (Kd.R_below hr0 hb5)
    have hr1 := Bg hr1
    have hS := hSO.box
    refine ⟨hS,?_⟩
    refine Aj (v := .agg #[.slice A0 g.own.length c0,.slice A1 g.own.length c1]) 6 G (by kernel_rfl) (fun _ _ _ h => h) G (fun _ _ => by kernel_rfl) hS<|?_
    refine AA 7 (by kernel_rfl) G<|Bo (vs := [.slice A0 g.own.length c0,.slice A1 g.own.length c1]) Dd G G G (by simp [Value.oneCell']) hbwb (by simp) ?_
    intro w6 hbwb' hg6
    refine ⟨(hSO.win hbwb hlbw hg6).box,AY (by kernel_rfl) ?_⟩
    exact ⟨(A0,c0,A1,c1),⟨rfl,rfl,rfl,rfl⟩,hSO.win hbwb hlbw hg6,hbwb',hlbw,Bm hr0 hbwb (by decide) hg6,Bm hr1 hbwb (by decide) hg6⟩
   ·refine omk Kd.bool Bn I4 G G false (fun _ => rfl) (by omega) G (by decide) (by decide) ?_
    intro A1 c1 w4 hr1 hb4
    have hSO := hSO.below hb4
    have hbwb := Ab hbwb hb4
    refine ⟨hSO.box,?_⟩
    refine AA 2 (by kernel_rfl) G<|omk Kd.bool Bn I4 G G false (fun _ => rfl) (by omega) G (by decide) (by decide) ?_
    intro A0 c0 w5 hr0 hb5
    have hSO := hSO.below hb5
    have hbwb := Ab hbwb hb5
    have hr1 := Bg (Kd.R_below hr1 hb5)
    have hr0 := Bg hr0
    have hS := hSO.box
    refine ⟨hS,?_⟩
    refine Aj (v := .agg #[.slice A0 g.own.length c0,.slice A1 g.own.length c1]) 6 G (by kernel_rfl) (fun _ _ _ h => h) G (fun _ _ => by kernel_rfl) hS<|?_
    refine AA 7 (by kernel_rfl) G<|Bo (vs := [.slice A0 g.own.length c0,.slice A1 g.own.length c1]) Dd G G G (by simp [Value.oneCell']) hbwb (by simp) ?_
    intro w6 hbwb' hg6
    refine ⟨(hSO.win hbwb hlbw hg6).box,AY (by kernel_rfl) ?_⟩
    exact ⟨(A0,c0,A1,c1),⟨rfl,rfl,rfl,rfl⟩,hSO.win hbwb hlbw hg6,hbwb',hlbw,Bm hr0 hbwb (by decide) hg6,Bm hr1 hbwb (by decide) hg6⟩
  rintro ⟨A0,c0,A1,c1⟩ f W hSE
  simp only at hSE
  have hbox := (Ac hSE.so.box 0).trans rfl
  refine ai G<|old Ci G ‹_›<|oln Bn G<|mi G<|lp (σ := Nat × Int) (fun s => [(0,.pointer (some ⟨p,0,none⟩)),(3,.pointer (some ⟨bi,0,none⟩)),(4,.pointer (some ⟨bw,0,none⟩)),(5,.int .i64 s.2),(23,.int .i64 g.own.length),(24,.int .i64 s.1)])
   (fun s V => V = W ∧ s.1 ≤ g.own.length ∧ -1 ≤ s.2 ∧ s.2 ≤ 16 ∧ (∀ v,v < s.1 → mem a v → (g.gm.pri v : Int) ≤ s.2) ∧ (s.2 < 0 ∨ ∃ v,mem a v ∧ (g.gm.pri v : Int) = s.2)) (fun s => g.own.length - s.1) (0,-1) ⟨rfl,rfl,rfl,rfl,rfl,rfl,rfl⟩ ⟨rfl,Nat.zero_le _,by simp,by simp,fun v h => absurd h (Nat.not_lt_zero v),.inl (by simp)⟩ ?_
  rintro ⟨k,top⟩ f V ⟨rfl,hk,ht0,ht1,ht2,ht3⟩
  simp only at hk ht0 ht1 ht2 ht3
  refine olt G G<|cdd G (fun h => ?_) (fun h => ?_)
  ·have h : k < g.own.length := by omega
   obtain ⟨x,hx⟩ : ∃ x,a[k]? = some x := ⟨_,gE (by omega)⟩
   obtain ⟨adA,rfl,hcA⟩ := Cf hSE.so.rin hx
   refine mi G<|ai G<|old Ci G ‹_›<|mi G<|AD Bn Z4 G G (by first | assumption | omega)<|old G4 G ‹_›<|?_
   cases x with
   | false =>
    refine cdf G<|oad G G (by first | assumption | omega)<|mi G<|?_
    refine ⟨(k + 1,top),⟨rfl,rfl,rfl,rfl,rfl,rfl,rfl⟩,⟨rfl,by dsimp only; omega,ht0,ht1,fun v hv hm => ?_,ht3⟩,by omega⟩
    by_cases e : v = k
    ·subst e; unfold mem at hm; rw [hx] at hm; cases hm
    ·exact ht2 v (by dsimp only at hv; omega) hm
   | true =>
    refine cdt G ?_
    obtain ⟨q,hq⟩ : ∃ q,g.pri[k]? = some q := ⟨_,gE (by omega)⟩
    have hq16 := hg.pri k q hq
    have hgq := H1 hq
    obtain ⟨adP,rfl,hcP⟩ := Au hG.pri hq
    have hcP := Ae hSE.so.sv.low hcP
    have hp1 : V.cell? ⟨p,0 + 0 + 1,none⟩ = some (.slice (some adP) g.pri.length cp) := (Ac hSE.so.sv.blk 1).trans rfl
    refine mi G<|mp G<|onc G<|ofa CO G<|ofa Cs G<|old G22 G ‹_›<|mi G<|AD U22 Z3 G G (by first | assumption | omega)<|old G3 G ‹_›<|omx G G<|ai G<|?_
    refine oad G G (by first | assumption | omega)<|mi G<|?_
    refine ⟨(k + 1,if top < q then q else top),⟨rfl,rfl,rfl,rfl,rfl,rfl,rfl⟩,⟨rfl,by dsimp only; omega,by dsimp only; split <;> omega,by dsimp only; split <;> omega,fun v hv hm => ?_,?_⟩,by omega⟩
    ·dsimp only at hv ⊢
     by_cases e : v = k
     ·subst e; rw [hgq]; split <;> omega
     ·have := ht2 v (by omega) hm
      split <;> omega
    ·dsimp only
     split
     ·exact .inr ⟨k,hx,by rw [hgq]; omega⟩
     ·exact ht3
  ·have hkn : k = g.own.length := by omega
   subst hkn
   have htop : ∀ v,mem a v → (g.gm.pri v : Int) ≤ top := fun v hv => ht2 v (by have := GC hv; omega) hv
   refine mi G<|olt G G<|cdd G (fun hlt => ?_) (fun hge => ?_)
   ·have hno : ∀ v,¬ mem a v := fun v hv => by have := htop v hv; omega
    have hbw2 := Ak (W := V) (vs := [.slice A0 g.own.length c0,.slice A1 g.own.length c1]) hSE.win
    refine AV (vs := [.slice A0 g.own.length c0,.slice A1 g.own.length c1]) He Dd G hbw2<|Bo (vs := [.slice A0 g.own.length c0,.slice A1 g.own.length c1]) (cs := [.slice A0 g.own.length c0,.slice A1 g.own.length c1]) Dd G G G (by simp [Value.oneCell']) hSE.win (by simp) ?_
    intro W2 hbwb2 hg2
    have hSE2 := hSE.put hg2 hbwb2 hSE.r0 hSE.r1
    refine rtc (vs := [.slice A0 g.own.length c0,.slice A1 g.own.length c1]) G G hbwb2 He Dd ?_
    exact ⟨A0,c0,A1,c1,_,_,rfl,by simp,by simp,hSE2.r0,hSE2.r1,hSE2.so.sv,hSE2.so.gr,fun v => ⟨fun h => absurd h (hno v),fun h => by rcases h with h | h <;> exact absurd h (BZ _ _)⟩,
     ⟨fun _ _ => 0,fun v h => absurd h (BZ _ _)⟩,⟨fun _ _ => 0,fun v h => absurd h (BZ _ _)⟩⟩
   ·have ht3 : ∃ v,mem a v ∧ (g.gm.pri v : Int) = top := ht3.resolve_left (by omega)
    have htop0 : 0 ≤ top := by omega
    refine cut (σ := Int) (fun q => [(0,.pointer (some ⟨p,0,none⟩)),(3,.pointer (some ⟨bi,0,none⟩)),(4,.pointer (some ⟨bw,0,none⟩)),(5,.int .i64 top),(7,.int .u8 q)]) (fun q W' => W' = V ∧ (q = 0 ∨ q = 1) ∧ top.toNat % 2 = q.toNat) (by repeat' (first | exact BB | exact BD | exact Bl | refine Bi ?_ ?_ | refine Bk ?_ | refine Bj ?_ | refine AX _ ?_)) ?_ ?_
    ·refine mi G<|orm G G (by omega) ?_
     refine Bq (ocv8_ U3 U5 G (by omega)) ?_
     refine ai G<|?_
     exact ⟨top % 2,⟨rfl,rfl,rfl,rfl,rfl,rfl⟩,rfl,by omega,by omega⟩
    rintro q f V ⟨rfl,hq1,hq2⟩
    have hbox := (Ac hSE.so.box 0).trans rfl
    refine old Ci G ‹_›<|oln Bn G<|omk Kd.bool Bn I4 G G false (fun _ => rfl) (by omega) G (by decide) (by decide) ?_
    intro AT cT W1 hrT hb1
    refine asl G<|?_
    have hbox := (Ac (hSE.below hb1).so.box 0).trans rfl
    refine old Ci G ‹_›<|oln Bn G<|mi G<|?_
    have htl : (tgt g a top).length = g.own.length := by rw [tgt_len (by omega),hla]
    refine cut (σ := Unit) (fun _ => [(0,.pointer (some ⟨p,0,none⟩)),(3,.pointer (some ⟨bi,0,none⟩)),(4,.pointer (some ⟨bw,0,none⟩)),(7,.int .u8 q),(8,.slice AT g.own.length cT)]) (fun _ W => Below V.heap.size V W ∧ Kd.bool.R 4 W V.heap.size (fun _ => True) (.slice AT g.own.length cT) (tgt g a top)) (by repeat' (first | exact BB | exact BD | exact Bl | refine Bi ?_ ?_ | refine Bk ?_ | refine Bj ?_ | refine AX _ ?_)) ?_ ?_
    ·refine lp (σ := Nat) (fun k => [(0,.pointer (some ⟨p,0,none⟩)),(3,.pointer (some ⟨bi,0,none⟩)),(4,.pointer (some ⟨bw,0,none⟩)),(5,.int .i64 top),(7,.int .u8 q),(8,.slice AT g.own.length cT),(52,.int .i64 g.own.length),(53,.int .i64 k)])
      (fun k W => k ≤ g.own.length ∧ Below V.heap.size V W ∧ Kd.bool.R 4 W V.heap.size (fun _ => True) (.slice AT g.own.length cT) ((tgt g a top).take k ++ List.replicate (g.own.length - k) false))
      (fun k => g.own.length - k) 0 ⟨rfl,rfl,rfl,rfl,rfl,rfl,rfl,rfl,rfl⟩ ⟨Nat.zero_le _,hb1,by simpa using hrT⟩ ?_
     rintro k f W ⟨hk,hB,hR⟩
     refine olt G G<|cdd G (fun h => ?_) (fun h => ?_)
     ·have h : k < g.own.length := by omega
      have hSW := hSE.below hB
      have hbox := (Ac hSW.so.box 0).trans rfl
      obtain ⟨x,hx⟩ : ∃ x,a[k]? = some x := ⟨_,gE (by omega)⟩
      obtain ⟨adA,rfl,hcA⟩ := Cf hSW.so.rin hx
      obtain ⟨gt,cap,hv,hbg,hgl,_⟩ := Kd.R_form hR (by simp; omega)
      injection hv with hv1 hv2 hv3
      subst hv1
      obtain ⟨y,hy⟩ : ∃ y,g.pri[k]? = some y := ⟨_,gE (by omega)⟩
      have hst := Ey (tgt g a top) false g.own.length k (by omega) (by omega)
      have htk : (tgt g a top)[k] = (x && decide (y = top)) := by
       have h1 : (tgt g a top)[k]? = some (x && decide (y = top)) := by simp [tgt,List.getElem?_zipWith,hx,hy]
       rw [gE (by omega)] at h1
       injection h1
      rw [htk] at hst
      refine mi G<|ai G<|?_
      cases x with
      | false =>
       refine ms G<|mi G<|old Ci G ‹_›<|mi G<|AD Bn Z4 G G (by first | assumption | omega)<|old G4 G ‹_›<|mb G<|gof G<|gof G<|gof G<|gof G<|gof G<|gof G<|gof G<|gof G<|gof G<|gof G<|pfb G G<|AD Bn Z4 G G (by first | assumption | omega)<|?_
       refine CG S4 hR (k := k) (by omega) G G ?_
       intro w2 hR2 hg2
       refine oad G G (by first | assumption | omega)<|mi G<|?_
       refine ⟨k + 1,⟨rfl,rfl,rfl,rfl,rfl,rfl,rfl,rfl,rfl⟩,⟨by omega,hB.grown hg2 hB.size (by rintro _ ⟨⟩; exact hbg),?_⟩,by omega⟩
       rw [← hst]; exact hR2
      | true =>
       obtain ⟨adP,rfl,hcP⟩ := Au hG.pri hy
       have hcP := Ae hSW.so.sv.low hcP
       have hp1 : W.cell? ⟨p,0 + 0 + 1,none⟩ = some (.slice (some adP) g.pri.length cp) := (Ac hSW.so.sv.blk 1).trans rfl
       refine ms G<|mi G<|old Ci G ‹_›<|mi G<|AD Bn Z4 G G (by first | assumption | omega)<|old G4 G ‹_›<|mb G<|gon G<|mp G<|gon G<|onc G<|gon G<|ofa CO G<|gon G<|ofa Cs G<|gon G<|old G22 G ‹_›<|gon G<|mi G<|gon G<|AD U22 Z3 G G (by first | assumption | omega)<|gon G<|old G3 G ‹_›<|gon G<|mi G<|gon G<|oeq G G<|ptb G G<|AD Bn Z4 G G (by first | assumption | omega)<|?_
       refine CG S4 hR (k := k) (by omega) G G ?_
       intro w2 hR2 hg2
       refine oad G G (by first | assumption | omega)<|mi G<|?_
       refine ⟨k + 1,⟨rfl,rfl,rfl,rfl,rfl,rfl,rfl,rfl,rfl⟩,⟨by omega,hB.grown hg2 hB.size (by rintro _ ⟨⟩; exact hbg),?_⟩,by omega⟩
       rw [← hst]; exact hR2
     ·have hkn : k = g.own.length := by omega
      subst hkn
      rw [Fg _ _ _ htl] at hR
      exact ⟨(),⟨rfl,rfl,rfl,rfl,rfl,rfl⟩,hB,hR⟩
    rintro ⟨⟩ f W ⟨hB,hrT⟩
    have hSE := hSE.below hB
    have hrT := Bg hrT
    have hmt : ∀ v,mem (tgt g a top) v ↔ mem a v ∧ g.gm.pri v = top.toNat := fun v => mem_tgt (by omega) hg.pri htop0
    clear hB hb1
    have hpos : ∃ v,mem (tgt g a top) v := by
     obtain ⟨v,hv,hv2⟩ := ht3
     exact ⟨v,(hmt v).2 ⟨hv,by omega⟩⟩
    refine cut (σ := Nat × Option Addr × Nat × Option Addr × Nat) (fun s => [(0,.pointer (some ⟨p,0,none⟩)),(3,.pointer (some ⟨bi,0,none⟩)),(4,.pointer (some ⟨bw,0,none⟩)),(7,.int .u8 q),(8,.slice AT g.own.length cT),(10,.pointer (some ⟨s.1,0,none⟩))])
     (fun s W => SE g w0 p gs OA PA SA co cp cS cs w bi (.slice A g.own.length ca) a bw A0 c0 A1 c1 (List.replicate g.own.length false) (List.replicate g.own.length false) W ∧ Kd.bool.R 4 W 0 (fun _ => True) (.slice AT g.own.length cT) (tgt g a top) ∧ W.heap[s.1]? = some (.cells #[.slice s.2.1 g.own.length s.2.2.1,.slice s.2.2.2.1 g.own.length s.2.2.2.2] 134 (0,0)) ∧
      ∃ o y0 y1 rk,o.length = g.own.length ∧ y0.length = g.own.length ∧ y1.length = g.own.length ∧ g.gm.Attr q.toNat (mem a) (mem (tgt g a top)) (mem o) rk ∧ Kd.bool.R 4 W 0 (fun _ => True) (.slice s.2.1 g.own.length s.2.2.1) y0 ∧ Kd.bool.R 4 W 0 (fun _ => True) (.slice s.2.2.2.1 g.own.length s.2.2.2.2) y1 ∧
       (∀ v,mem (List.zipWith (fun x y => x && !y) a o) v ↔ mem y0 v ∨ mem y1 v) ∧ (∃ φ,g.gm.Cert 0 (mem (List.zipWith (fun x y => x && !y) a o)) (mem y0) φ) ∧ ∃ φ,g.gm.Cert 1 (mem (List.zipWith (fun x y => x && !y) a o)) (mem y1) φ) (by repeat' (first | exact BB | exact BD | exact Bl | refine Bi ?_ ?_ | refine Bk ?_ | refine Bj ?_ | refine AX _ ?_)) ?_ ?_
    ·refine Bu mixed (fun v => v.heap[bi]? = some (.cells #[.slice A g.own.length ca] 133 (0,0))) ?_
     intro W1 hb1 _ _
     have hSE := hSE.below hb1
     have hrT := Bg (Kd.R_below hrT hb1)
     have hS := hSE.so.box
     refine Aj 0 G (by kernel_rfl) (fun _ _ _ h => h) G (fun v _ => mp_ G v) hS<|Aj 1 G (by kernel_rfl) (fun _ _ _ h => h) G (fun v hv => Ai Ci G ((Ac hv 0).trans G)) hS<|Aj 2 G (by kernel_rfl) (fun _ _ _ h => h) G (fun v _ => mp_ G v) hS<|Aj 3 G (by kernel_rfl) (fun _ _ _ h => h) G (fun v hv => Ai Ci G ((Ac hv 0).trans G)) hS<|Aj 4 G (by kernel_rfl) (fun _ _ _ h => h) G (fun v _ => mi_ G v) hS<|Aj 5 G (by kernel_rfl) (fun _ _ _ h => h) G (fun v _ => ms_ G v) hS<|Em 6 9 (by kernel_rfl) G G ?_ ?_
     ·refine cl C97 [] G ((EE g hg w0 _ p gs OA PA SA co cp cS cs hG hSE.so.sv q hq1 A AT ca cT a (tgt g a top) hla htl hSE.own hrT (fun v h => ((hmt v).1 h).1)).mono ?_)
      rintro e Wx ⟨AO,cO,o,rfl,hlo,hrO,hsv,hgg,rk,hat⟩
      refine ⟨_,rfl,?_⟩
      have hrT := hSE.so.sv.set hrT hgg
      have hSE := hSE.moved hsv hgg
      have hrO := Bg hrO
      refine ⟨hSE.so.box,?_⟩
      refine Em 7 9 (by kernel_rfl) G G ?_ ?_
      ·refine cl C96 [] G ((Fc A AO ca cO g.own.length a o _ hla hlo (Kd.R_reads' hSE.own).2.2 (Kd.R_reads' hrO).2.2 hn).mono ?_)
       rintro e Wy ⟨AM,cM,rfl,hrM,hbM⟩
       refine ⟨_,rfl,?_⟩
       have hrT := Bg (Kd.R_below hrT hbM)
       have hSE := hSE.below hbM
       have hrM := Bg hrM
       refine ⟨hSE.so.box,?_⟩
       refine Em 8 9 (by kernel_rfl) G G ?_ ?_
       ·obtain ⟨hl1,hl2⟩ := Ex (hlo.trans hla.symm) hAr hat hpos hm
        refine cl C55 [] G ((ih _ AM cM _ hl1 hSE.so.sv (by simp [hla,hlo]) hrM hl2).mono ?_)
        rintro e Wz ⟨Y0,e0,Y1,e1,y0,y1,rfl,hy0,hy1,hr0,hr1,hsv,hgg,hcov,hc0,hc1⟩
        refine ⟨_,rfl,?_⟩
        have hrT := hSE.so.sv.set hrT hgg
        have hSE := hSE.moved hsv hgg
        refine ⟨hSE.so.box,?_⟩
        refine AA 9 (by kernel_rfl) G<|oal (v := .agg #[.slice none 0 0,.slice none 0 0]) (fun _ => by kernel_rfl) G ?_
        intro ly Wl hlye hly hb
        have hlw2 := hSE.lw
        have hlb2 := Am hSE.win
        have hrT := Bg (Kd.R_below hrT hb)
        have hr0 := Bg (Kd.R_below hr0 hb)
        have hr1 := Bg (Kd.R_below hr1 hb)
        have hSE := hSE.below hb
        refine ⟨hSE.so.box,?_⟩
        refine AA 10 (by kernel_rfl) G<|Bo (vs := [.slice Y0 g.own.length e0,.slice Y1 g.own.length e1]) Dd G G G (by simp [Value.oneCell']) hly (by simp) ?_
        intro W6 hly' hg6
        have hSE6 := hSE.lost hly (by omega) (by omega) hg6
        refine ⟨hSE6.so.box,AY (by kernel_rfl) ?_⟩
        exact ⟨(ly,Y0,e0,Y1,e1),⟨rfl,rfl,rfl,rfl,rfl,rfl,rfl⟩,hSE6,Bm hrT hly (by decide) hg6,hly',o,y0,y1,rk,hlo,hy0,hy1,hat,Bm hr0 hly (by decide) hg6,Bm hr1 hly (by decide) hg6,hcov,hc0,hc1⟩
       ·refine oal (v := .agg #[.slice none 0 0,.slice none 0 0]) (fun _ => by kernel_rfl) G ?_
        intro ly Wl hlye hly hb
        have hlw2 := hSE.lw
        have hlb2 := Am hSE.win
        have hrT := Bg (Kd.R_below hrT hb)
        have hrM := Bg (Kd.R_below hrM hb)
        have hSE := hSE.below hb
        refine ⟨hSE.so.box,?_⟩
        refine AA 8 (by kernel_rfl) G ?_
        obtain ⟨hl1,hl2⟩ := Ex (hlo.trans hla.symm) hAr hat hpos hm
        refine cl C55 [] G ((ih _ AM cM _ hl1 hSE.so.sv (by simp [hla,hlo]) hrM hl2).mono ?_)
        rintro e Wz ⟨Y0,e0,Y1,e1,y0,y1,rfl,hy0,hy1,hr0,hr1,hsv,hgg,hcov,hc0,hc1⟩
        refine ⟨_,rfl,?_⟩
        have hrT := hSE.so.sv.set hrT hgg
        have hly := Ck hSE.so.sv hly (by decide) hgg
        have hSE := hSE.moved hsv hgg
        refine ⟨hSE.so.box,?_⟩
        refine AA 10 (by kernel_rfl) G<|Bo (vs := [.slice Y0 g.own.length e0,.slice Y1 g.own.length e1]) Dd G G G (by simp [Value.oneCell']) hly (by simp) ?_
        intro W6 hly' hg6
        have hSE6 := hSE.lost hly (by omega) (by omega) hg6
        refine ⟨hSE6.so.box,AY (by kernel_rfl) ?_⟩
        exact ⟨(ly,Y0,e0,Y1,e1),⟨rfl,rfl,rfl,rfl,rfl,rfl,rfl⟩,hSE6,Bm hrT hly (by decide) hg6,hly',o,y0,y1,rk,hlo,hy0,hy1,hat,Bm hr0 hly (by decide) hg6,Bm hr1 hly (by decide) hg6,hcov,hc0,hc1⟩
      ·refine oal (v := .agg #[.slice none 0 0,.slice none 0 0]) (fun _ => by kernel_rfl) G ?_
       intro ly Wl hlye hly hb
       have hlw2 := hSE.lw
       have hlb2 := Am hSE.win
       have hrT := Bg (Kd.R_below hrT hb)
       have hrO := Bg (Kd.R_below hrO hb)
       have hSE := hSE.below hb
       refine ⟨hSE.so.box,?_⟩
       refine AA 7 (by kernel_rfl) G<|cl C96 [] G ((Fc A AO ca cO g.own.length a o _ hla hlo (Kd.R_reads' hSE.own).2.2 (Kd.R_reads' hrO).2.2 hn).mono ?_)
       rintro e Wy ⟨AM,cM,rfl,hrM,hbM⟩
       refine ⟨_,rfl,?_⟩
       have hrT := Bg (Kd.R_below hrT hbM)
       have hly := Ab hly hbM
       have hSE := hSE.below hbM
       have hrM := Bg hrM
       refine ⟨hSE.so.box,?_⟩
       refine AA 8 (by kernel_rfl) G ?_
       obtain ⟨hl1,hl2⟩ := Ex (hlo.trans hla.symm) hAr hat hpos hm
       refine cl C55 [] G ((ih _ AM cM _ hl1 hSE.so.sv (by simp [hla,hlo]) hrM hl2).mono ?_)
       rintro e Wz ⟨Y0,e0,Y1,e1,y0,y1,rfl,hy0,hy1,hr0,hr1,hsv,hgg,hcov,hc0,hc1⟩
       refine ⟨_,rfl,?_⟩
       have hrT := hSE.so.sv.set hrT hgg
       have hly := Ck hSE.so.sv hly (by decide) hgg
       have hSE := hSE.moved hsv hgg
       refine ⟨hSE.so.box,?_⟩
       refine AA 10 (by kernel_rfl) G<|Bo (vs := [.slice Y0 g.own.length e0,.slice Y1 g.own.length e1]) Dd G G G (by simp [Value.oneCell']) hly (by simp) ?_
       intro W6 hly' hg6
       have hSE6 := hSE.lost hly (by omega) (by omega) hg6
       refine ⟨hSE6.so.box,AY (by kernel_rfl) ?_⟩
       exact ⟨(ly,Y0,e0,Y1,e1),⟨rfl,rfl,rfl,rfl,rfl,rfl,rfl⟩,hSE6,Bm hrT hly (by decide) hg6,hly',o,y0,y1,rk,hlo,hy0,hy1,hat,Bm hr0 hly (by decide) hg6,Bm hr1 hly (by decide) hg6,hcov,hc0,hc1⟩
     ·refine oal (v := .agg #[.slice none 0 0,.slice none 0 0]) (fun _ => by kernel_rfl) G ?_
      intro ly Wl hlye hly hb
      have hlw2 := hSE.lw
      have hlb2 := Am hSE.win
      have hrT := Bg (Kd.R_below hrT hb)
      have hSE := hSE.below hb
      refine ⟨hSE.so.box,?_⟩
      refine AA 6 (by kernel_rfl) G<|cl C97 [] G ((EE g hg w0 _ p gs OA PA SA co cp cS cs hG hSE.so.sv q hq1 A AT ca cT a (tgt g a top) hla htl hSE.own hrT (fun v h => ((hmt v).1 h).1)).mono ?_)
      rintro e Wx ⟨AO,cO,o,rfl,hlo,hrO,hsv,hgg,rk,hat⟩
      refine ⟨_,rfl,?_⟩
      have hrT := hSE.so.sv.set hrT hgg
      have hly := Ck hSE.so.sv hly (by decide) hgg
      have hSE := hSE.moved hsv hgg
      have hrO := Bg hrO
      refine ⟨hSE.so.box,?_⟩
      refine AA 7 (by kernel_rfl) G<|cl C96 [] G ((Fc A AO ca cO g.own.length a o _ hla hlo (Kd.R_reads' hSE.own).2.2 (Kd.R_reads' hrO).2.2 hn).mono ?_)
      rintro e Wy ⟨AM,cM,rfl,hrM,hbM⟩
      refine ⟨_,rfl,?_⟩
      have hrT := Bg (Kd.R_below hrT hbM)
      have hly := Ab hly hbM
      have hSE := hSE.below hbM
      have hrM := Bg hrM
      refine ⟨hSE.so.box,?_⟩
      refine AA 8 (by kernel_rfl) G ?_
      obtain ⟨hl1,hl2⟩ := Ex (hlo.trans hla.symm) hAr hat hpos hm
      refine cl C55 [] G ((ih _ AM cM _ hl1 hSE.so.sv (by simp [hla,hlo]) hrM hl2).mono ?_)
      rintro e Wz ⟨Y0,e0,Y1,e1,y0,y1,rfl,hy0,hy1,hr0,hr1,hsv,hgg,hcov,hc0,hc1⟩
      refine ⟨_,rfl,?_⟩
      have hrT := hSE.so.sv.set hrT hgg
      have hly := Ck hSE.so.sv hly (by decide) hgg
      have hSE := hSE.moved hsv hgg
      refine ⟨hSE.so.box,?_⟩
      refine AA 10 (by kernel_rfl) G<|Bo (vs := [.slice Y0 g.own.length e0,.slice Y1 g.own.length e1]) Dd G G G (by simp [Value.oneCell']) hly (by simp) ?_
      intro W6 hly' hg6
      have hSE6 := hSE.lost hly (by omega) (by omega) hg6
      refine ⟨hSE6.so.box,AY (by kernel_rfl) ?_⟩
      exact ⟨(ly,Y0,e0,Y1,e1),⟨rfl,rfl,rfl,rfl,rfl,rfl,rfl⟩,hSE6,Bm hrT hly (by decide) hg6,hly',o,y0,y1,rk,hlo,hy0,hy1,hat,Bm hr0 hly (by decide) hg6,Bm hr1 hly (by decide) hg6,hcov,hc0,hc1⟩
    rintro ⟨ly,Y0,e0,Y1,e1⟩ f W ⟨hSE,hrT,hly,o,y0,y1,rk,hlo,hy0,hy1,hat,hr0,hr1,hcov,hc0,hc1⟩
    simp only at hly hr0 hr1
    rcases hq1 with rfl | rfl
    ·have hlq : W.cell? ⟨ly,0 + ((1 : Int) - 0).toNat * 1,none⟩ = some (.slice Y1 g.own.length e1) := (Ac hly 1).trans rfl
     refine mi G<|Kg G G (by first | assumption | omega)<|Ee D5 D2 G G (by first | assumption | omega)<|old Ci G ‹_›<|?_
     refine cl C98 [] G ((IK Y1 e1 g.own.length y1 W hy1 (Kd.R_reads' hr1).2.2 hn).mono ?_)
     rintro e W ⟨rfl,rfl⟩
     refine ⟨_,rfl,?_⟩
     cases hcz : y1.contains true with
     | false =>
      refine cdt G ?_
      have hp2 : W.cell? ⟨p,0 + 0 + 2,none⟩ = some (.slice SA g.suc.length cS) := (Ac hSE.so.sv.blk 2).trans rfl
      refine mp G<|onc G<|ofa CO G<|ofa Dp G<|old G27 G ‹_›<|oln U27 G<|mi G<|cut (σ := Unit) (fun _ => [(0,.pointer (some ⟨p,0,none⟩)),(3,.pointer (some ⟨bi,0,none⟩)),(4,.pointer (some ⟨bw,0,none⟩)),(7,.int .u8 0)]) (fun _ W => SE g w0 p gs OA PA SA co cp cS cs w bi (.slice A g.own.length ca) a bw A0 c0 A1 c1 (List.replicate g.own.length false) (List.replicate g.own.length false) W) (by repeat' (first | exact BB | exact BD | exact Bl | refine Bi ?_ ?_ | refine Bk ?_ | refine Bj ?_ | refine AX _ ?_)) ?_ ?_
      ·refine lp (σ := Nat) (fun k => [(0,.pointer (some ⟨p,0,none⟩)),(3,.pointer (some ⟨bi,0,none⟩)),(4,.pointer (some ⟨bw,0,none⟩)),(7,.int .u8 0),(8,.slice AT g.own.length cT),(94,.slice SA g.suc.length cS),(95,.int .i64 g.suc.length),(96,.int .i64 k)])
        (fun k W => SE g w0 p gs OA PA SA co cp cS cs w bi (.slice A g.own.length ca) a bw A0 c0 A1 c1 (List.replicate g.own.length false) (List.replicate g.own.length false) W ∧ Kd.bool.R 4 W 0 (fun _ => True) (.slice AT g.own.length cT) (tgt g a top) ∧ k ≤ g.own.length) (fun k => g.own.length - k) 0 ⟨rfl,rfl,rfl,rfl,rfl,rfl,rfl,rfl,rfl⟩ ⟨hSE,hrT,Nat.zero_le _⟩ ?_
       rintro k f W ⟨hSE,hrT,hk⟩
       refine olt G G<|cdd G (fun h => ?_) (fun h => ?_)
       ·have h : k < g.own.length := by omega
        obtain ⟨row,hrow⟩ : ∃ row,g.suc[k]? = some row := ⟨_,gE (by omega)⟩
        obtain ⟨hw0,hw1,hw2⟩ := hg.row k row hrow
        obtain ⟨adS,c,rfl,_,⟨RA,rc,rfl,hrc,hRow⟩,hcS⟩ := DG hG.suc hrow
        have hcS : W.cell? (adS.add (k * 1)) = some (.slice RA row.length rc) := Ae hSE.so.sv.low (hcS 0 _ rfl)
        refine mi G<|AD U27 Z22 G G (by first | assumption | omega)<|old G22 G ‹_›<|ai G<|asl G<|?_
        obtain ⟨x,hx⟩ : ∃ x,(tgt g a top)[k]? = some x := ⟨_,gE (by omega)⟩
        obtain ⟨adT,rfl,hcT⟩ := Cf hrT hx
        cases x with
        | false =>
         refine ms G<|mi G<|AD Bn Z4 G G (by first | assumption | omega)<|old G4 G ‹_›<|mb G<|gof G<|gof G<|gof G<|gof G<|gof G<|gof G<|gof G<|gof G<|gof G<|gof G<|pfb G G<|?_
         refine cdf G<|oad G G (by first | assumption | omega)<|mi G<|?_
         exact ⟨k + 1,⟨rfl,rfl,rfl,rfl,rfl,rfl,rfl,rfl,rfl⟩,⟨hSE,hrT,by omega⟩,by omega⟩
        | true =>
         obtain ⟨ow,how⟩ : ∃ ow,g.own[k]? = some ow := ⟨_,gE h⟩
         obtain ⟨adO,rfl,hcO⟩ := Au hG.own how
         have hcO := Ae hSE.so.sv.low hcO
         have hp0 : W.cell? ⟨p,0 + 0 + 0,none⟩ = some (.slice (some adO) g.own.length co) := (Ac hSE.so.sv.blk 0).trans rfl
         refine ms G<|mi G<|AD Bn Z4 G G (by first | assumption | omega)<|old G4 G ‹_›<|mb G<|gon G<|mp G<|gon G<|onc G<|gon G<|ofa CO G<|gon G<|ofa BQ G<|gon G<|old G26 G ‹_›<|gon G<|mi G<|gon G<|AD U26 Z5 G G (by first | assumption | omega)<|gon G<|old G5 G ‹_›<|gon G<|mi G<|gon G<|oeq G G<|ptb G G<|?_
         refine cdd G (fun ho => ?_) (fun ho => ?_)
         ·refine drt mixed 12 (by kernel_rfl) ?_
          intro W1 hb1 _ _
          have hSE := hSE.below hb1
          have hrT := Bg (Kd.R_below hrT hb1)
          obtain ⟨_,u,hu,hau⟩ := hAr k ((hmt k).1 hx).1
          rw [FC hrow] at hu
          obtain ⟨z,hz,rfl⟩ := List.mem_map.1 hu
          obtain ⟨st,hst⟩ := hSE.so.sv.st
          obtain ⟨j,hj,hcall⟩ := II W1 bi A RA ca rc g.own.length a row hla hSE.so.box (Kd.R_reads' hSE.own).2.2 (Kd.C_below hRow hSE.so.sv.low) hw1 hw2 ⟨z,hz,hau⟩
          obtain ⟨adR,rfl,hcR⟩ := Au (Kd.C_below hRow hSE.so.sv.low) (gE hj)
          have hp3 : W1.cell? ⟨p,0 + 3,none⟩ = some (.slice (some ⟨gs,0,none⟩) g.own.length cs) := (Ac hSE.so.sv.blk 3).trans rfl
          refine spu (mp_ G)<|spu (BN G)<|spu (AQ Ic G)<|sru (Ai G22 G ‹_›)<|spu (mi_ G)<|spu (ms_ G)<|spu (ms_ G)<|spu (pl_ (.func (.func 100) #[] #[.pointer (some ⟨bi,0,none⟩)]) (fun _ => by kernel_rfl))<|scl C99 [] (.int .i64 j) G hcall<|spu (AU U22 Z3 G G (by first | assumption | omega))<|sru (Ai G3 G ‹_›)<|spu (AU U22 Z3 G G (by first | assumption | omega))<|?_
          refine CG S3 hst (k := k) (by omega) G G ?_
          intro W2 hst2 hg2
          have hsv2 := hSE.so.sv.move hst2 hg2
          have hrT2 := hSE.so.sv.set hrT hg2
          refine oad G G (by first | assumption | omega)<|mi G<|?_
          exact ⟨k + 1,⟨rfl,rfl,rfl,rfl,rfl,rfl,rfl,rfl,rfl⟩,⟨hSE.moved hsv2 hg2,hrT2,by omega⟩,by omega⟩
         ·refine oad G G (by first | assumption | omega)<|mi G<|?_
          exact ⟨k + 1,⟨rfl,rfl,rfl,rfl,rfl,rfl,rfl,rfl,rfl⟩,⟨hSE,hrT,by omega⟩,by omega⟩
       ·exact ⟨(),⟨rfl,rfl,rfl,rfl,rfl⟩,hSE⟩
      rintro ⟨⟩ f W hSE
      have hbox := (Ac hSE.so.box 0).trans rfl
      refine mi G<|old Ci G ‹_›<|Ee D5 D2 G G (by first | assumption | omega)<|?_
      refine Bc (cs := [.slice A0 g.own.length c0,.slice A1 g.own.length c1]) (i := 0) K8 G G G hSE.win (by simp) ?_
      intro W2 hw2 hg2
      have hSE2 := hSE.put hg2 hw2 (Bg hSE.so.rin) hSE.r1
      refine AV (vs := [.slice A g.own.length ca,.slice A1 g.own.length c1]) He Dd G (Ak hSE2.win)<|Bo (vs := [.slice A g.own.length ca,.slice A1 g.own.length c1]) (cs := [.slice A g.own.length ca,.slice A1 g.own.length c1]) Dd G G G (by simp [Value.oneCell']) hSE2.win (by simp) ?_
      intro W3 hw3 hg3
      have hSE3 := hSE2.put hg3 hw3 hSE2.r0 hSE2.r1
      refine rtc (vs := [.slice A g.own.length ca,.slice A1 g.own.length c1]) G G hw3 He Dd ?_
      exact ⟨_,_,_,_,a,_,rfl,hla,by simp,hSE3.r0,hSE3.r1,hSE3.so.sv,hSE3.so.gr,fun v => ⟨fun h => .inl h,fun h => h.elim id (fun h => absurd h (BZ _ _))⟩,JQ (hlo.trans hla.symm) hAr (fun v hv => by have := htop v hv; omega) hq2 hmt hat hc0 (fun v h => (hcov v).1 h) hcz,⟨fun _ _ => 0,fun v h => absurd h (BZ _ _)⟩⟩
     | true =>
      refine cdf G<|drt mixed 8 (by kernel_rfl) ?_
      intro W1 hb1 _ _
      have hSE := hSE.below hb1
      have hly := Ab hly hb1
      have hr1 := Bg (Kd.R_below hr1 hb1)
      have hbox := (Ac hSE.so.box 0).trans rfl
      have hlq : W1.cell? ⟨ly,0 + ((1 : Int) - 0).toNat * 1,none⟩ = some (.slice Y1 g.own.length e1) := (Ac hly 1).trans rfl
      refine spu (mp_ G)<|sru (Ai Ci G ‹_›)<|spu (mi_ G)<|spu (DJ G G (by first | assumption | omega))<|spu (mi_ G)<|spu (DJ G G (by first | assumption | omega))<|spu (CQ D5 D2 G G (by first | assumption | omega))<|sru (Ai Ci G ‹_›)<|?_
      refine cl C97 [] G ((EE g hg w0 _ p gs OA PA SA co cp cS cs hG hSE.so.sv 1 (.inr G) A Y1 ca e1 a y1 hla hy1 hSE.own hr1 (fun v h => ((CH (hlo.trans hla.symm)).1 ((hcov v).2 (.inr h))).1)).mono ?_)
      rintro e W2 ⟨AL,cL,l,rfl,hll,hrL,hsv,hgg,rk2,hL⟩
      refine ⟨_,rfl,?_⟩
      have hSE := hSE.moved hsv hgg
      have hrL := Bg hrL
      have hbox := (Ac hSE.so.box 0).trans rfl
      have hL : g.gm.Attr 1 (mem a) (mem y1) (mem l) rk2 := hL
      refine asl G<|mp G<|old Ci G ‹_›<|ms G<|cl C96 [] G ((Fc A AL ca cL g.own.length a l _ hla hll (Kd.R_reads' hSE.own).2.2 (Kd.R_reads' hrL).2.2 hn).mono ?_)
      rintro e W3 ⟨AM,cM,rfl,hrM,hbM⟩
      refine ⟨_,rfl,?_⟩
      have hrL := Bg (Kd.R_below hrL hbM)
      have hSE := hSE.below hbM
      have hrM := Bg hrM
      obtain ⟨hl1,hl2⟩ := Ex (hll.trans hla.symm) hAr hL (con_mem.1 hcz) hm
      refine cl C55 [] G ((ih _ AM cM _ hl1 hSE.so.sv (by simp [hla,hll]) hrM hl2).mono ?_)
      rintro e W4 ⟨X0,f0,X1,f1,x0,x1,rfl,hx0,hx1,hq0,hq1,hsv,hgg,hcov2,hd0,hd1⟩
      refine ⟨_,rfl,?_⟩
      have hrL := hSE.so.sv.set hrL hgg
      have hSE := hSE.moved hsv hgg
      refine Bo (vs := [.slice X0 g.own.length f0,.slice X1 g.own.length f1]) (cs := [.slice A0 g.own.length c0,.slice A1 g.own.length c1]) Dd G G G (by simp [Value.oneCell']) hSE.win (by simp) ?_
      intro W5 hw5 hg5
      have hrL := Bm hrL hSE.win (by decide) hg5
      have hSE := hSE.put hg5 hw5 hq0 hq1
      have hwq : W5.cell? ⟨bw,0 + ((1 : Int) - 0).toNat * 1,none⟩ = some (.slice X1 g.own.length f1) := (Ac hSE.win 1).trans rfl
      refine mi G<|Kg G G (by first | assumption | omega)<|mi G<|Kg G G (by first | assumption | omega)<|Ee D5 D2 G G (by first | assumption | omega)<|old Ci G ‹_›<|?_
      refine cl LH [] G ((HG X1 f1 g.own.length x1 _ hx1 (Kd.R_reads' hSE.r1).2.2 (by omega)).mono ?_)
      rintro e W6 ⟨AC,cC,rfl,hrC,hbC⟩
      refine ⟨_,rfl,?_⟩
      have hSE6 := hSE.below hbC
      have hrL := Kd.R_below (FR hrL) hbC
      have hrQ := Kd.R_below (FR hSE.r0) hbC
      have hBw : w.heap.size ≤ W5.heap.size := hSE.so.gr.size
      refine Ee D5 D2 G G (by first | assumption | omega)<|?_
      refine Bc (cs := [.slice X0 g.own.length f0,.slice X1 g.own.length f1]) (i := 1) K8 G G G hSE6.win (by simp) ?_
      intro W7 hw7 hg7
      have hrC' := Bm hrC hSE6.win (by decide) hg7
      have hrL := Bm hrL hSE6.win (by decide) hg7
      have hrQ := Bm hrQ hSE6.win (by decide) hg7
      have hSE7 := hSE6.put hg7 hw7 hSE6.r0 (Bg hrC)
      refine ms G<|oln Bn G<|mi G<|?_
      have hLl : (List.zipWith (fun x y => x || y) x1 l).length = g.own.length := by simp [hx1,hll]
      refine cut (σ := Unit) (fun _ => [(0,.pointer (some ⟨p,0,none⟩)),(3,.pointer (some ⟨bi,0,none⟩)),(4,.pointer (some ⟨bw,0,none⟩))]) (fun _ W => ∃ k,k = g.own.length ∧ SE g w0 p gs OA PA SA co cp cS cs w bi (.slice A g.own.length ca) a bw X0 f0 AC cC x0 ((List.zipWith (fun x y => x || y) x1 l).take k ++ x1.drop k) W) (by repeat' (first | exact BB | exact BD | exact Bl | refine Bi ?_ ?_ | refine Bk ?_ | refine Bj ?_ | refine AX _ ?_)) ?_ ?_
      ·refine lp (σ := Nat) (fun k => [(0,.pointer (some ⟨p,0,none⟩)),(3,.pointer (some ⟨bi,0,none⟩)),(4,.pointer (some ⟨bw,0,none⟩)),(7,.int .u8 0),(13,.slice AL g.own.length cL),(157,.int .i64 g.own.length),(158,.int .i64 k)])
        (fun k W => SE g w0 p gs OA PA SA co cp cS cs w bi (.slice A g.own.length ca) a bw X0 f0 AC cC x0 ((List.zipWith (fun x y => x || y) x1 l).take k ++ x1.drop k) W ∧ Kd.bool.R 4 W W5.heap.size (fun _ => True) (.slice AC g.own.length cC) ((List.zipWith (fun x y => x || y) x1 l).take k ++ x1.drop k) ∧ Kd.bool.R 4 W 0 (fun k => k < W5.heap.size) (.slice X0 g.own.length f0) x0 ∧ Kd.bool.R 4 W 0 (fun k => k < W5.heap.size) (.slice AL g.own.length cL) l ∧ k ≤ g.own.length)
        (fun k => g.own.length - k) 0 ⟨rfl,rfl,rfl,rfl,rfl,rfl,rfl,rfl⟩ ⟨by simpa using hSE7,by simpa using hrC',hrQ,hrL,Nat.zero_le _⟩ ?_
       rintro k f W ⟨hSE,hrC,hrQ,hrL,hk⟩
       refine olt G G<|cdd G (fun h => ?_) (fun h => ?_)
       ·have h : k < g.own.length := by omega
        refine mi G<|ai G<|drt mixed 19 (by kernel_rfl) ?_
        intro W1 hb1 _ _
        have hSE := hSE.below hb1
        have hrC := Kd.R_below hrC hb1
        have hrC := Kd.R_mono hrC (ok' := fun _ => True) (fun _ _ => trivial)
        have hrQ := Kd.R_mono (Kd.R_below hrQ hb1) (ok' := fun k => k < W5.heap.size) (fun k hk => hk)
        have hrL := Kd.R_mono (Kd.R_below hrL hb1) (ok' := fun k => k < W5.heap.size) (fun k hk => hk)
        obtain ⟨x,hx⟩ : ∃ x,x1[k]? = some x := ⟨_,gE (hx1 ▸ h)⟩
        obtain ⟨y,hy⟩ : ∃ y,l[k]? = some y := ⟨_,gE (hll ▸ h)⟩
        have hpx : ((List.zipWith (fun x y => x || y) x1 l).take k ++ x1.drop k)[k]? = some x := by
         have hkt : ((List.zipWith (fun x y => x || y) x1 l).take k).length = k := by rw [List.length_take,hLl]; exact Nat.min_eq_left hk
         rw [List.getElem?_append_right (Nat.le_of_eq hkt),hkt,Nat.sub_self,List.getElem?_drop,Nat.add_zero,hx]
        have hpl : ((List.zipWith (fun x y => x || y) x1 l).take k ++ x1.drop k).length = g.own.length := by rw [List.length_append,List.length_take,List.length_drop,hLl,hx1,Nat.min_eq_left hk]; exact Nat.add_sub_cancel' hk
        obtain ⟨gC,_,hv,hbg,hgl,_⟩ := Kd.R_form hrC (hpl ▸ hn0)
        injection hv with hv1 hv2 hv3
        subst hv1
        obtain ⟨_,hgo,hcC⟩ := Cf hrC hpx
        cases hgo
        obtain ⟨adL,rfl,hcL⟩ := Cf hrL hy
        have hwq : W1.cell? ⟨bw,0 + ((1 : Int) - 0).toNat * 1,none⟩ = some (.slice (some ⟨gC,0,none⟩) g.own.length cC) := (Ac hSE.win 1).trans rfl
        have hLk0 : k < (List.zipWith (fun x y => x || y) x1 l).length := hLl ▸ h
        have hst := Ho (List.zipWith (fun x y => x || y) x1 l) x1 k (hx1.trans hLl.symm) hLk0
        have hLk : (List.zipWith (fun x y => x || y) x1 l)[k] = (x || y) := by
         have h1 : (List.zipWith (fun x y => x || y) x1 l)[k]? = some (x || y) := by simp [List.getElem?_zipWith,hx,hy]
         rw [gE hLk0] at h1
         injection h1
        rw [hLk] at hst
        cases x with
        | true =>
         refine spu (mi_ G)<|spu (DJ G G (by first | assumption | omega))<|spu (CQ D5 D2 G G (by first | assumption | omega))<|sru (Ai Ci G ‹_›)<|spu (mi_ G)<|spu (mi_ G)<|spu (DJ G G (by first | assumption | omega))<|spu (CQ D5 D2 G G (by first | assumption | omega))<|sru (Ai Ci G ‹_›)<|spu (mi_ G)<|spu (AU Bn Z4 G G (by first | assumption | omega))<|sru (Ai G4 G ‹_›)<|spu (mb_ G)<|sof G<|sof G<|sof G<|sof G<|spu (I2 G G)<|spu (AU Bn Z4 G G (by first | assumption | omega))<|?_
         refine CG S4 hrC (k := k) h G G ?_
         intro W2 hrC2 hg2
         refine oad G G (by first | assumption | omega)<|mi G<|?_
         rw [show ((List.zipWith (fun x y => x || y) x1 l).take k ++ x1.drop k).set k true = _ from hst] at hrC2
         exact ⟨k + 1,⟨rfl,rfl,rfl,rfl,rfl,rfl,rfl,rfl⟩,⟨hSE.row0 hrC hBw hg2 (Bg (CV hrC hrQ hg2)) (Bg hrC2),hrC2,CV hrC hrQ hg2,CV hrC hrL hg2,h⟩,Nat.sub_lt_sub_left h (Nat.lt_succ_self k)⟩
        | false =>
         refine spu (mi_ G)<|spu (DJ G G (by first | assumption | omega))<|spu (CQ D5 D2 G G (by first | assumption | omega))<|sru (Ai Ci G ‹_›)<|spu (mi_ G)<|spu (mi_ G)<|spu (DJ G G (by first | assumption | omega))<|spu (CQ D5 D2 G G (by first | assumption | omega))<|sru (Ai Ci G ‹_›)<|spu (mi_ G)<|spu (AU Bn Z4 G G (by first | assumption | omega))<|sru (Ai G4 G ‹_›)<|spu (mb_ G)<|son G<|spu (ms_ G)<|son G<|spu (mi_ G)<|son G<|spu (AU Bn Z4 G G (by first | assumption | omega))<|son G<|sru (Ai G4 G ‹_›)<|spu (Gx G G)<|spu (AU Bn Z4 G G (by first | assumption | omega))<|?_
         refine CG S4 hrC (k := k) h G G ?_
         intro W2 hrC2 hg2
         refine oad G G (by first | assumption | omega)<|mi G<|?_
         rw [show ((List.zipWith (fun x y => x || y) x1 l).take k ++ x1.drop k).set k y = _ from hst] at hrC2
         exact ⟨k + 1,⟨rfl,rfl,rfl,rfl,rfl,rfl,rfl,rfl⟩,⟨hSE.row0 hrC hBw hg2 (Bg (CV hrC hrQ hg2)) (Bg hrC2),hrC2,CV hrC hrQ hg2,CV hrC hrL hg2,h⟩,Nat.sub_lt_sub_left h (Nat.lt_succ_self k)⟩
       ·exact ⟨(),⟨rfl,rfl,rfl,rfl⟩,k,by clear hSE hrC hrQ hrL; omega,hSE⟩
      rintro ⟨⟩ f W ⟨_,rfl,hSE⟩
      rw [List.take_of_length_le (by omega),List.drop_of_length_le (by omega),List.append_nil] at hSE
      refine AV (vs := [.slice X0 g.own.length f0,.slice AC g.own.length cC]) He Dd G (Ak hSE.win)<|Bo (vs := [.slice X0 g.own.length f0,.slice AC g.own.length cC]) (cs := [.slice X0 g.own.length f0,.slice AC g.own.length cC]) Dd G G G (by simp [Value.oneCell']) hSE.win (by simp) ?_
      intro W8 hw8 hg8
      have hSE8 := hSE.put hg8 hw8 hSE.r0 hSE.r1
      refine rtc (vs := [.slice X0 g.own.length f0,.slice AC g.own.length cC]) G G hw8 He Dd ?_
      have hown : ∀ v,mem a v → g.gm.own v = 0 ∨ g.gm.own v = 1 := fun v hv => by
       have hvl := GC hv
       obtain ⟨ow,how⟩ : ∃ ow,g.own[v]? = some ow := ⟨_,gE (by omega)⟩
       rw [GK how]
       have := hg.own v ow how
       omega
      obtain ⟨hs1,hs2,hs3⟩ := Hz (hlo.trans hla.symm) (hll.trans hla.symm) (hx1.trans hla.symm) hAr hown hat hc1 hL (hcov2) hd1 hd0
      exact ⟨_,_,_,_,x0,_,rfl,hx0,by simp [hx1,hll],hSE8.r0,hSE8.r1,hSE8.so.sv,hSE8.so.gr,hs1,hs2,hs3⟩
    ·have hlq : W.cell? ⟨ly,0 + ((1 : Int) - 1).toNat * 1,none⟩ = some (.slice Y0 g.own.length e0) := (Ac hly 0).trans rfl
     refine mi G<|Kg G G (by first | assumption | omega)<|Ee D5 D2 G G (by first | assumption | omega)<|old Ci G ‹_›<|?_
     refine cl C98 [] G ((IK Y0 e0 g.own.length y0 W hy0 (Kd.R_reads' hr0).2.2 hn).mono ?_)
     rintro e W ⟨rfl,rfl⟩
     refine ⟨_,rfl,?_⟩
     cases hcz : y0.contains true with
     | false =>
      refine cdt G ?_
      have hp2 : W.cell? ⟨p,0 + 0 + 2,none⟩ = some (.slice SA g.suc.length cS) := (Ac hSE.so.sv.blk 2).trans rfl
      refine mp G<|onc G<|ofa CO G<|ofa Dp G<|old G27 G ‹_›<|oln U27 G<|mi G<|cut (σ := Unit) (fun _ => [(0,.pointer (some ⟨p,0,none⟩)),(3,.pointer (some ⟨bi,0,none⟩)),(4,.pointer (some ⟨bw,0,none⟩)),(7,.int .u8 1)]) (fun _ W => SE g w0 p gs OA PA SA co cp cS cs w bi (.slice A g.own.length ca) a bw A0 c0 A1 c1 (List.replicate g.own.length false) (List.replicate g.own.length false) W) (by repeat' (first | exact BB | exact BD | exact Bl | refine Bi ?_ ?_ | refine Bk ?_ | refine Bj ?_ | refine AX _ ?_)) ?_ ?_
      ·refine lp (σ := Nat) (fun k => [(0,.pointer (some ⟨p,0,none⟩)),(3,.pointer (some ⟨bi,0,none⟩)),(4,.pointer (some ⟨bw,0,none⟩)),(7,.int .u8 1),(8,.slice AT g.own.length cT),(94,.slice SA g.suc.length cS),(95,.int .i64 g.suc.length),(96,.int .i64 k)])
        (fun k W => SE g w0 p gs OA PA SA co cp cS cs w bi (.slice A g.own.length ca) a bw A0 c0 A1 c1 (List.replicate g.own.length false) (List.replicate g.own.length false) W ∧ Kd.bool.R 4 W 0 (fun _ => True) (.slice AT g.own.length cT) (tgt g a top) ∧ k ≤ g.own.length) (fun k => g.own.length - k) 0 ⟨rfl,rfl,rfl,rfl,rfl,rfl,rfl,rfl,rfl⟩ ⟨hSE,hrT,Nat.zero_le _⟩ ?_
       rintro k f W ⟨hSE,hrT,hk⟩
       refine olt G G<|cdd G (fun h => ?_) (fun h => ?_)
       ·have h : k < g.own.length := by omega
        obtain ⟨row,hrow⟩ : ∃ row,g.suc[k]? = some row := ⟨_,gE (by omega)⟩
        obtain ⟨hw0,hw1,hw2⟩ := hg.row k row hrow
        obtain ⟨adS,c,rfl,_,⟨RA,rc,rfl,hrc,hRow⟩,hcS⟩ := DG hG.suc hrow
        have hcS : W.cell? (adS.add (k * 1)) = some (.slice RA row.length rc) := Ae hSE.so.sv.low (hcS 0 _ rfl)
        refine mi G<|AD U27 Z22 G G (by first | assumption | omega)<|old G22 G ‹_›<|ai G<|asl G<|?_
        obtain ⟨x,hx⟩ : ∃ x,(tgt g a top)[k]? = some x := ⟨_,gE (by omega)⟩
        obtain ⟨adT,rfl,hcT⟩ := Cf hrT hx
        cases x with
        | false =>
         refine ms G<|mi G<|AD Bn Z4 G G (by first | assumption | omega)<|old G4 G ‹_›<|mb G<|gof G<|gof G<|gof G<|gof G<|gof G<|gof G<|gof G<|gof G<|gof G<|gof G<|pfb G G<|?_
         refine cdf G<|oad G G (by first | assumption | omega)<|mi G<|?_
         exact ⟨k + 1,⟨rfl,rfl,rfl,rfl,rfl,rfl,rfl,rfl,rfl⟩,⟨hSE,hrT,by omega⟩,by omega⟩
        | true =>
         obtain ⟨ow,how⟩ : ∃ ow,g.own[k]? = some ow := ⟨_,gE h⟩
         obtain ⟨adO,rfl,hcO⟩ := Au hG.own how
         have hcO := Ae hSE.so.sv.low hcO
         have hp0 : W.cell? ⟨p,0 + 0 + 0,none⟩ = some (.slice (some adO) g.own.length co) := (Ac hSE.so.sv.blk 0).trans rfl
         refine ms G<|mi G<|AD Bn Z4 G G (by first | assumption | omega)<|old G4 G ‹_›<|mb G<|gon G<|mp G<|gon G<|onc G<|gon G<|ofa CO G<|gon G<|ofa BQ G<|gon G<|old G26 G ‹_›<|gon G<|mi G<|gon G<|AD U26 Z5 G G (by first | assumption | omega)<|gon G<|old G5 G ‹_›<|gon G<|mi G<|gon G<|oeq G G<|ptb G G<|?_
         refine cdd G (fun ho => ?_) (fun ho => ?_)
         ·refine drt mixed 12 (by kernel_rfl) ?_
          intro W1 hb1 _ _
          have hSE := hSE.below hb1
          have hrT := Bg (Kd.R_below hrT hb1)
          obtain ⟨_,u,hu,hau⟩ := hAr k ((hmt k).1 hx).1
          rw [FC hrow] at hu
          obtain ⟨z,hz,rfl⟩ := List.mem_map.1 hu
          obtain ⟨st,hst⟩ := hSE.so.sv.st
          obtain ⟨j,hj,hcall⟩ := II W1 bi A RA ca rc g.own.length a row hla hSE.so.box (Kd.R_reads' hSE.own).2.2 (Kd.C_below hRow hSE.so.sv.low) hw1 hw2 ⟨z,hz,hau⟩
          obtain ⟨adR,rfl,hcR⟩ := Au (Kd.C_below hRow hSE.so.sv.low) (gE hj)
          have hp3 : W1.cell? ⟨p,0 + 3,none⟩ = some (.slice (some ⟨gs,0,none⟩) g.own.length cs) := (Ac hSE.so.sv.blk 3).trans rfl
          refine spu (mp_ G)<|spu (BN G)<|spu (AQ Ic G)<|sru (Ai G22 G ‹_›)<|spu (mi_ G)<|spu (ms_ G)<|spu (ms_ G)<|spu (pl_ (.func (.func 100) #[] #[.pointer (some ⟨bi,0,none⟩)]) (fun _ => by kernel_rfl))<|scl C99 [] (.int .i64 j) G hcall<|spu (AU U22 Z3 G G (by first | assumption | omega))<|sru (Ai G3 G ‹_›)<|spu (AU U22 Z3 G G (by first | assumption | omega))<|?_
          refine CG S3 hst (k := k) (by omega) G G ?_
          intro W2 hst2 hg2
          have hsv2 := hSE.so.sv.move hst2 hg2
          have hrT2 := hSE.so.sv.set hrT hg2
          refine oad G G (by first | assumption | omega)<|mi G<|?_
          exact ⟨k + 1,⟨rfl,rfl,rfl,rfl,rfl,rfl,rfl,rfl,rfl⟩,⟨hSE.moved hsv2 hg2,hrT2,by omega⟩,by omega⟩
         ·refine oad G G (by first | assumption | omega)<|mi G<|?_
          exact ⟨k + 1,⟨rfl,rfl,rfl,rfl,rfl,rfl,rfl,rfl,rfl⟩,⟨hSE,hrT,by omega⟩,by omega⟩
       ·exact ⟨(),⟨rfl,rfl,rfl,rfl,rfl⟩,hSE⟩
      rintro ⟨⟩ f W hSE
      have hbox := (Ac hSE.so.box 0).trans rfl
      refine mi G<|old Ci G ‹_›<|Ee D5 D2 G G (by first | assumption | omega)<|?_
      refine Bc (cs := [.slice A0 g.own.length c0,.slice A1 g.own.length c1]) (i := 1) K8 G G G hSE.win (by simp) ?_
      intro W2 hw2 hg2
      have hSE2 := hSE.put hg2 hw2 hSE.r0 (Bg hSE.so.rin)
      refine AV (vs := [.slice A0 g.own.length c0,.slice A g.own.length ca]) He Dd G (Ak hSE2.win)<|Bo (vs := [.slice A0 g.own.length c0,.slice A g.own.length ca]) (cs := [.slice A0 g.own.length c0,.slice A g.own.length ca]) Dd G G G (by simp [Value.oneCell']) hSE2.win (by simp) ?_
      intro W3 hw3 hg3
      have hSE3 := hSE2.put hg3 hw3 hSE2.r0 hSE2.r1
      refine rtc (vs := [.slice A0 g.own.length c0,.slice A g.own.length ca]) G G hw3 He Dd ?_
      exact ⟨_,_,_,_,_,a,rfl,by simp,hla,hSE3.r0,hSE3.r1,hSE3.so.sv,hSE3.so.gr,fun v => ⟨fun h => .inr h,fun h => h.elim (fun h => absurd h (BZ _ _)) id⟩,⟨fun _ _ => 0,fun v h => absurd h (BZ _ _)⟩,JQ (hlo.trans hla.symm) hAr (fun v hv => by have := htop v hv; omega) hq2 hmt hat hc1 (fun v h => ((hcov v).1 h).symm) hcz⟩
     | true =>
      refine cdf G<|drt mixed 8 (by kernel_rfl) ?_
      intro W1 hb1 _ _
      have hSE := hSE.below hb1
      have hly := Ab hly hb1
      have hr0 := Bg (Kd.R_below hr0 hb1)
      have hbox := (Ac hSE.so.box 0).trans rfl
      have hlq : W1.cell? ⟨ly,0 + ((1 : Int) - 1).toNat * 1,none⟩ = some (.slice Y0 g.own.length e0) := (Ac hly 0).trans rfl
      refine spu (mp_ G)<|sru (Ai Ci G ‹_›)<|spu (mi_ G)<|spu (DJ G G (by first | assumption | omega))<|spu (mi_ G)<|spu (DJ G G (by first | assumption | omega))<|spu (CQ D5 D2 G G (by first | assumption | omega))<|sru (Ai Ci G ‹_›)<|?_
      refine cl C97 [] G ((EE g hg w0 _ p gs OA PA SA co cp cS cs hG hSE.so.sv 0 (.inl G) A Y0 ca e0 a y0 hla hy0 hSE.own hr0 (fun v h => ((CH (hlo.trans hla.symm)).1 ((hcov v).2 (.inl h))).1)).mono ?_)
      rintro e W2 ⟨AL,cL,l,rfl,hll,hrL,hsv,hgg,rk2,hL⟩
      refine ⟨_,rfl,?_⟩
      have hSE := hSE.moved hsv hgg
      have hrL := Bg hrL
      have hbox := (Ac hSE.so.box 0).trans rfl
      have hL : g.gm.Attr 0 (mem a) (mem y0) (mem l) rk2 := hL
      refine asl G<|mp G<|old Ci G ‹_›<|ms G<|cl C96 [] G ((Fc A AL ca cL g.own.length a l _ hla hll (Kd.R_reads' hSE.own).2.2 (Kd.R_reads' hrL).2.2 hn).mono ?_)
      rintro e W3 ⟨AM,cM,rfl,hrM,hbM⟩
      refine ⟨_,rfl,?_⟩
      have hrL := Bg (Kd.R_below hrL hbM)
      have hSE := hSE.below hbM
      have hrM := Bg hrM
      obtain ⟨hl1,hl2⟩ := Ex (hll.trans hla.symm) hAr hL (con_mem.1 hcz) hm
      refine cl C55 [] G ((ih _ AM cM _ hl1 hSE.so.sv (by simp [hla,hll]) hrM hl2).mono ?_)
      rintro e W4 ⟨X0,f0,X1,f1,x0,x1,rfl,hx0,hx1,hq0,hq1,hsv,hgg,hcov2,hd0,hd1⟩
      refine ⟨_,rfl,?_⟩
      have hrL := hSE.so.sv.set hrL hgg
      have hSE := hSE.moved hsv hgg
      refine Bo (vs := [.slice X0 g.own.length f0,.slice X1 g.own.length f1]) (cs := [.slice A0 g.own.length c0,.slice A1 g.own.length c1]) Dd G G G (by simp [Value.oneCell']) hSE.win (by simp) ?_
      intro W5 hw5 hg5
      have hrL := Bm hrL hSE.win (by decide) hg5
      have hSE := hSE.put hg5 hw5 hq0 hq1
      have hwq : W5.cell? ⟨bw,0 + ((1 : Int) - 1).toNat * 1,none⟩ = some (.slice X0 g.own.length f0) := (Ac hSE.win 0).trans rfl
      refine mi G<|Kg G G (by first | assumption | omega)<|mi G<|Kg G G (by first | assumption | omega)<|Ee D5 D2 G G (by first | assumption | omega)<|old Ci G ‹_›<|?_
      refine cl LH [] G ((HG X0 f0 g.own.length x0 _ hx0 (Kd.R_reads' hSE.r0).2.2 (by omega)).mono ?_)
      rintro e W6 ⟨AC,cC,rfl,hrC,hbC⟩
      refine ⟨_,rfl,?_⟩
      have hSE6 := hSE.below hbC
      have hrL := Kd.R_below (FR hrL) hbC
      have hrQ := Kd.R_below (FR hSE.r1) hbC
      have hBw : w.heap.size ≤ W5.heap.size := hSE.so.gr.size
      refine Ee D5 D2 G G (by first | assumption | omega)<|?_
      refine Bc (cs := [.slice X0 g.own.length f0,.slice X1 g.own.length f1]) (i := 0) K8 G G G hSE6.win (by simp) ?_
      intro W7 hw7 hg7
      have hrC' := Bm hrC hSE6.win (by decide) hg7
      have hrL := Bm hrL hSE6.win (by decide) hg7
      have hrQ := Bm hrQ hSE6.win (by decide) hg7
      have hSE7 := hSE6.put hg7 hw7 (Bg hrC) hSE6.r1
      refine ms G<|oln Bn G<|mi G<|?_
      have hLl : (List.zipWith (fun x y => x || y) x0 l).length = g.own.length := by simp [hx0,hll]
      refine cut (σ := Unit) (fun _ => [(0,.pointer (some ⟨p,0,none⟩)),(3,.pointer (some ⟨bi,0,none⟩)),(4,.pointer (some ⟨bw,0,none⟩))]) (fun _ W => ∃ k,k = g.own.length ∧ SE g w0 p gs OA PA SA co cp cS cs w bi (.slice A g.own.length ca) a bw AC cC X1 f1 ((List.zipWith (fun x y => x || y) x0 l).take k ++ x0.drop k) x1 W) (by repeat' (first | exact BB | exact BD | exact Bl | refine Bi ?_ ?_ | refine Bk ?_ | refine Bj ?_ | refine AX _ ?_)) ?_ ?_
      ·refine lp (σ := Nat) (fun k => [(0,.pointer (some ⟨p,0,none⟩)),(3,.pointer (some ⟨bi,0,none⟩)),(4,.pointer (some ⟨bw,0,none⟩)),(7,.int .u8 1),(13,.slice AL g.own.length cL),(157,.int .i64 g.own.length),(158,.int .i64 k)])
        (fun k W => SE g w0 p gs OA PA SA co cp cS cs w bi (.slice A g.own.length ca) a bw AC cC X1 f1 ((List.zipWith (fun x y => x || y) x0 l).take k ++ x0.drop k) x1 W ∧ Kd.bool.R 4 W W5.heap.size (fun _ => True) (.slice AC g.own.length cC) ((List.zipWith (fun x y => x || y) x0 l).take k ++ x0.drop k) ∧ Kd.bool.R 4 W 0 (fun k => k < W5.heap.size) (.slice X1 g.own.length f1) x1 ∧ Kd.bool.R 4 W 0 (fun k => k < W5.heap.size) (.slice AL g.own.length cL) l ∧ k ≤ g.own.length)
        (fun k => g.own.length - k) 0 ⟨rfl,rfl,rfl,rfl,rfl,rfl,rfl,rfl⟩ ⟨by simpa using hSE7,by simpa using hrC',hrQ,hrL,Nat.zero_le _⟩ ?_
       rintro k f W ⟨hSE,hrC,hrQ,hrL,hk⟩
       refine olt G G<|cdd G (fun h => ?_) (fun h => ?_)
       ·have h : k < g.own.length := by omega
        refine mi G<|ai G<|drt mixed 19 (by kernel_rfl) ?_
        intro W1 hb1 _ _
        have hSE := hSE.below hb1
        have hrC := Kd.R_below hrC hb1
        have hrC := Kd.R_mono hrC (ok' := fun _ => True) (fun _ _ => trivial)
        have hrQ := Kd.R_mono (Kd.R_below hrQ hb1) (ok' := fun k => k < W5.heap.size) (fun k hk => hk)
        have hrL := Kd.R_mono (Kd.R_below hrL hb1) (ok' := fun k => k < W5.heap.size) (fun k hk => hk)
        obtain ⟨x,hx⟩ : ∃ x,x0[k]? = some x := ⟨_,gE (hx0 ▸ h)⟩
        obtain ⟨y,hy⟩ : ∃ y,l[k]? = some y := ⟨_,gE (hll ▸ h)⟩
        have hpx : ((List.zipWith (fun x y => x || y) x0 l).take k ++ x0.drop k)[k]? = some x := by
         have hkt : ((List.zipWith (fun x y => x || y) x0 l).take k).length = k := by rw [List.length_take,hLl]; exact Nat.min_eq_left hk
         rw [List.getElem?_append_right (Nat.le_of_eq hkt),hkt,Nat.sub_self,List.getElem?_drop,Nat.add_zero,hx]
        have hpl : ((List.zipWith (fun x y => x || y) x0 l).take k ++ x0.drop k).length = g.own.length := by rw [List.length_append,List.length_take,List.length_drop,hLl,hx0,Nat.min_eq_left hk]; exact Nat.add_sub_cancel' hk
        obtain ⟨gC,_,hv,hbg,hgl,_⟩ := Kd.R_form hrC (hpl ▸ hn0)
        injection hv with hv1 hv2 hv3
        subst hv1
        obtain ⟨_,hgo,hcC⟩ := Cf hrC hpx
        cases hgo
        obtain ⟨adL,rfl,hcL⟩ := Cf hrL hy
        have hwq : W1.cell? ⟨bw,0 + ((1 : Int) - 1).toNat * 1,none⟩ = some (.slice (some ⟨gC,0,none⟩) g.own.length cC) := (Ac hSE.win 0).trans rfl
        have hLk0 : k < (List.zipWith (fun x y => x || y) x0 l).length := hLl ▸ h
        have hst := Ho (List.zipWith (fun x y => x || y) x0 l) x0 k (hx0.trans hLl.symm) hLk0
        have hLk : (List.zipWith (fun x y => x || y) x0 l)[k] = (x || y) := by
         have h1 : (List.zipWith (fun x y => x || y) x0 l)[k]? = some (x || y) := by simp [List.getElem?_zipWith,hx,hy]
         rw [gE hLk0] at h1
         injection h1
        rw [hLk] at hst
        cases x with
        | true =>
         refine spu (mi_ G)<|spu (DJ G G (by first | assumption | omega))<|spu (CQ D5 D2 G G (by first | assumption | omega))<|sru (Ai Ci G ‹_›)<|spu (mi_ G)<|spu (mi_ G)<|spu (DJ G G (by first | assumption | omega))<|spu (CQ D5 D2 G G (by first | assumption | omega))<|sru (Ai Ci G ‹_›)<|spu (mi_ G)<|spu (AU Bn Z4 G G (by first | assumption | omega))<|sru (Ai G4 G ‹_›)<|spu (mb_ G)<|sof G<|sof G<|sof G<|sof G<|spu (I2 G G)<|spu (AU Bn Z4 G G (by first | assumption | omega))<|?_
         refine CG S4 hrC (k := k) h G G ?_
         intro W2 hrC2 hg2
         refine oad G G (by first | assumption | omega)<|mi G<|?_
         rw [show ((List.zipWith (fun x y => x || y) x0 l).take k ++ x0.drop k).set k true = _ from hst] at hrC2
         exact ⟨k + 1,⟨rfl,rfl,rfl,rfl,rfl,rfl,rfl,rfl⟩,⟨hSE.row0 hrC hBw hg2 (Bg hrC2) (Bg (CV hrC hrQ hg2)),hrC2,CV hrC hrQ hg2,CV hrC hrL hg2,h⟩,Nat.sub_lt_sub_left h (Nat.lt_succ_self k)⟩
        | false =>
         refine spu (mi_ G)<|spu (DJ G G (by first | assumption | omega))<|spu (CQ D5 D2 G G (by first | assumption | omega))<|sru (Ai Ci G ‹_›)<|spu (mi_ G)<|spu (mi_ G)<|spu (DJ G G (by first | assumption | omega))<|spu (CQ D5 D2 G G (by first | assumption | omega))<|sru (Ai Ci G ‹_›)<|spu (mi_ G)<|spu (AU Bn Z4 G G (by first | assumption | omega))<|sru (Ai G4 G ‹_›)<|spu (mb_ G)<|son G<|spu (ms_ G)<|son G<|spu (mi_ G)<|son G<|spu (AU Bn Z4 G G (by first | assumption | omega))<|son G<|sru (Ai G4 G ‹_›)<|spu (Gx G G)<|spu (AU Bn Z4 G G (by first | assumption | omega))<|?_
         refine CG S4 hrC (k := k) h G G ?_
         intro W2 hrC2 hg2
         refine oad G G (by first | assumption | omega)<|mi G<|?_
         rw [show ((List.zipWith (fun x y => x || y) x0 l).take k ++ x0.drop k).set k y = _ from hst] at hrC2
         exact ⟨k + 1,⟨rfl,rfl,rfl,rfl,rfl,rfl,rfl,rfl⟩,⟨hSE.row0 hrC hBw hg2 (Bg hrC2) (Bg (CV hrC hrQ hg2)),hrC2,CV hrC hrQ hg2,CV hrC hrL hg2,h⟩,Nat.sub_lt_sub_left h (Nat.lt_succ_self k)⟩
       ·exact ⟨(),⟨rfl,rfl,rfl,rfl⟩,k,by clear hSE hrC hrQ hrL; omega,hSE⟩
      rintro ⟨⟩ f W ⟨_,rfl,hSE⟩
      rw [List.take_of_length_le (by omega),List.drop_of_length_le (by omega),List.append_nil] at hSE
      refine AV (vs := [.slice AC g.own.length cC,.slice X1 g.own.length f1]) He Dd G (Ak hSE.win)<|Bo (vs := [.slice AC g.own.length cC,.slice X1 g.own.length f1]) (cs := [.slice AC g.own.length cC,.slice X1 g.own.length f1]) Dd G G G (by simp [Value.oneCell']) hSE.win (by simp) ?_
      intro W8 hw8 hg8
      have hSE8 := hSE.put hg8 hw8 hSE.r0 hSE.r1
      refine rtc (vs := [.slice AC g.own.length cC,.slice X1 g.own.length f1]) G G hw8 He Dd ?_
      have hown : ∀ v,mem a v → g.gm.own v = 1 ∨ g.gm.own v = 0 := fun v hv => by
       have hvl := GC hv
       obtain ⟨ow,how⟩ : ∃ ow,g.own[v]? = some ow := ⟨_,gE (by omega)⟩
       rw [GK how]
       have := hg.own v ow how
       omega
      obtain ⟨hs1,hs2,hs3⟩ := Hz (hlo.trans hla.symm) (hll.trans hla.symm) (hx0.trans hla.symm) hAr hown hat hc0 hL (fun v => (hcov2 v).trans Or.comm) hd0 hd1
      exact ⟨_,_,_,_,_,x1,rfl,by simp [hx0,hll],hx1,hSE8.r0,hSE8.r1,hSE8.so.sv,hSE8.so.gr,fun v => (hs1 v).trans Or.comm,hs3,hs2⟩
def Rise (n : Int) (r : List Int) : Prop := r.Pairwise (· < ·) ∧ ∀ u ∈ r,0 ≤ u ∧ u < n
theorem Rise.nil (n : Int) : Rise n [] := ⟨List.Pairwise.nil,by simp⟩
theorem Rise.snoc {n x : Int} {r : List Int} (h : Rise n r) (h0 : 0 ≤ x) (h1 : x < n) (hl : ∀ u,r.getLast? = some u → u < x) : Rise n (r ++ [x]) := by
 refine ⟨List.pairwise_append.2 ⟨h.1,by simp,fun a ha b hb => ?_⟩,fun u hu => ?_⟩
 ·rw [List.mem_singleton.1 hb]
  have hne : r ≠ [] := fun e => by rw [e] at ha; cases ha
  have hlast := hl _ (List.getLast?_eq_some_getLast hne)
  rcases List.getElem_of_mem ha with ⟨j,hj,rfl⟩
  by_cases e : j = r.length - 1
  ·subst e; rw [List.getLast_eq_getElem] at hlast; exact hlast
  ·have := List.pairwise_iff_getElem.1 h.1 j (r.length - 1) hj (by omega) (by omega)
   rw [List.getLast_eq_getElem] at hlast; omega
 ·rcases List.mem_append.1 hu with hu | hu
  ·exact h.2 u hu
  ·rw [List.mem_singleton.1 hu]; exact ⟨h0,h1⟩
theorem Rise.lt {n : Int} {r : List Int} (h : Rise n r) {i j : Nat} {x y : Int} (hij : i < j) (hx : r[i]? = some x) (hy : r[j]? = some y) : x < y := by
 obtain ⟨hi,rfl⟩ := List.getElem?_eq_some_iff.1 hx
 obtain ⟨hj,rfl⟩ := List.getElem?_eq_some_iff.1 hy
 exact List.pairwise_iff_getElem.1 h.1 i j hi hj hij
theorem Rise.length {n : Int} {r : List Int} (h : Rise n r) : r.length ≤ n.toNat := by
 have : ∀ i (hi : i < r.length),(i : Int) ≤ r[i] := by
  intro i
  induction i with
  | zero => intro hi; exact (h.2 _ (List.getElem_mem hi)).1
  | succ i ih =>
   intro hi
   have h1 := ih (by omega)
   have h2 := List.pairwise_iff_getElem.1 h.1 i (i + 1) (by omega) hi (by omega)
   omega
 by_cases e : r.length = 0
 ·omega
 ·have h1 := this (r.length - 1) (by omega)
  have h2 := (h.2 _ (List.getElem_mem (show r.length - 1 < r.length by omega))).2
  omega
theorem rises45 (A : Option Addr) (c : Nat) (n : Int) (r : List Int) (w : World) (hC : (Kd.int .i64).C w A r.length r) :
  Calls Tryz.prog 45 #[.slice A r.length c,.int .i64 n] w fun e w' => ∃ b,e = .returned (.bool b) ∧ (b = true → Rise n r) ∧ Below w.heap.size w w' := by
 refine enter 41 Tryz.func45 G G _ (by simp) ?_
 refine ab G<|ai G<|lp (σ := Nat) (fun k => [(0,.slice A r.length c),(1,.int .i64 n),(4,.bool false),(5,.int .i64 k)]) (fun k W => Below w.heap.size w W ∧ k ≤ r.length ∧ Rise n (r.take k)) (fun k => r.length - k) 0 ⟨rfl,rfl,rfl,rfl,rfl⟩ ⟨Below.refl _ _,Nat.zero_le _,by simpa using Rise.nil n⟩ ?_
 rintro k f W ⟨hB,hk,hR⟩
 refine mi G<|ms G<|oln U22 G<|olt G G<|cdd G (fun h => ?_) (fun h => ?_)
 ·have h : k < r.length := Int.ofNat_lt.1 h
  refine drt mixed 28 (by kernel_rfl) ?_
  intro W1 hb1 _ _
  have hB := Ad hB hb1
  obtain ⟨x,hx⟩ : ∃ x,r[k]? = some x := ⟨_,gE h⟩
  obtain ⟨ad,rfl,hc⟩ := Au hC hx
  have hc := Ae hB hc
  have hxk : r[k] = x := by rw [gE h] at hx; injection hx
  have hmax := Kd.C_max hC
  by_cases h0 : x < 0
  ·refine spu (ms_ G)<|spu (mi_ G)<|spu (AU U22 Z3 G G (by first | assumption | omega))<|sru (Ai G3 G ‹_›)<|spu (Ha G G)<|Ka (by omega)<|spu (mb_ G)<|sof G<|sof G<|sof G<|sof G<|sof G<|sof G<|spu (I2 G G)<|spu (mb_ G)<|sof G<|sof G<|sof G<|sof G<|sof G<|sof G<|sof G<|sof G<|sof G<|sof G<|sof G<|sof G<|sof G<|sof G<|?_
   refine ptb G G<|cdt G<|ab G<|?_
   exact rt1 rfl rfl ⟨false,rfl,by simp,hB⟩
  ·by_cases h1 : n ≤ x
   ·refine spu (ms_ G)<|spu (mi_ G)<|spu (AU U22 Z3 G G (by first | assumption | omega))<|sru (Ai G3 G ‹_›)<|spu (Ha G G)<|Fr (by omega)<|spu (mb_ G)<|son G<|spu (ms_ G)<|son G<|spu (mi_ G)<|son G<|spu (AU U22 Z3 G G (by first | assumption | omega))<|son G<|sru (Ai G3 G ‹_›)<|son G<|spu (mi_ G)<|son G<|spu (Iz G G)<|Ka (by omega)<|spu (Gx G G)<|spu (mb_ G)<|sof G<|sof G<|sof G<|sof G<|sof G<|sof G<|sof G<|sof G<|sof G<|sof G<|sof G<|sof G<|sof G<|sof G<|?_
    refine ptb G G<|cdt G<|ab G<|?_
    exact rt1 rfl rfl ⟨false,rfl,by simp,hB⟩
   ·by_cases h2 : k = 0
    ·refine spu (ms_ G)<|spu (mi_ G)<|spu (AU U22 Z3 G G (by first | assumption | omega))<|sru (Ai G3 G ‹_›)<|spu (Ha G G)<|Fr (by omega)<|spu (mb_ G)<|son G<|spu (ms_ G)<|son G<|spu (mi_ G)<|son G<|spu (AU U22 Z3 G G (by first | assumption | omega))<|son G<|sru (Ai G3 G ‹_›)<|son G<|spu (mi_ G)<|son G<|spu (Iz G G)<|Fr (by omega)<|spu (Gx G G)<|spu (mb_ G)<|son G<|spu (mi_ G)<|son G<|spu (KA G G)<|Fr (by omega)<|son G<|spu (mb_ G)<|sof G<|sof G<|sof G<|sof G<|sof G<|sof G<|sof G<|sof G<|sof G<|sof G<|son G<|spu (Gx G G)<|?_
     refine pfb G G<|cdf G<|mi G<|oad G G (by first | assumption | omega)<|ai G<|?_
     refine ⟨k + 1,⟨rfl,rfl,rfl,rfl,rfl⟩,⟨hB,h,?_⟩,by omega⟩
     rw [List.take_succ_eq_append_getElem h,hxk]
     exact hR.snoc (by omega) (by omega) (by subst h2; simp)
    ·obtain ⟨y,hy⟩ : ∃ y,r[k - 1]? = some y := ⟨_,gE (by omega)⟩
     obtain ⟨_,hgo,hc2⟩ := Au hC hy
     cases hgo
     have hc2 : W1.cell? (ad.add (((k : Int) - 1).toNat * 1)) = some (.int .i64 y) := by
      rw [show ((k : Int) - 1).toNat = k - 1 by omega]; exact Ae hB hc2
     refine spu (ms_ G)<|spu (mi_ G)<|spu (AU U22 Z3 G G (by first | assumption | omega))<|sru (Ai G3 G ‹_›)<|spu (Ha G G)<|Fr (by omega)<|spu (mb_ G)<|son G<|spu (ms_ G)<|son G<|spu (mi_ G)<|son G<|spu (AU U22 Z3 G G (by first | assumption | omega))<|son G<|sru (Ai G3 G ‹_›)<|son G<|spu (mi_ G)<|son G<|spu (Iz G G)<|Fr (by omega)<|spu (Gx G G)<|spu (mb_ G)<|son G<|spu (mi_ G)<|son G<|spu (KA G G)<|Ka (by omega)<|son G<|spu (mb_ G)<|son G<|spu (ms_ G)<|son G<|spu (mi_ G)<|son G<|spu (AU U22 Z3 G G (by first | assumption | omega))<|son G<|sru (Ai G3 G ‹_›)<|son G<|spu (ms_ G)<|son G<|spu (mi_ G)<|son G<|spu (Lu G G (by first | assumption | omega))<|?_
     refine son G<|spu (Ki (i := (k : Int) - 1) (p := r.length) U22 Z3 G G (by omega))<|?_
     refine son G<|sru (Ai G3 G ‹_›)<|son G<|spu (Lw G G)<|son G<|spu (I2 G G)<|pfb G G<|cdd G (fun h3 => ?_) (fun h3 => ?_)
     ·refine ab G<|?_
      exact rt1 rfl rfl ⟨false,rfl,by simp,hB⟩
     ·refine mi G<|oad G G (by first | assumption | omega)<|ai G<|?_
      refine ⟨k + 1,⟨rfl,rfl,rfl,rfl,rfl⟩,⟨hB,h,?_⟩,by omega⟩
      rw [List.take_succ_eq_append_getElem h,hxk]
      refine hR.snoc (by omega) (by omega) (fun u hu => ?_)
      rw [List.getLast?_eq_getElem?,List.length_take,Nat.min_eq_left hk,List.getElem?_take_of_lt (by omega),hy] at hu
      injection hu with hu
      omega
 ·have hkn : k = r.length := by omega
  subst hkn
  refine ab G<|?_
  rw [List.take_length] at hR
  exact rt1 rfl rfl ⟨true,rfl,fun _ => hR,hB⟩
theorem positions83 (A : Option Addr) (c : Nat) (n : Int) (r : List Int) (w : World) (hC : (Kd.int .i64).C w A r.length r) (hr : Rise n r) (hn : n ≤ 4096) :
  Calls Tryz.prog 83 #[.slice A r.length c,.int .i64 n] w fun e w' => e = .returned (.bool true) ∧ w' = w := by
 have hrl := hr.length
 refine enter 24 Tryz.func83 G G _ (by simp) ?_
 refine ab G<|ai G<|ms G<|oln U22 G<|mi G<|lp (σ := Nat × Int) (fun s => [(0,.slice A r.length c),(1,.int .i64 n),(5,.int .i64 s.2),(8,.slice A r.length c),(9,.int .i64 r.length),(10,.int .i64 s.1)])
  (fun s W => W = w ∧ s.1 ≤ r.length ∧ -1 ≤ s.2 ∧ (s.2 = -1 ∨ ∃ j,j < s.1 ∧ r[j]? = some s.2)) (fun s => r.length - s.1) (0,-1) ⟨rfl,rfl,rfl,rfl,rfl,rfl,rfl⟩ ⟨rfl,Nat.zero_le _,by simp,.inl rfl⟩ ?_
 rintro ⟨k,l⟩ f W ⟨rfl,hk,hl,hlast⟩
 simp only at hk hl hlast
 refine olt G G<|cdd G (fun h => ?_) (fun h => ?_)
 ·have h : k < r.length := Int.ofNat_lt.1 h
  obtain ⟨x,hx⟩ : ∃ x,r[k]? = some x := ⟨_,gE h⟩
  obtain ⟨ad,rfl,hc⟩ := Au hC hx
  have hxr := hr.2 x (List.mem_of_getElem? hx)
  have hxl : l < x := by
   rcases hlast with e | ⟨j,hj,e⟩
   ·omega
   ·exact hr.lt hj e hx
  refine AD U22 Z3 G G (by first | assumption | omega)<|old G3 G ‹_›<|ai G<|?_
  refine mi G<|mi G<|ole G G<|isf (by omega)<|mb G<|gon G<|mi G<|gon G<|mi G<|gon G<|oge G G<|isf (by omega)<|pfb G G<|?_
  refine cdf G<|mi G<|ai G<|oad G G (by first | assumption | omega)<|mi G<|?_
  exact ⟨(k + 1,x),⟨rfl,rfl,rfl,rfl,rfl,rfl,rfl⟩,⟨rfl,h,by dsimp only; omega,.inr ⟨k,Nat.lt_succ_self k,hx⟩⟩,by dsimp only; omega⟩
 ·refine ab G<|?_
  exact rt1 rfl rfl ⟨rfl,rfl⟩
structure GL.Full (g : GL) : Prop where
 ok : g.Ok
 rise : ∀ (v : Nat) (r : List Int),g.suc[v]? = some r → Rise g.own.length r
theorem check15 (g : GL) (w : World) (OA PA SA : Option Addr) (co cp cS : Nat) (hG : GR g w OA PA SA) (hu : ∀ x ∈ g.own,0 ≤ x) :
  Calls Tryz.prog 15 #[.agg #[.slice OA g.own.length co,.slice PA g.pri.length cp,.slice SA g.suc.length cS]] w fun e w' => ∃ c : Int,e = .returned (.int .i64 c) ∧ (c = 0 → g.Full) ∧ Below w.heap.size w w' := by
 have hm0 := Kd.C_max hG.own
 have hm1 := Kd.C_max hG.pri
 have hm2 := Kd.C_max hG.suc
 refine enter 64 Tryz.func15 G G _ (by simp) ?_
 refine obx G G ?_
 intro b w1 hb hbb hb1
 refine ai G<|?_
 have hbb : w1.heap[b]? = some (.cells #[.slice OA g.own.length co,.slice PA g.pri.length cp,.slice SA g.suc.length cS] 29 (0,0)) := hbb
 have h0 : w1.cell? ⟨b,0 + 0,none⟩ = some (.slice OA g.own.length co) := (Ac hbb 0).trans rfl
 have h1 : w1.cell? ⟨b,0 + 1,none⟩ = some (.slice PA g.pri.length cp) := (Ac hbb 1).trans rfl
 have h2 : w1.cell? ⟨b,0 + 2,none⟩ = some (.slice SA g.suc.length cS) := (Ac hbb 2).trans rfl
 refine ofa BQ G<|old G26 G ‹_›<|oln U26 G<|ai G<|mi G<|oeq G G<|cdd G (fun h => ?_) (fun hpos => ?_)
 ·refine ai G<|?_
  exact rt1 rfl rfl ⟨_,rfl,by simp,hb1⟩
 refine mi G<|ogt G G<|cdd G (fun h => ?_) (fun hmax => ?_)
 ·refine ai G<|?_
  exact rt1 rfl rfl ⟨_,rfl,by simp,hb1⟩
 by_cases hlp : g.pri.length = g.own.length
 case neg =>
  refine ofa Cs G<|old G22 G ‹_›<|oln U22 G<|mi G<|one G G<|ist (by omega)<|mb G<|gof G<|gof G<|gof G<|gof G<|gof G<|ptb G G<|?_
  refine cdt G<|ai G<|?_
  exact rt1 rfl rfl ⟨_,rfl,by simp,hb1⟩
 by_cases hls : g.suc.length = g.own.length
 case neg =>
  refine ofa Cs G<|old G22 G ‹_›<|oln U22 G<|mi G<|one G G<|isf (by omega)<|mb G<|gon G<|ofa Dp G<|gon G<|old G27 G ‹_›<|gon G<|oln U27 G<|gon G<|mi G<|gon G<|one G G<|ist (by omega)<|pfb G G<|?_
  refine cdt G<|ai G<|?_
  exact rt1 rfl rfl ⟨_,rfl,by simp,hb1⟩
 refine ofa Cs G<|old G22 G ‹_›<|oln U22 G<|mi G<|one G G<|isf (by omega)<|mb G<|gon G<|ofa Dp G<|gon G<|old G27 G ‹_›<|gon G<|oln U27 G<|gon G<|mi G<|gon G<|one G G<|isf (by omega)<|pfb G G<|?_
 refine cdf G<|ai G<|lp (σ := Nat) (fun k => [(1,.pointer (some ⟨b,0,none⟩)),(2,.int .i64 0),(3,.int .i64 g.own.length),(4,.int .i64 k)])
  (fun k W => Below w.heap.size w W ∧ W.heap[b]? = some (.cells #[.slice OA g.own.length co,.slice PA g.pri.length cp,.slice SA g.suc.length cS] 29 (0,0)) ∧ k ≤ g.own.length ∧
   ∀ v,v < k → (∀ x,g.own[v]? = some x → x = 0 ∨ x = 1) ∧ (∀ x,g.pri[v]? = some x → 0 ≤ x ∧ x ≤ 16) ∧ ∀ r,g.suc[v]? = some r → r ≠ [] ∧ Rise g.own.length r)
  (fun k => g.own.length - k) 0 ⟨rfl,rfl,rfl,rfl,rfl⟩ ⟨hb1,hbb,Nat.zero_le _,fun v h => absurd h (Nat.not_lt_zero v)⟩ ?_
 clear hbb h0 h1 h2 hb1
 rintro k f W ⟨hB,hbb,hk,hin⟩
 have h0 : W.cell? ⟨b,0 + 0,none⟩ = some (.slice OA g.own.length co) := (Ac hbb 0).trans rfl
 have h1 : W.cell? ⟨b,0 + 1,none⟩ = some (.slice PA g.pri.length cp) := (Ac hbb 1).trans rfl
 have h2 : W.cell? ⟨b,0 + 2,none⟩ = some (.slice SA g.suc.length cS) := (Ac hbb 2).trans rfl
 refine mi G<|mi G<|olt G G<|cdd G (fun h => ?_) (fun h => ?_)
 ·have h : k < g.own.length := Int.ofNat_lt.1 h
  obtain ⟨ow,how⟩ : ∃ x,g.own[k]? = some x := ⟨_,gE h⟩
  obtain ⟨pr,hpr⟩ : ∃ x,g.pri[k]? = some x := ⟨_,gE (hlp ▸ h)⟩
  obtain ⟨row,hrow⟩ : ∃ x,g.suc[k]? = some x := ⟨_,gE (hls ▸ h)⟩
  obtain ⟨adO,rfl,hcO⟩ := Au hG.own how
  have hcO := Ae hB hcO
  obtain ⟨adP,rfl,hcP⟩ := Au hG.pri hpr
  have hcP := Ae hB hcP
  obtain ⟨adS,c,rfl,_,⟨RA,rc,rfl,hrc,hRow⟩,hcS⟩ := DG hG.suc hrow
  have hcS : W.cell? (adS.add (k * 1)) = some (.slice RA row.length rc) := Ae hB (hcS 0 _ rfl)
  have hu0 := hu ow (List.mem_of_getElem? how)
  have hs : k < g.suc.length := hls ▸ h
  have hp : k < g.pri.length := hlp ▸ h
  refine ofa BQ G<|old G26 G ‹_›<|mi G<|AD U26 Z5 G G (by first | assumption | omega)<|old G5 G ‹_›<|ogt G G<|?_
  refine cdd G (fun h => ?_) (fun ho => ?_)
  ·refine ai G<|?_
   exact rt1 rfl rfl ⟨_,rfl,by simp,hB⟩
  by_cases hp0 : pr < 0
  case pos =>
   refine ofa Cs G<|old G22 G ‹_›<|mi G<|AD U22 Z3 G G (by first | assumption | omega)<|old G3 G ‹_›<|olt G G<|ist (by omega)<|mb G<|gof G<|gof G<|gof G<|gof G<|gof G<|gof G<|ptb G G<|?_
   refine cdt G<|ai G<|?_
   exact rt1 rfl rfl ⟨_,rfl,by simp,hB⟩
  by_cases hp1 : 16 < pr
  case pos =>
   refine ofa Cs G<|old G22 G ‹_›<|mi G<|AD U22 Z3 G G (by first | assumption | omega)<|old G3 G ‹_›<|olt G G<|isf (by omega)<|mb G<|gon G<|ofa Cs G<|gon G<|old G22 G ‹_›<|gon G<|mi G<|gon G<|AD U22 Z3 G G (by first | assumption | omega)<|gon G<|old G3 G ‹_›<|gon G<|ogt G G<|ist (by omega)<|pfb G G<|?_
   refine cdt G<|ai G<|?_
   exact rt1 rfl rfl ⟨_,rfl,by simp,hB⟩
  refine ofa Cs G<|old G22 G ‹_›<|mi G<|AD U22 Z3 G G (by first | assumption | omega)<|old G3 G ‹_›<|olt G G<|isf (by omega)<|mb G<|gon G<|ofa Cs G<|gon G<|old G22 G ‹_›<|gon G<|mi G<|gon G<|AD U22 Z3 G G (by first | assumption | omega)<|gon G<|old G3 G ‹_›<|gon G<|ogt G G<|isf (by omega)<|pfb G G<|?_
  refine cdf G<|ofa Dp G<|old G27 G ‹_›<|mi G<|AD U27 Z22 G G (by first | assumption | omega)<|old G22 G ‹_›<|oln U22 G<|oeq G G<|?_
  refine cdd G (fun h => ?_) (fun hr0 => ?_)
  ·refine ai G<|?_
   exact rt1 rfl rfl ⟨_,rfl,by simp,hB⟩
  refine ofa Dp G<|old G27 G ‹_›<|mi G<|AD U27 Z22 G G (by first | assumption | omega)<|old G22 G ‹_›<|mi G<|?_
  refine cl C45 [] G ((rises45 RA rc g.own.length row W (Kd.C_below hRow hB)).mono ?_)
  rintro e W1 ⟨rb,rfl,hrb,hb1⟩
  refine ⟨_,rfl,?_⟩
  have hB1 := Ad hB hb1
  have hbb1 := Ab hbb hb1
  cases rb with
  | false =>
   refine ont G<|cdt G<|ai G<|?_
   exact rt1 rfl rfl ⟨_,rfl,by simp,hB1⟩
  | true =>
   refine ont G<|cdf G<|mi G<|oad G G (by first | assumption | omega)<|ai G<|?_
   refine ⟨k + 1,⟨rfl,rfl,rfl,rfl,rfl⟩,⟨hB1,hbb1,h,fun v hv => ?_⟩,Nat.sub_lt_sub_left h (Nat.lt_succ_self k)⟩
   by_cases e : v = k
   ·subst e
    rw [how,hpr,hrow]
    refine ⟨fun x hx => ?_,fun x hx => ?_,fun x hx => ?_⟩
    ·injection hx; omega
    ·injection hx; omega
    ·injection hx with hx
     subst hx
     exact ⟨fun e => hr0 (by rw [e]; rfl),hrb rfl⟩
   ·exact hin v (by omega)
 ·refine ai G<|rt1 G G ⟨_,rfl,fun _ => ⟨⟨by omega,by omega,hlp,hls,fun v x hx => ?_,fun v x hx => ?_,fun v r hr => ?_⟩,fun v r hr => ?_⟩,hB⟩
  ·exact (hin v (by have := (List.getElem?_eq_some_iff.1 hx).1; omega)).1 x hx
  ·exact (hin v (by have := (List.getElem?_eq_some_iff.1 hx).1; omega)).2.1 x hx
  ·obtain ⟨p1,p2⟩ := (hin v (by have := (List.getElem?_eq_some_iff.1 hr).1; omega)).2.2 r hr
   exact ⟨p1,by have := p2.length; omega,p2.2⟩
  ·exact ((hin v (by have := (List.getElem?_eq_some_iff.1 hr).1; omega)).2.2 r hr).2
theorem Gg (g : GL) (w : World) (OA PA SA : Option Addr) (co cp cS : Nat) (hG : GR g w OA PA SA) (hF : g.Full) :
  Calls Tryz.prog 46 #[.agg #[.slice OA g.own.length co,.slice PA g.pri.length cp,.slice SA g.suc.length cS]] w fun e w' => e = .returned (.int .i64 0) ∧ Below w.heap.size w w' := by
 have hg := hF.ok
 have hpos := hg.pos
 have hmax := hg.max
 have hlp := hg.lp
 have hls := hg.ls
 refine enter 68 Tryz.func46 G G _ (by simp) ?_
 refine obx G G ?_
 intro b w1 hb hbb hb1
 refine ai G<|?_
 have hbb : w1.heap[b]? = some (.cells #[.slice OA g.own.length co,.slice PA g.pri.length cp,.slice SA g.suc.length cS] 29 (0,0)) := hbb
 have h0 : w1.cell? ⟨b,0 + 0,none⟩ = some (.slice OA g.own.length co) := (Ac hbb 0).trans rfl
 have h1 : w1.cell? ⟨b,0 + 1,none⟩ = some (.slice PA g.pri.length cp) := (Ac hbb 1).trans rfl
 have h2 : w1.cell? ⟨b,0 + 2,none⟩ = some (.slice SA g.suc.length cS) := (Ac hbb 2).trans rfl
 refine ofa BQ G<|old G26 G ‹_›<|oln U26 G<|ai G<|mi G<|oeq G G<|isf (by omega)<|ab G<|?_
 refine cdf G<|mi G<|ogt G G<|isf (by omega)<|ab G<|?_
 refine cdf G<|ofa Cs G<|old G22 G ‹_›<|oln U22 G<|mi G<|one G G<|isf (by omega)<|mb G<|gon G<|ofa Dp G<|gon G<|old G27 G ‹_›<|gon G<|oln U27 G<|gon G<|mi G<|gon G<|one G G<|isf (by omega)<|pfb G G<|ab G<|?_
 refine cdf G<|ofa Dp G<|old G27 G ‹_›<|oln U27 G<|mi G<|lp (σ := Nat) (fun k => [(1,.pointer (some ⟨b,0,none⟩)),(2,.int .i64 0),(3,.int .i64 g.own.length),(29,.slice SA g.suc.length cS),(30,.int .i64 g.suc.length),(31,.int .i64 k)])
  (fun k W => W = w1 ∧ k ≤ g.own.length) (fun k => g.own.length - k) 0 ⟨rfl,rfl,rfl,rfl,rfl,rfl,rfl⟩ ⟨rfl,Nat.zero_le _⟩ ?_
 rintro k f W ⟨rfl,hk⟩
 refine olt G G<|cdd G (fun h => ?_) (fun h => ?_)
 ·have hs : k < g.suc.length := Int.ofNat_lt.1 h
  have h : k < g.own.length := hls ▸ hs
  have hp : k < g.pri.length := hlp ▸ h
  obtain ⟨ow,how⟩ : ∃ x,g.own[k]? = some x := ⟨_,gE h⟩
  obtain ⟨pr,hpr⟩ : ∃ x,g.pri[k]? = some x := ⟨_,gE hp⟩
  obtain ⟨row,hrow⟩ : ∃ x,g.suc[k]? = some x := ⟨_,gE hs⟩
  have hq1 := hg.own k ow how
  have hq2 := hg.pri k pr hpr
  have hq3 := hg.row k row hrow
  have hq4 : row.length ≠ 0 := fun e => hq3.1 (List.length_eq_zero_iff.1 e)
  obtain ⟨adO,rfl,hcO⟩ := Au hG.own how
  have hcO := Ae hb1 hcO
  obtain ⟨adP,rfl,hcP⟩ := Au hG.pri hpr
  have hcP := Ae hb1 hcP
  obtain ⟨adS,c,rfl,_,⟨RA,rc,rfl,hrc,hRow⟩,hcS⟩ := DG hG.suc hrow
  have hcS : W.cell? (adS.add (k * 1)) = some (.slice RA row.length rc) := Ae hb1 (hcS 0 _ rfl)
  refine mi G<|AD U27 Z22 G G (by first | assumption | omega)<|old G22 G ‹_›<|ai G<|asl G<|?_
  refine ofa BQ G<|old G26 G ‹_›<|mi G<|AD U26 Z5 G G (by first | assumption | omega)<|old G5 G ‹_›<|ogt G G<|isf (by omega)<|ab G<|?_
  refine cdf G<|ofa Cs G<|old G22 G ‹_›<|mi G<|AD U22 Z3 G G (by first | assumption | omega)<|old G3 G ‹_›<|olt G G<|isf (by omega)<|mb G<|gon G<|ofa Cs G<|gon G<|old G22 G ‹_›<|gon G<|mi G<|gon G<|AD U22 Z3 G G (by first | assumption | omega)<|gon G<|old G3 G ‹_›<|gon G<|ogt G G<|isf (by omega)<|pfb G G<|ab G<|?_
  refine cdf G<|ms G<|oln U22 G<|oeq G G<|isf (by omega)<|ab G<|?_
  refine cdf G<|ms G<|mi G<|cl C83 [] G ((positions83 RA rc g.own.length row W (Kd.C_below hRow hb1) (hF.rise k row hrow) (by omega)).mono ?_)
  rintro e W ⟨rfl,rfl⟩
  refine ⟨_,rfl,?_⟩
  refine ont G<|ab G<|cdf G<|oad G G (by first | assumption | omega)<|mi G<|?_
  exact ⟨k + 1,⟨rfl,rfl,rfl,rfl,rfl,rfl,rfl⟩,⟨rfl,h⟩,Nat.sub_lt_sub_left h (Nat.lt_succ_self k)⟩
 ·refine ai G<|?_
  exact rt1 rfl rfl ⟨rfl,hb1⟩
theorem G63 : ∀ w,(isAgg 63).run Tryz.prog w = .ok true w := fun _ => by kernel_rfl
theorem S63 : ∀ w,(sizeOf 63).run Tryz.prog w = .ok 2 w := fun _ => by kernel_rfl
theorem F1 {α : Type} {d : Kd α} {e e' base b : Nat} {W W1 : World} {ok : Nat → Prop} {u : Value} {xs : List α} {cells : Array Value} (h : d.R e W base ok u xs) (hb : W.heap[b]? = some (.cells cells e' (0,0))) (ht : ∀ q,q ∈ e :: d.E → q ≠ e') (hg : W.grownBy W1 (some b)) : d.R e W1 base ok u xs :=
 Kd.R_over' (v := .slice (some ⟨b,0,none⟩) 0 0) h (fun k hk => by cases hk; exact ⟨_,hb⟩) ht hg
theorem EV {α : Type} {d : Kd α} {e base : Nat} {W : World} {ok : Nat → Prop} {v : Value} {xs : List α} (hr : d.R e W base ok v xs) : d.R e W base (fun _ => True) v xs := Kd.R_mono hr (fun _ _ => trivial)
structure S19 (g : GL) (w : World) (b b2 p gs b8 b9 : Nat) (OA PA SA : Option Addr) (co cp cS cs : Nat) (X0 : Option Addr) (x0 : Nat) (X1 : Option Addr) (x1 : Nat) (z1 : List Bool) (WA : Option Addr) (wc : Nat) (W : World) : Prop where
 sv : SV g w p gs OA PA SA co cp cS cs W
 gb : W.heap[b]? = some (.cells #[.slice OA g.own.length co,.slice PA g.pri.length cp,.slice SA g.suc.length cS] 29 (0,0))
 rb : W.heap[b2]? = some (.cells #[.slice none 0 0,.slice none 0 0] 63 (0,0))
 wb : W.heap[b8]? = some (.cells #[.slice X0 g.own.length x0,.slice X1 g.own.length x1] 134 (0,0))
 r1 : Kd.bool.R 4 W 0 (fun _ => True) (.slice X1 g.own.length x1) z1
 ab : W.heap[b9]? = some (.cells #[.slice WA g.own.length wc,.slice (some ⟨gs,0,none⟩) g.own.length cs] 63 (0,0))
 lo : w.heap.size ≤ b2
section
variable {g : GL} {w W W1 : World} {b b2 p gs b8 b9 : Nat} {OA PA SA X0 X1 WA : Option Addr} {co cp cS cs x0 x1 wc : Nat} {z1 : List Bool}
theorem S19.below (h : S19 g w b b2 p gs b8 b9 OA PA SA co cp cS cs X0 x0 X1 x1 z1 WA wc W) (hb : Below W.heap.size W W1) : S19 g w b b2 p gs b8 b9 OA PA SA co cp cS cs X0 x0 X1 x1 z1 WA wc W1 :=
 ⟨h.sv.below hb,Ab h.gb hb,Ab h.rb hb,Ab h.wb hb,Bg (Kd.R_below h.r1 hb),Ab h.ab hb,h.lo⟩
theorem S19.moved (h : S19 g w b b2 p gs b8 b9 OA PA SA co cp cS cs X0 x0 X1 x1 z1 WA wc W) (hs : SV g w p gs OA PA SA co cp cS cs W1) (hg : W.grownBy W1 (some gs)) : S19 g w b b2 p gs b8 b9 OA PA SA co cp cS cs X0 x0 X1 x1 z1 WA wc W1 :=
 ⟨hs,Ck h.sv h.gb (by decide) hg,Ck h.sv h.rb (by decide) hg,Ck h.sv h.wb (by decide) hg,h.sv.set h.r1 hg,Ck h.sv h.ab (by decide) hg,h.lo⟩
theorem Fj {α : Type} {d : Kd α} {e base k t : Nat} {ok : Nat → Prop} {v : Value} {xs : List α} {cells : Array Value} (hr : d.R e W base ok v xs) (hk : W.heap[k]? = some (.cells cells t (0,0))) (ht : t ≠ e) (hg : W.grownBy W1 v.ownBlock) : W1.heap[k]? = some (.cells cells t (0,0)) :=
 Ar hk hg (fun e => by obtain ⟨c,hc⟩ := Kd.R_typed hr k e.symm; exact An hk hc ht rfl)
theorem S19.row (h : S19 g w b b2 p gs b8 b9 OA PA SA co cp cS cs X0 x0 X1 x1 z1 WA wc W) {ok : Nat → Prop} {v : Value} {xs : List Int} (hr : (Kd.int .u8).R 5 W w.heap.size ok v xs) (hg : W.grownBy W1 v.ownBlock) : S19 g w b b2 p gs b8 b9 OA PA SA co cp cS cs X0 x0 X1 x1 z1 WA wc W1 := by
 obtain ⟨ys,hy⟩ := h.sv.st
 exact ⟨⟨h.sv.low.grown hg h.sv.low.size (fun k hk => Kd.R_base hr k hk),Fj hr h.sv.blk (by decide) hg,ys,Kd.R_over hy hr (by decide) hg⟩,Fj hr h.gb (by decide) hg,Fj hr h.rb (by decide) hg,Fj hr h.wb (by decide) hg,Kd.R_over h.r1 hr (by decide) hg,Fj hr h.ab (by decide) hg,h.lo⟩
end
theorem mem_rep {n v : Nat} : mem (List.replicate n true) v ↔ v < n := by
 unfold mem
 rw [List.getElem?_replicate]
 split <;> simp [*]
theorem arena_all {g : GL} (hg : g.Ok) : g.gm.Arena (mem (List.replicate g.own.length true)) := by
 intro v hv
 have hv := mem_rep.1 hv
 refine ⟨hv,?_⟩
 have hls := hg.ls
 obtain ⟨row,hrow⟩ : ∃ row,g.suc[v]? = some row := ⟨_,gE (by omega)⟩
 obtain ⟨h0,h1,h2⟩ := hg.row v row hrow
 obtain ⟨u,r,rfl⟩ := List.exists_cons_of_ne_nil h0
 have hu := h2 u (by simp)
 exact ⟨u.toNat,by rw [FC hrow]; simp,mem_rep.2 (by omega)⟩
def win (z1 : List Bool) : List Int := z1.map fun x => if x then 1 else 0
theorem solve19 (g : GL) (w : World) (OA PA SA : Option Addr) (co cp cS : Nat) (hG : GR g w OA PA SA) (hF : g.Full) :
  Calls Tryz.prog 19 #[.agg #[.slice OA g.own.length co,.slice PA g.pri.length cp,.slice SA g.suc.length cS]] w fun e w' => ∃ WA wc SB sc z0 z1,e = .returned (.tuple #[.agg #[.slice WA g.own.length wc,.slice SB g.own.length sc],.int .i64 0]) ∧
   z1.length = g.own.length ∧ (Kd.int .u8).C w' WA g.own.length (win z1) ∧ Below w.heap.size w w' ∧ (∀ v,v < g.own.length ↔ mem z0 v ∨ mem z1 v) ∧ (∃ φ,g.gm.Cert 0 (fun v => v < g.own.length) (mem z0) φ) ∧ ∃ φ,g.gm.Cert 1 (fun v => v < g.own.length) (mem z1) φ := by
 have hg := hF.ok
 have hn0 := hg.pos
 have hn := hg.max
 have hlp := hg.lp
 have hls := hg.ls
 refine enter 79 Tryz.func19 G G _ (by simp) ?_
 refine obx G G ?_
 intro b w1 hbe hbb hb1
 have hbb : w1.heap[b]? = some (.cells [.slice OA g.own.length co,.slice PA g.pri.length cp,.slice SA g.suc.length cS].toArray 29 (0,0)) := hbb
 refine oal (v := .agg #[.slice none 0 0,.slice none 0 0]) (fun _ => by kernel_rfl) G ?_
 intro b2 w2 hb2e hb2b hb2
 have hbb := Ab hbb hb2
 have hs1 := hb1.size
 have hlo : w.heap.size ≤ b2 := by omega
 have hB2 := Ad hb1 hb2
 refine ai G<|AV (vs := [.slice OA g.own.length co,.slice PA g.pri.length cp,.slice SA g.suc.length cS]) G29 S29 G (Ak hbb)<|cl C46 [] G ((Gg g w2 OA PA SA co cp cS (hG.below hB2) hF).mono ?_)
 rintro e w3 ⟨rfl,hb3⟩
 refine ⟨_,rfl,?_⟩
 have hbb := Ab hbb hb3
 have hb2b := Ab hb2b hb3
 have hB3 := Ad hB2 hb3
 refine ai G<|mi G<|one G G<|isf (by omega)<|?_
 refine cdf G<|cut (σ := Nat × Nat × Nat) (fun s => [(1,.pointer (some ⟨b,0,none⟩)),(2,.pointer (some ⟨b2,0,none⟩)),(3,.int .i64 0),(5,.pointer (some ⟨s.1,0,none⟩))])
  (fun s W => Below w.heap.size w W ∧ W.heap[b]? = some (.cells [.slice OA g.own.length co,.slice PA g.pri.length cp,.slice SA g.suc.length cS].toArray 29 (0,0)) ∧ W.heap[b2]? = some (.cells [.slice none 0 0,.slice none 0 0].toArray 63 (0,0)) ∧ SV g w s.1 s.2.1 OA PA SA co cp cS s.2.2 W) (by repeat' (first | exact BB | exact BD | exact Bl | refine Bi ?_ ?_ | refine Bk ?_ | refine Bj ?_ | refine AX _ ?_)) ?_ ?_
 ·refine Bu mixed (fun v => v.heap[b]? = some (.cells [.slice OA g.own.length co,.slice PA g.pri.length cp,.slice SA g.suc.length cS].toArray 29 (0,0))) ?_
  intro w4 hb4 _ _
  have hbb := Ab hbb hb4
  have hb2b := Ab hb2b hb4
  have hB4 := Ad hB3 hb4
  refine Aj 0 G (by kernel_rfl) (fun _ _ _ h => h) G (fun v hv => Bs (vs := [.slice OA g.own.length co,.slice PA g.pri.length cp,.slice SA g.suc.length cS]) G29 S29 G (Ak hv)) hbb<|Aj 1 G (by kernel_rfl) (fun _ _ _ h => h) G (fun v _ => AQ BQ G v) hbb<|Aj 2 G (by kernel_rfl) (fun _ _ _ h => h) G (fun v hv => Ai G26 G ((Ac hv 0).trans G)) hbb<|Aj 3 G (by kernel_rfl) (fun _ _ _ h => h) G (fun v _ => Ec U26 G v) hbb<|AA 4 (by kernel_rfl) G<|omk (Kd.int .i64) U22 I3 G G 0 (fun _ => rfl) (by omega) G (by decide) (by decide) ?_
  intro GA cs w5 hst hb5
  obtain ⟨gs,_,hv,hgs,_,_⟩ := Kd.R_form hst (by simp; omega)
  injection hv with hv1 hv2 hv3
  subst hv1
  have hbb := Ab hbb hb5
  have hb2b := Ab hb2b hb5
  have hB5 := Ad hB4 hb5
  refine ⟨hbb,?_⟩
  refine Aj (v := .agg #[.slice OA g.own.length co,.slice PA g.pri.length cp,.slice SA g.suc.length cS,.slice (some ⟨gs,0,none⟩) g.own.length cs]) 5 G (by kernel_rfl) (fun _ _ _ h => h) G (fun _ _ => by kernel_rfl) hbb<|?_
  refine AA 6 (by kernel_rfl) G<|obx G G ?_
  intro p w6 hpe hpb hb6
  have hbb := Ab hbb hb6
  have hb2b := Ab hb2b hb6
  have hB6 := Ad hB5 hb6
  have hst := EV (Kd.R_below hst hb6)
  refine ⟨hbb,?_⟩
  refine AA 7 (by kernel_rfl) G<|ap G<|⟨hbb,AY (by kernel_rfl) ?_⟩
  exact ⟨(p,gs,cs),⟨rfl,rfl,rfl,rfl,rfl⟩,hB6,hbb,hb2b,hB6,hpb,_,Kd.R_lower hst hB4.size⟩
 clear hbb hb2b hB2 hB3 hb1 hb2 hb3
 rintro ⟨p,gs,cs⟩ f w6 ⟨hB6,hbb,hb2b,hSV⟩
 simp only at hSV
 have h0 : w6.cell? ⟨b,0 + 0,none⟩ = some (.slice OA g.own.length co) := (Ac hbb 0).trans rfl
 refine ofa BQ G<|old G26 G ‹_›<|oln U26 G<|omk Kd.bool Bn I4 G G false (fun _ => rfl) (by omega) G (by decide) (by decide) ?_
 intro AI ci w7 hrI hb7
 refine asl G<|ms G<|oln Bn G<|mi G<|lp (σ := Nat) (fun k => [(1,.pointer (some ⟨b,0,none⟩)),(2,.pointer (some ⟨b2,0,none⟩)),(3,.int .i64 0),(5,.pointer (some ⟨p,0,none⟩)),(6,.slice AI g.own.length ci),(29,.int .i64 g.own.length),(30,.int .i64 k)])
  (fun k W => k ≤ g.own.length ∧ Below w6.heap.size w6 W ∧ Kd.bool.R 4 W w6.heap.size (fun _ => True) (.slice AI g.own.length ci) ((List.replicate g.own.length true).take k ++ List.replicate (g.own.length - k) false))
  (fun k => g.own.length - k) 0 ⟨rfl,rfl,rfl,rfl,rfl,rfl,rfl,rfl⟩ ⟨Nat.zero_le _,hb7,by simpa using hrI⟩ ?_
 clear hrI hb7 h0
 rintro k f W ⟨hk,hB,hR⟩
 refine olt G G<|cdd G (fun h => ?_) (fun h => ?_)
 ·have h : k < g.own.length := Int.ofNat_lt.1 h
  obtain ⟨gi,_,hv,hbg,_,_⟩ := Kd.R_form hR (by simp; omega)
  injection hv with hv1 hv2 hv3
  subst hv1
  have hfs := Ey (List.replicate g.own.length true) false g.own.length k (by simp) (by simpa using h)
  rw [List.getElem_replicate] at hfs
  refine mi G<|ai G<|ms G<|mi G<|AD Bn Z4 G G (by first | assumption | omega)<|?_
  refine CG S4 hR (k := k) h G G ?_
  intro W2 hR2 hg2
  refine oad G G (by first | assumption | omega)<|mi G<|?_
  rw [hfs] at hR2
  exact ⟨k + 1,⟨rfl,rfl,rfl,rfl,rfl,rfl,rfl,rfl⟩,⟨h,hB.grown hg2 hB.size (by rintro _ ⟨⟩; exact hbg),hR2⟩,Nat.sub_lt_sub_left h (Nat.lt_succ_self k)⟩
 have hkn : k = g.own.length := by omega
 subst hkn
 rw [Fg _ _ _ (by simp)] at hR
 have hSV := hSV.below hB
 have hbb := Ab hbb hB
 have hb2b := Ab hb2b hB
 have hR := Bg hR
 refine mp G<|ms G<|cl C55 [] G ((solve_go g hg w p gs OA PA SA co cp cS cs hG _ W AI ci _ (Nat.lt_succ_self _) hSV (by simp) hR (arena_all hg)).mono ?_)
 rintro e W1 ⟨X0,x0,X1,x1,z0,z1,rfl,hz0,hz1,hr0,hr1,hSV1,hg1,hcov,hc0,hc1⟩
 refine ⟨_,rfl,?_⟩
 have hbb := Ck hSV hbb (by decide) hg1
 have hb2b := Ck hSV hb2b (by decide) hg1
 refine oal (v := .agg #[.slice none 0 0,.slice none 0 0]) (fun _ => by kernel_rfl) G ?_
 intro b8 W2 hb8e hb8 hb
 have hSV := hSV1.below hb
 have hbb := Ab hbb hb
 have hb2b := Ab hb2b hb
 have hr1 := Bg (Kd.R_below hr1 hb)
 refine Bo (vs := [.slice X0 g.own.length x0,.slice X1 g.own.length x1]) Dd G G G (by simp [Value.oneCell']) hb8 (by simp) ?_
 intro W3 hb8' hg3
 have hws := hSV1.low.size
 have hSV : SV g w p gs OA PA SA co cp cS cs W3 := by
  obtain ⟨ys,hy⟩ := hSV.st
  exact ⟨hSV.low.grown hg3 hSV.low.size (fun k hk => by cases hk; omega),Ar hSV.blk hg3 (fun e => An hSV.blk hb8 (by decide) (by injection e)),ys,F1 hy hb8 (by decide) hg3⟩
 have hbb := Ar hbb hg3 (fun e => An hbb hb8 (by decide) (by injection e))
 have hb2b := Ar hb2b hg3 (fun e => An hb2b hb8 (by decide) (by injection e))
 have hr1 := Bm hr1 hb8 (by decide) hg3
 clear hB hR hb8 hg3 hb hg1 hSV1 hws hr0
 refine cut (σ := Nat × Option Addr × Nat) (fun s => [(1,.pointer (some ⟨b,0,none⟩)),(2,.pointer (some ⟨b2,0,none⟩)),(3,.int .i64 0),(5,.pointer (some ⟨p,0,none⟩)),(6,.slice AI g.own.length ci),(8,.pointer (some ⟨b8,0,none⟩)),(9,.pointer (some ⟨s.1,0,none⟩))])
  (fun s W => S19 g w b b2 p gs b8 s.1 OA PA SA co cp cS cs X0 x0 X1 x1 z1 s.2.1 s.2.2 W ∧ (Kd.int .u8).R 5 W w.heap.size (fun _ => True) (.slice s.2.1 g.own.length s.2.2) (List.replicate g.own.length 0)) (by repeat' (first | exact BB | exact BD | exact Bl | refine Bi ?_ ?_ | refine Bk ?_ | refine Bj ?_ | refine AX _ ?_)) ?_ ?_
 ·refine Bu mixed (fun v => v.heap[p]? = some (.cells #[.slice OA g.own.length co,.slice PA g.pri.length cp,.slice SA g.suc.length cS,.slice (some ⟨gs,0,none⟩) g.own.length cs] 132 (0,0))) ?_
  intro W4 hb4 _ _
  have hSV := hSV.below hb4
  have hbb := Ab hbb hb4
  have hb2b := Ab hb2b hb4
  have hb8' := Ab hb8' hb4
  have hr1 := Bg (Kd.R_below hr1 hb4)
  have hS := hSV.blk
  refine Aj 0 G (by kernel_rfl) (fun _ _ _ h => h) G (fun v _ => ms_ G v) hS<|Aj 1 G (by kernel_rfl) (fun _ _ _ h => h) G (fun v _ => Ec Bn G v) hS<|Aj 3 G (by kernel_rfl) (fun _ _ _ h => h) G (fun v _ => mp_ G v) hS<|Aj 4 G (by kernel_rfl) (fun _ _ _ h => h) G (fun v _ => BN G v) hS<|Aj 5 G (by kernel_rfl) (fun _ _ _ h => h) G (fun v _ => AQ Ic G v) hS<|Aj 6 G (by kernel_rfl) (fun _ _ _ h => h) G (fun v hv => Ai G22 G ((Ac hv 3).trans G)) hS<|Em 2 8 (by kernel_rfl) G G ?_ ?_
  ·refine omk (Kd.int .u8) U26 I5 G G 0 (fun _ => rfl) (by omega) G (by decide) (by decide) ?_
   intro WA wc W5 hrW hb5
   have hb2b' := hb2b
   have hwl := hSV.low.size
   have hSV := hSV.below hb5
   have hbb := Ab hbb hb5
   have hb2b := Ab hb2b hb5
   have hb8' := Ab hb8' hb5
   have hr1 := Bg (Kd.R_below hr1 hb5)
   refine ⟨hSV.blk,?_⟩
   have hS := hSV.blk
   refine Aj (v := .agg #[.slice WA g.own.length wc,.slice (some ⟨gs,0,none⟩) g.own.length cs]) 7 G (by kernel_rfl) (fun _ _ _ h => h) G (fun _ _ => by kernel_rfl) hS<|?_
   refine AA 8 (by kernel_rfl) G<|oal (v := .agg #[.slice none 0 0,.slice none 0 0]) (fun _ => by kernel_rfl) G ?_
   intro b9 W6 hb9e hb9 hb6
   have hb5s := hb5.size
   have hrW := EV (Kd.R_below hrW hb6)
   have hSV := hSV.below hb6
   have hbb := Ab hbb hb6
   have hb2b := Ab hb2b hb6
   have hb8' := Ab hb8' hb6
   have hr1 := Bg (Kd.R_below hr1 hb6)
   have hS := hSV.blk
   refine ⟨hS,?_⟩
   refine AA 9 (by kernel_rfl) G<|Bo (vs := [.slice WA g.own.length wc,.slice (some ⟨gs,0,none⟩) g.own.length cs]) S63 G G G (by simp [Value.oneCell']) hb9 (by simp) ?_
   intro W7 hb9' hg7
   have hne : b2 ≠ b9 := by have := Am hb2b'; omega
   have hSV7 : SV g w p gs OA PA SA co cp cS cs W7 := by
    obtain ⟨ys,hy⟩ := hSV.st
    exact ⟨hSV.low.grown hg7 hSV.low.size (fun k hk => by cases hk; omega),Ar hSV.blk hg7 (fun e => An hSV.blk hb9 (by decide) (by injection e)),ys,F1 hy hb9 (by decide) hg7⟩
   refine ⟨hSV7.blk,AY (by kernel_rfl) ?_⟩
   exact ⟨(b9,WA,wc),⟨rfl,rfl,rfl,rfl,rfl,rfl,rfl,rfl⟩,⟨hSV7,Ar hbb hg7 (fun e => An hbb hb9 (by decide) (by injection e)),Ar hb2b hg7 (fun e => hne (by injection e)),Ar hb8' hg7 (fun e => An hb8' hb9 (by decide) (by injection e)),F1 hr1 hb9 (by decide) hg7,hb9',hlo⟩,Kd.R_lower (F1 hrW hb9 (by decide) hg7) (by omega)⟩
  ·refine oal (v := .agg #[.slice none 0 0,.slice none 0 0]) (fun _ => by kernel_rfl) G ?_
   intro b9 W5 hb9e hb9 hb5
   have hb2b' := hb2b
   have hwl := hSV.low.size
   have hSV := hSV.below hb5
   have hbb := Ab hbb hb5
   have hb2b := Ab hb2b hb5
   have hb8' := Ab hb8' hb5
   have hr1 := Bg (Kd.R_below hr1 hb5)
   refine ⟨hSV.blk,?_⟩
   refine AA 2 (by kernel_rfl) G<|omk (Kd.int .u8) U26 I5 G G 0 (fun _ => rfl) (by omega) G (by decide) (by decide) ?_
   intro WA wc W6 hrW hb6
   have hb5s := hb5.size
   have hb9 := Ab hb9 hb6
   have hSV := hSV.below hb6
   have hbb := Ab hbb hb6
   have hb2b := Ab hb2b hb6
   have hb8' := Ab hb8' hb6
   have hr1 := Bg (Kd.R_below hr1 hb6)
   have hS := hSV.blk
   refine ⟨hS,?_⟩
   refine Aj (v := .agg #[.slice WA g.own.length wc,.slice (some ⟨gs,0,none⟩) g.own.length cs]) 7 G (by kernel_rfl) (fun _ _ _ h => h) G (fun _ _ => by kernel_rfl) hS<|?_
   refine AA 9 (by kernel_rfl) G<|Bo (vs := [.slice WA g.own.length wc,.slice (some ⟨gs,0,none⟩) g.own.length cs]) S63 G G G (by simp [Value.oneCell']) hb9 (by simp) ?_
   intro W7 hb9' hg7
   have hne : b2 ≠ b9 := by have := Am hb2b'; omega
   have hSV7 : SV g w p gs OA PA SA co cp cS cs W7 := by
    obtain ⟨ys,hy⟩ := hSV.st
    exact ⟨hSV.low.grown hg7 hSV.low.size (fun k hk => by cases hk; omega),Ar hSV.blk hg7 (fun e => An hSV.blk hb9 (by decide) (by injection e)),ys,F1 hy hb9 (by decide) hg7⟩
   refine ⟨hSV7.blk,AY (by kernel_rfl) ?_⟩
   exact ⟨(b9,WA,wc),⟨rfl,rfl,rfl,rfl,rfl,rfl,rfl,rfl⟩,⟨hSV7,Ar hbb hg7 (fun e => An hbb hb9 (by decide) (by injection e)),Ar hb2b hg7 (fun e => hne (by injection e)),Ar hb8' hg7 (fun e => An hb8' hb9 (by decide) (by injection e)),F1 hr1 hb9 (by decide) hg7,hb9',hlo⟩,Kd.R_lower (F1 hrW hb9 (by decide) hg7) (by omega)⟩
 rintro ⟨b9,WA,wc⟩ f W ⟨hS,hrW⟩
 simp only at hS hrW
 clear hSV hbb hb2b hb8' hr1
 refine ms G<|oln Bn G<|mi G<|?_
 have hzl : (win z1).length = g.own.length := by simp [win,hz1]
 refine lp (σ := Nat) (fun k => [(1,.pointer (some ⟨b,0,none⟩)),(2,.pointer (some ⟨b2,0,none⟩)),(3,.int .i64 0),(8,.pointer (some ⟨b8,0,none⟩)),(9,.pointer (some ⟨b9,0,none⟩)),(49,.int .i64 g.own.length),(50,.int .i64 k)])
  (fun k W => k ≤ g.own.length ∧ S19 g w b b2 p gs b8 b9 OA PA SA co cp cS cs X0 x0 X1 x1 z1 WA wc W ∧ (Kd.int .u8).R 5 W w.heap.size (fun _ => True) (.slice WA g.own.length wc) ((win z1).take k ++ List.replicate (g.own.length - k) 0))
  (fun k => g.own.length - k) 0 ⟨rfl,rfl,rfl,rfl,rfl,rfl,rfl,rfl⟩ ⟨Nat.zero_le _,hS,by simpa using hrW⟩ ?_
 clear hS hrW
 rintro k f W ⟨hk,hS,hrW⟩
 refine olt G G<|cdd G (fun h => ?_) (fun h => ?_)
 ·have h : k < g.own.length := Int.ofNat_lt.1 h
  refine mi G<|ai G<|?_
  obtain ⟨x,hx⟩ : ∃ x,z1[k]? = some x := ⟨_,gE (hz1 ▸ h)⟩
  obtain ⟨adX,rfl,hcX⟩ := Cf hS.r1 hx
  have hw8 : W.cell? ⟨b8,0 + (1 : Int).toNat * 1,none⟩ = some (.slice (some adX) g.own.length x1) := (Ac hS.wb 1).trans rfl
  obtain ⟨gw,_,hv,hbg,_,_⟩ := Kd.R_form hrW (by simp [hzl]; omega)
  injection hv with hv1 hv2 hv3
  subst hv1
  have hk1 : k < (win z1).length := hzl ▸ h
  have hfs := Ey (win z1) 0 g.own.length k hzl hk1
  have hwk : (win z1)[k] = if x then 1 else 0 := by
   have h1 : (win z1)[k]? = some (if x then 1 else 0) := by simp [win,hx]
   rw [gE hk1] at h1
   injection h1
  rw [hwk] at hfs
  refine Ee D5 D2 G G (by first | assumption | omega)<|old Ci G ‹_›<|mi G<|AD Bn Z4 G G (by first | assumption | omega)<|old G4 G ‹_›<|?_
  have ha9 : W.cell? ⟨b9,0 + 0,none⟩ = some (.slice (some ⟨gw,0,none⟩) g.own.length wc) := (Ac hS.ab 0).trans rfl
  refine cut (σ := Unit) (fun _ => [(1,.pointer (some ⟨b,0,none⟩)),(2,.pointer (some ⟨b2,0,none⟩)),(3,.int .i64 0),(8,.pointer (some ⟨b8,0,none⟩)),(9,.pointer (some ⟨b9,0,none⟩)),(10,.int .i64 k),(49,.int .i64 g.own.length),(50,.int .i64 k)])
   (fun _ W => S19 g w b b2 p gs b8 b9 OA PA SA co cp cS cs X0 x0 (some adX) x1 z1 (some ⟨gw,0,none⟩) wc W ∧ (Kd.int .u8).R 5 W w.heap.size (fun _ => True) (.slice (some ⟨gw,0,none⟩) g.own.length wc) ((win z1).take (k + 1) ++ List.replicate (g.own.length - (k + 1)) 0)) (by repeat' (first | exact BB | exact BD | exact Bl | refine Bi ?_ ?_ | refine Bk ?_ | refine Bj ?_ | refine AX _ ?_)) ?_ ?_
  ·cases x with
   | true =>
    refine cdt G<|ofa J6 G<|old G26 G ‹_›<|mi G<|AD U26 Z5 G G (by first | assumption | omega)<|?_
    refine CG S5 hrW (k := k) h G G ?_
    intro W2 hr2 hg2
    have hS2 := hS.row hrW hg2
    simp only [↓reduceIte] at hfs
    rw [hfs] at hr2
    exact ⟨(),⟨rfl,rfl,rfl,rfl,rfl,rfl,rfl,rfl,rfl⟩,hS2,hr2⟩
   | false =>
    refine cdf G ?_
    have hsame : (win z1).take k ++ List.replicate (g.own.length - k) 0 = (win z1).take (k + 1) ++ List.replicate (g.own.length - (k + 1)) 0 := by
     rw [List.take_succ_eq_append_getElem hk1,hwk,show g.own.length - k = (g.own.length - (k + 1)) + 1 by omega,List.replicate_succ,List.append_assoc]
     rfl
    rw [hsame] at hrW
    exact ⟨(),⟨rfl,rfl,rfl,rfl,rfl,rfl,rfl,rfl,rfl⟩,hS,hrW⟩
  clear hS hrW ha9 hw8 hcX
  rintro ⟨⟩ f W ⟨hS,hrW⟩
  obtain ⟨y,hy⟩ : ∃ y,((win z1).take (k + 1) ++ List.replicate (g.own.length - (k + 1)) 0)[k]? = some y := ⟨_,gE (by simp [hzl]; omega)⟩
  obtain ⟨ow,how⟩ : ∃ ow,g.own[k]? = some ow := ⟨_,gE h⟩
  refine drt mixed 10 (by kernel_rfl) ?_
  intro W1 hb1 _ _
  have hS := hS.below hb1
  have hrW := EV (Kd.R_below hrW hb1)
  obtain ⟨_,hgo,hcW⟩ := Au (Kd.R_reads' hrW).2.2 hy
  cases hgo
  obtain ⟨adO,rfl,hcO⟩ := Au hG.own how
  have hcO := Ae hS.sv.low hcO
  have ha9 : W1.cell? ⟨b9,0 + 0,none⟩ = some (.slice (some ⟨gw,0,none⟩) g.own.length wc) := (Ac hS.ab 0).trans rfl
  have h0 : W1.cell? ⟨b,0 + 0,none⟩ = some (.slice (some adO) g.own.length co) := (Ac hS.gb 0).trans rfl
  refine spu (AQ J6 G)<|sru (Ai G26 G ‹_›)<|spu (mi_ G)<|spu (AU U26 Z5 G G (by first | assumption | omega))<|sru (Ai G5 G ‹_›)<|spu (AQ BQ G)<|sru (Ai G26 G ‹_›)<|spu (mi_ G)<|spu (AU U26 Z5 G G (by first | assumption | omega))<|sru (Ai G5 G ‹_›)<|?_
  refine one G G<|cdd G (fun hne => ?_) (fun hne => ?_)
  ·have ha9s : W1.cell? ⟨b9,0 + 1,none⟩ = some (.slice (some ⟨gs,0,none⟩) g.own.length cs) := (Ac hS.ab 1).trans rfl
   obtain ⟨st,hst⟩ := hS.sv.st
   refine ofa X63_1 G<|old G22 G ‹_›<|mi G<|AD U22 Z3 G G (by first | assumption | omega)<|?_
   refine CG S3 hst (k := k) h G G ?_
   intro W2 hst2 hg2
   have hS2 := hS.moved (hS.sv.move hst2 hg2) hg2
   have hr2 := Kd.R_over hrW hst (by decide) hg2
   refine oad G G (by first | assumption | omega)<|mi G<|?_
   exact ⟨k + 1,⟨rfl,rfl,rfl,rfl,rfl,rfl,rfl,rfl⟩,⟨h,hS2,hr2⟩,Nat.sub_lt_sub_left h (Nat.lt_succ_self k)⟩
  ·refine oad G G (by first | assumption | omega)<|mi G<|?_
   exact ⟨k + 1,⟨rfl,rfl,rfl,rfl,rfl,rfl,rfl,rfl⟩,⟨h,hS,hrW⟩,Nat.sub_lt_sub_left h (Nat.lt_succ_self k)⟩
 ·have hkn : k = g.own.length := by omega
  subst hkn
  rw [Fg _ _ _ hzl] at hrW
  refine AV (vs := [.slice WA g.own.length wc,.slice (some ⟨gs,0,none⟩) g.own.length cs]) G63 S63 G (Ak hS.ab)<|Bo (vs := [.slice WA g.own.length wc,.slice (some ⟨gs,0,none⟩) g.own.length cs]) (cs := [.slice none 0 0,.slice none 0 0]) S63 G G G (by simp [Value.oneCell']) hS.rb (by simp) ?_
  intro W2 hb2' hg2
  have hlow := hS.sv.low.grown hg2 hS.sv.low.size (fun k hk => by cases hk; exact hS.lo)
  have hr2 := F1 hrW hS.rb (by decide) hg2
  refine ai G<|K2 (vs := [.slice WA g.own.length wc,.slice (some ⟨gs,0,none⟩) g.own.length cs]) G G G hb2' G63 S63<|⟨WA,wc,some ⟨gs,0,none⟩,cs,z0,z1,rfl,hz1,?_,hlow,fun v => mem_rep.symm.trans (hcov v),?_,?_⟩
  ·have := (Kd.R_reads' hr2).2.2
   rwa [hzl] at this
  ·rw [show (fun v => v < g.own.length) = mem (List.replicate g.own.length true) from funext fun v => propext mem_rep.symm]; exact hc0
  ·rw [show (fun v => v < g.own.length) = mem (List.replicate g.own.length true) from funext fun v => propext mem_rep.symm]; exact hc1
end
section
open Go Fm Go.RowKit Go.Proofs.YtmjllchdhcdinaaGreatDoorW.PrintWords
open PGame (W val via)
structure Me where
 top : Bool
 c : Nat → Int
namespace Me
def enc (m : Me) : List Value := [.bool m.top,.int .i64 (m.c 0),.int .i64 (m.c 1),.int .i64 (m.c 2),.int .i64 (m.c 3),.int .i64 (m.c 4),.int .i64 (m.c 5),.int .i64 (m.c 6),.int .i64 (m.c 7)]
def put (m : Me) (k : Nat) (x : Int) : Me := ⟨m.top,fun j => if j = k then x else m.c j⟩
theorem enc_len (m : Me) : m.enc.length = 9 := rfl
theorem enc_at (m : Me) : ∀ k,k < 8 → m.enc[k + 1]? = some (.int .i64 (m.c k))
 | 0,_ | 1,_ | 2,_ | 3,_ | 4,_ | 5,_ | 6,_ | 7,_ => rfl
 | k + 8,h => by omega
theorem enc_put (m : Me) (x : Int) : ∀ k,k < 8 → m.enc.set (k + 1) (.int .i64 x) = (m.put k x).enc
 | 0,_ | 1,_ | 2,_ | 3,_ | 4,_ | 5,_ | 6,_ | 7,_ => rfl
 | k + 8,h => by omega
theorem enc_one (m : Me) : ∀ u ∈ m.enc,u.oneCell' = true := by
 intro u hu
 simp only [enc,List.mem_cons,List.not_mem_nil,or_false] at hu
 rcases hu with rfl | rfl | rfl | rfl | rfl | rfl | rfl | rfl | rfl <;> rfl
def kd : Kd Me where
 sz := 9
 E := []
 K := fun _ x cs => cs = x.enc
 M := fun _ _ _ x cs => cs = x.enc
 K_len := fun h => by rw [h]; rfl
 K_one := fun h u hu => by
  rw [h] at hu
  exact enc_one _ u hu
 K_below := fun _ h => h
 K_of_M := fun h => h
 M_mono := fun _ h => h
 M_bound := fun h => h
 M_move := fun _ h => h
 M_lower := fun _ h => h
def Good (L : Nat → Int) (m : Me) : Prop := (∀ j,j < 8 → 0 ≤ m.c j ∧ m.c j ≤ L j) ∧ (m.top = true → ∀ j,j < 8 → m.c j = 0)
def nat (f : Nat → Int) : Nat → Nat := fun j => (f j).toNat
def rk (L : Nat → Int) (m : Me) : Nat := if m.top then W (nat L) 8 else val (nat L) (nat m.c) 8
theorem val_congr (l : Nat → Nat) (c c' : Nat → Nat) : ∀ n,(∀ j,j < n → c j = c' j) → val l c n = val l c' n
 | 0,_ => rfl
 | n + 1,h => by
  show val l c n + c n * W l n = val l c' n + c' n * W l n
  rw [val_congr l c c' n (fun j hj => h j (by omega)),h n (by omega)]
theorem val_put (l : Nat → Nat) (c : Nat → Nat) (t x : Nat) : ∀ n,t < n → val l (fun j => if j = t then x else c j) n + c t * W l t = val l c n + x * W l t
 | 0,h => by omega
 | n + 1,h => by
  show val l _ n + (if n = t then x else c n) * W l n + c t * W l t = val l c n + c n * W l n + x * W l t
  by_cases e : n = t
  ·subst e
   rw [if_pos rfl,val_congr l (fun j => if j = n then x else c j) c n (fun j hj => if_neg (by omega))]
   omega
  ·rw [if_neg e]
   have := val_put l c t x n (by omega)
   omega
theorem val_zero (l : Nat → Nat) (c : Nat → Nat) : ∀ n,(∀ j,j < n → c j = 0) → val l c n = 0
 | 0,_ => rfl
 | n + 1,h => by
  show val l c n + c n * W l n = 0
  rw [val_zero l c n (fun j hj => h j (by omega)),h n (by omega)]; simp
theorem upper_congr (l c c' : Nat → Nat) (k : Nat) : ∀ d,(∀ j,k ≤ j → j < k + d → c j = c' j) → PGame.upper l c k d = PGame.upper l c' k d
 | 0,_ => rfl
 | d + 1,h => by
  show PGame.upper l c k d + c (k + d) * _ = PGame.upper l c' k d + c' (k + d) * _
  rw [upper_congr l c c' k d (fun j h1 h2 => h j h1 (by omega)),h (k + d) (by omega) (by omega)]
theorem val_clear (l c c' : Nat → Nat) (k : Nat) (hk : k ≤ 8) (hc : ∀ j,j < k → c j ≤ l j) (h0 : ∀ j,j < k → c' j = 0) (h1 : ∀ j,k ≤ j → j < 8 → c' j = c j) : val l c' 8 = val l c 8 / W l k * W l k := by
 obtain ⟨d,hd⟩ := Nat.exists_eq_add_of_le hk
 rw [hd,PGame.val_div l c k d hc,PGame.val_split,val_zero l c' k h0,upper_congr l c' c k d (fun j hj hj' => h1 j hj (by omega)),Nat.zero_add,Nat.mul_comm]
theorem Good.put {L : Nat → Int} {m : Me} (h : m.Good L) (ht : m.top = false) {k : Nat} {x : Int} (h0 : 0 ≤ x) (h1 : x ≤ L k) : (m.put k x).Good L := by
 refine ⟨fun j hj => ?_,fun e => ?_⟩
 ·show 0 ≤ (if j = k then x else m.c j) ∧ _
  by_cases e : j = k
  ·subst e; simp only [if_true]; exact ⟨h0,by simp [Me.put]; exact h1⟩
  ·rw [if_neg e]; simp only [Me.put,if_neg e]; exact h.1 j hj
 ·have : m.top = true := e
  rw [ht] at this; cases this
end Me
section
variable {n : Nat} {P : Program} {ops : Array Oper} {rest : List Oper} {Q : Bd n} {W : World} {f : Fm n} {d : Tmp} {ty t t' : TypeId} {x y : Operand} {pos : String} {aft : Array Edge}
theorem LO {i j : Int} (hx : ex f x = .int .i64 i) (hy : ex f y = .int .i64 j) (h : 0 ≤ i ∧ 0 < j) (hr : i ≤ 9223372036854775807) : Pv P (.binOp .quo t x y t') ty f (.int .i64 (i / j)) := fun W => by
 have h1 : j ≠ 0 := by omega
 have h2 : i.tdiv j = i / j := Int.tdiv_eq_ediv_of_nonneg h.1
 have h3 : IntKind.wrap .i64 (i / j) = i / j := IntWalk.i64_in _ ⟨by have := Int.ediv_nonneg h.1 (Int.le_of_lt h.2); omega,by have := Int.ediv_le_self j h.1; omega⟩
 simp [Ru,execOp,hx,hy,go_sem,h1,h2,h3]
theorem oqu {i j : Int} (hx : ex f x = .int .i64 i) (hy : ex f y = .int .i64 j) (h : 0 ≤ i ∧ 0 < j) (hr : i ≤ 9223372036854775807) (r : RL P ops Q rest (up f d (.int .i64 (i / j))) W) : LS P ops Q ⟨some d,.binOp .quo t x y t',ty,pos,aft,none⟩ rest f W := Bq (LO hx hy h hr) r
end
end
end Go.Proofs.YtmjllchdhcdinaaGreatDoor

/- Part of the proof: P2. -/
import Derived.Test.YtmjllchdhcdinaaGreatDoorX05
set_option linter.unusedVariables false
set_option linter.unusedSimpArgs false
set_option maxRecDepth 100000
set_option maxHeartbeats 8000000
namespace Go.Proofs.YtmjllchdhcdinaaGreatDoor
section
open Go Fm Go.RowKit Go.Proofs.YtmjllchdhcdinaaGreatDoorW.PrintWords
open PGame (W val via)
def slv (g : GL) (OA PA SA : Option Addr) (co cp cS : Nat) (L : Nat → Int) : List Value := [.slice OA g.own.length co,.slice PA g.pri.length cp,.slice SA g.suc.length cS,.int .i64 (L 0),.int .i64 (L 1),.int .i64 (L 2),.int .i64 (L 3),.int .i64 (L 4),.int .i64 (L 5),.int .i64 (L 6),.int .i64 (L 7)]
theorem I1 (g : GL) (OA PA SA : Option Addr) (co cp cS : Nat) (L : Nat → Int) : ∀ k,k < 8 → (slv g OA PA SA co cp cS L)[k + 3]? = some (.int .i64 (L k))
 | 0,_ | 1,_ | 2,_ | 3,_ | 4,_ | 5,_ | 6,_ | 7,_ => rfl
 | k + 8,h => by omega
def Me.clr (m : Me) (k : Nat) : Me := ⟨m.top,fun j => if j < k then 0 else m.c j⟩
theorem Me.clr_put (m : Me) (k : Nat) : (m.clr k).put k 0 = m.clr (k + 1) := by
 unfold Me.clr Me.put
 congr 1
 funext j
 by_cases e : j = k
 ·subst e; simp
 ·by_cases h : j < k
  ·simp [e,h,show j < k + 1 by omega]
  ·simp [e,h,show ¬ j < k + 1 by omega]
theorem Me.clr_zero (m : Me) : m.clr 0 = m := by unfold Me.clr; simp
theorem Me.clr_good {m : Me} {L : Nat → Int} (h : m.Good L) (hL : ∀ j,j < 8 → 0 ≤ L j ∧ L j ≤ 4096) (k : Nat) : (m.clr k).Good L := by
 refine ⟨fun j hj => ?_,fun e j hj => ?_⟩
 ·show 0 ≤ (if j < k then (0 : Int) else m.c j) ∧ (if j < k then (0 : Int) else m.c j) ≤ L j
  split
  ·exact ⟨Int.le_refl _,(hL j hj).1⟩
  ·exact h.1 j hj
 ·show (if j < k then (0 : Int) else m.c j) = 0
  rw [h.2 e j hj]; simp
theorem Me.clr_val {m : Me} {L : Nat → Int} (h : m.Good L) (k : Nat) (hk : k ≤ 8) : val (Me.nat L) (Me.nat (m.clr k).c) 8 = val (Me.nat L) (Me.nat m.c) 8 / W (Me.nat L) k * W (Me.nat L) k := by
 refine Me.val_clear _ _ _ k hk (fun j hj => ?_) (fun j hj => ?_) (fun j hj _ => ?_)
 ·have := h.1 j (by omega); simp only [Me.nat]; omega
 ·simp [Me.nat,Me.clr,hj]
 ·simp [Me.nat,Me.clr,show ¬ j < k by omega]
theorem via192 (g : GL) (OA PA SA : Option Addr) (co cp cS : Nat) (L : Nat → Int) (s : Nat) (w : World) (p : Int) (m : Me) (hs : w.heap[s]? = some (.cells (slv g OA PA SA co cp cS L).toArray 234 (0,0))) (hp : 0 ≤ p ∧ p ≤ 16) (hm : m.Good L) (hL : ∀ j,j < 8 → 0 ≤ L j ∧ L j ≤ 4096) :
  Calls Tryz.prog 192 #[.pointer (some ⟨s,0,none⟩),.int .i64 p,.agg m.enc.toArray] w fun e w' => ∃ m' : Me,e = .returned (.agg m'.enc.toArray) ∧ m'.Good L ∧ m'.rk L = via (Me.nat L) (W (Me.nat L) 8) p.toNat (m.rk L) ∧ Below w.heap.size w w' := by
 obtain ⟨pn,rfl⟩ := Int.eq_ofNat_of_zero_le hp.1
 have hpn : pn ≤ 16 := by omega
 have hK : pn / 2 ≤ 8 := by omega
 rw [Int.toNat_natCast]
 have hsz := Am hs
 refine enter 56 Tryz.func192 G G _ (by simp) ?_
 refine obx (cs := m.enc) G G ?_
 intro b w1 hb hbb hb1
 have hbl := Am hbb
 refine oal (v := .agg #[.bool false,.int .i64 0,.int .i64 0,.int .i64 0,.int .i64 0,.int .i64 0,.int .i64 0,.int .i64 0,.int .i64 0]) (fun _ => by kernel_rfl) G ?_
 intro r w2 hr hrb hb2
 have hbb := Ab hbb hb2
 have hs2 := Ab (Ab hs hb1) hb2
 have hB := Ad hb1 hb2
 have hbr : b ≠ r := by omega
 have hsb : s ≠ b := by omega
 have hsr : s ≠ r := by omega
 have hwb : w.heap.size ≤ b := by omega
 have hwr : w.heap.size ≤ r := by omega
 have ht0 : w2.cell? ⟨b,0 + 0,none⟩ = some (.bool m.top) := (Ac hbb 0).trans rfl
 refine ofa DP G<|old G4 G ‹_›<|cdb G (fun htop => ?_) (fun htop => ?_)
 ·refine AV (vs := m.enc) G68 S68 G (Ak hbb)<|Bo (vs := m.enc) (cs := [.bool false,.int .i64 0,.int .i64 0,.int .i64 0,.int .i64 0,.int .i64 0,.int .i64 0,.int .i64 0,.int .i64 0]) S68 G G G m.enc_one hrb (by simp [Me.enc_len]) ?_
  intro W1 hr1 hg1
  refine rtc (vs := m.enc) G G hr1 G68 S68<|⟨m,rfl,hm,?_,hB.grown hg1 hB.size (fun k hk => by cases hk; exact hwr)⟩
  have hrk : m.rk L = W (Me.nat L) 8 := by unfold Me.rk; rw [if_pos htop]
  rw [hrk,PGame.via_top _ (Nat.le_refl _)]
 have hrk : m.rk L = val (Me.nat L) (Me.nat m.c) 8 := by unfold Me.rk; rw [if_neg (by rw [htop]; simp)]
 have hlt : m.rk L < W (Me.nat L) 8 := by rw [hrk]; exact PGame.val_lt _ _ 8 (fun j hj => by have := hm.1 j hj; simp only [Me.nat]; omega)
 have hvia : via (Me.nat L) (W (Me.nat L) 8) pn (m.rk L) = if pn % 2 = 0 then val (Me.nat L) (Me.nat (m.clr (pn / 2)).c) 8 else val (Me.nat L) (Me.nat (m.clr (pn / 2)).c) 8 + W (Me.nat L) (pn / 2) := by
  unfold via
  rw [if_neg (Nat.not_le.2 hlt),Me.clr_val hm _ hK,hrk]
 rw [hvia]
 refine mi G<|oqu G G (by omega) (by omega) ?_
 refine mi G<|lp (σ := Nat) (fun k => [(0,.pointer (some ⟨s,0,none⟩)),(1,.int .i64 pn),(5,.pointer (some ⟨b,0,none⟩)),(6,.pointer (some ⟨r,0,none⟩)),(13,.int .i64 ((pn / 2 : Nat) : Int)),(14,.int .i64 k)])
  (fun k W => k ≤ pn / 2 ∧ Below w.heap.size w W ∧ W.heap[b]? = some (.cells (m.clr k).enc.toArray 68 (0,0)) ∧ W.heap[r]? = some (.cells [.bool false,.int .i64 0,.int .i64 0,.int .i64 0,.int .i64 0,.int .i64 0,.int .i64 0,.int .i64 0,.int .i64 0].toArray 68 (0,0)) ∧ W.heap[s]? = some (.cells (slv g OA PA SA co cp cS L).toArray 234 (0,0)))
  (fun k => pn / 2 - k) 0 ⟨rfl,rfl,rfl,rfl,rfl,rfl,rfl⟩ ⟨Nat.zero_le _,hB,by rw [Me.clr_zero]; exact hbb,hrb,hs2⟩ ?_
 clear hbb hrb hs2 hB ht0 hs hb1 hb2
 rintro k f V ⟨hk,hB,hbb,hrb,hs⟩
 refine olt G G<|cdd G (fun h => ?_) (fun h => ?_)
 ·have h : k < pn / 2 := Int.ofNat_lt.1 h
  refine mi G<|ai G<|mi G<|ofa F0 G<|Ee U66 Z3 G G (by first | assumption | omega)<|?_
  refine Bc (v := .int .i64 0) (cs := (m.clr k).enc) (i := 0 + 1 + (k : Int).toNat * 1) S3 G G G hbb (by simp [Me.enc_len]; omega) ?_
  intro W1 hb1 hg1
  rw [show 0 + 1 + (k : Int).toNat * 1 = k + 1 by simp; omega,Me.enc_put _ _ k (by omega),Me.clr_put] at hb1
  refine oad G G (by first | assumption | omega)<|mi G<|?_
  exact ⟨k + 1,⟨rfl,rfl,rfl,rfl,rfl,rfl,rfl⟩,⟨h,hB.grown hg1 hB.size (fun k hk => by cases hk; exact hwb),hb1,Ar hrb hg1 (fun e => hbr (by injection e with e; exact e.symm)),Ar hs hg1 (fun e => hsb (by injection e))⟩,Nat.sub_lt_sub_left h (Nat.lt_succ_self k)⟩
 have hkn : k = pn / 2 := by omega
 subst hkn
 have hgd := Me.clr_good hm hL (pn / 2)
 refine mi G<|orm G G (by omega) ?_
 refine oeq G G<|cdd G (fun hev => ?_) (fun hod => ?_)
 ·refine AV (vs := (m.clr (pn / 2)).enc) G68 S68 G (Ak hbb)<|Bo (vs := (m.clr (pn / 2)).enc) (cs := [.bool false,.int .i64 0,.int .i64 0,.int .i64 0,.int .i64 0,.int .i64 0,.int .i64 0,.int .i64 0,.int .i64 0]) S68 G G G (Me.enc_one _) hrb (by simp [Me.enc_len]) ?_
  intro W1 hr1 hg1
  refine rtc (vs := (m.clr (pn / 2)).enc) G G hr1 G68 S68<|⟨m.clr (pn / 2),rfl,hgd,?_,hB.grown hg1 hB.size (fun k hk => by cases hk; exact hwr)⟩
  rw [if_pos (by omega)]
  unfold Me.rk
  rw [if_neg (by show ¬ m.top = true; rw [htop]; simp)]
 rw [if_neg (by omega)]
 have hval0 := PGame.val_lt (Me.nat L) (Me.nat (m.clr (pn / 2)).c) 8 (fun j hj => by have := hgd.1 j hj; simp only [Me.nat]; omega)
 refine mi G<|oqu G G (by omega) (by omega) ?_
 refine ai G<|lp (σ := Nat × Me) (fun q => [(0,.pointer (some ⟨s,0,none⟩)),(5,.pointer (some ⟨b,0,none⟩)),(6,.pointer (some ⟨r,0,none⟩)),(8,.int .i64 q.1)])
  (fun q V => q.1 ≤ 8 ∧ Below w.heap.size w V ∧ V.heap[b]? = some (.cells q.2.enc.toArray 68 (0,0)) ∧ V.heap[r]? = some (.cells [.bool false,.int .i64 0,.int .i64 0,.int .i64 0,.int .i64 0,.int .i64 0,.int .i64 0,.int .i64 0,.int .i64 0].toArray 68 (0,0)) ∧ V.heap[s]? = some (.cells (slv g OA PA SA co cp cS L).toArray 234 (0,0)) ∧
   q.2.Good L ∧ q.2.top = false ∧ (∀ j,j < q.1 → q.2.c j = 0) ∧ val (Me.nat L) (Me.nat q.2.c) 8 + W (Me.nat L) q.1 = val (Me.nat L) (Me.nat (m.clr (pn / 2)).c) 8 + W (Me.nat L) (pn / 2))
  (fun q => 8 - q.1) (pn / 2,m.clr (pn / 2)) ⟨rfl,rfl,rfl,rfl,rfl⟩ ⟨hK,hB,hbb,hrb,hs,hgd,htop,fun j hj => by simp [Me.clr,show j < pn / 2 from hj],rfl⟩ ?_
 clear hbb hrb hs hB
 rintro ⟨t,c⟩ f V ⟨ht,hB,hbb,hrb,hs,hg,hct,hc0,hv⟩
 simp only at ht hbb hg hct hc0 hv
 refine mi G<|olt G G<|cdd G (fun h => ?_) (fun h => ?_)
 ·have h : t < 8 := by omega
  have hLt := hL t h
  have hgt := hg.1 t h
  refine drt mixed 10 (by kernel_rfl) ?_
  intro V1 hb1 _ _
  have hB := Ad hB hb1
  have hbb := Ab hbb hb1
  have hrb := Ab hrb hb1
  have hs := Ab hs hb1
  have he : 0 + 1 + (t : Int).toNat * 1 = t + 1 := by simp; omega
  have hc : V1.cell? ⟨b,0 + 1 + (t : Int).toNat * 1,none⟩ = some (.int .i64 (c.c t)) := by
   rw [he,Ac hbb,← c.enc_at t h]; simp
  have hl : V1.cell? ⟨s,0 + 3 + (t : Int).toNat * 1,none⟩ = some (.int .i64 (L t)) := by
   rw [show 0 + 3 + (t : Int).toNat * 1 = t + 3 by simp; omega,Ac hs,← I1 g OA PA SA co cp cS L t h]; simp
  have hset : ∀ x : Int,c.enc.set (0 + 1 + (t : Int).toNat * 1) (.int .i64 x) = (c.put t x).enc := fun x => by rw [he]; exact c.enc_put x t h
  have hW : W (Me.nat L) (t + 1) = W (Me.nat L) t * (Me.nat L t + 1) := rfl
  refine spu (mi_ G)<|spu (AQ F0 G)<|spu (CQ U66 Z3 G G (by first | assumption | omega))<|sru (Ai G3 G ‹_›)<|spu (mp_ G)<|spu (mi_ G)<|spu (BN G)<|spu (AQ Ib G)<|spu (CQ U66 Z3 G G (by first | assumption | omega))<|sru (Ai G3 G ‹_›)<|?_
  refine olt G G<|cdd G (fun hlt => ?_) (fun hge => ?_)
  ·refine mi G<|ofa F0 G<|Ee U66 Z3 G G (by first | assumption | omega)<|old G3 G ‹_›<|oad G G (by first | assumption | omega)<|ofa F0 G<|Ee U66 Z3 G G (by first | assumption | omega)<|?_
   refine Bc (v := .int .i64 (c.c t + 1)) (cs := c.enc) (i := 0 + 1 + (t : Int).toNat * 1) S3 G G G hbb (by rw [he,Me.enc_len]; omega) ?_
   intro V2 hb2 hg2
   rw [hset] at hb2
   refine mi G<|oeq G G<|isf (by omega)<|?_
   refine cdf G<|AV (vs := (c.put t (c.c t + 1)).enc) G68 S68 G (Ak hb2)<|Bo (vs := (c.put t (c.c t + 1)).enc) (cs := [.bool false,.int .i64 0,.int .i64 0,.int .i64 0,.int .i64 0,.int .i64 0,.int .i64 0,.int .i64 0,.int .i64 0]) S68 G G G (Me.enc_one _) (Ar hrb hg2 (fun e => hbr (by injection e with e; exact e.symm))) (by simp [Me.enc_len]) ?_
   intro V3 hr3 hg3
   refine rtc (vs := (c.put t (c.c t + 1)).enc) G G hr3 G68 S68 ?_
   have hB2 := hB.grown hg2 hB.size (fun k hk => by cases hk; exact hwb)
   refine ⟨c.put t (c.c t + 1),rfl,hg.put hct (by omega) (by omega),?_,hB2.grown hg3 hB2.size (fun k hk => by cases hk; exact hwr)⟩
   have h1 := Me.val_put (Me.nat L) (Me.nat c.c) t (c.c t + 1).toNat 8 h
   have h2 : Me.nat (c.put t (c.c t + 1)).c = fun j => if j = t then (c.c t + 1).toNat else Me.nat c.c j := by
    funext j
    simp only [Me.nat,Me.put]
    split <;> rfl
   unfold Me.rk
   rw [if_neg (by show ¬ c.top = true; rw [hct]; simp),h2]
   have h3 : (c.c t + 1).toNat = Me.nat c.c t + 1 := by simp only [Me.nat]; omega
   rw [h3,Nat.add_mul,Nat.one_mul] at h1
   rw [h3]
   omega
  ·have hcl : c.c t = L t := by omega
   refine mi G<|ofa F0 G<|Ee U66 Z3 G G (by first | assumption | omega)<|?_
   refine Bc (v := .int .i64 0) (cs := c.enc) (i := 0 + 1 + (t : Int).toNat * 1) S3 G G G hbb (by rw [he,Me.enc_len]; omega) ?_
   intro V2 hb2 hg2
   rw [hset] at hb2
   refine mi G<|oad G G (by first | assumption | omega)<|ai G<|?_
   refine ⟨(t + 1,c.put t 0),⟨rfl,rfl,rfl,rfl,rfl⟩,⟨h,hB.grown hg2 hB.size (fun k hk => by cases hk; exact hwb),hb2,Ar hrb hg2 (fun e => hbr (by injection e with e; exact e.symm)),Ar hs hg2 (fun e => hsb (by injection e)),hg.put hct (Int.le_refl _) hLt.1,hct,fun j hj => ?_,?_⟩,Nat.sub_lt_sub_left h (Nat.lt_succ_self t)⟩
   ·show (if j = t then (0 : Int) else c.c j) = 0
    by_cases e : j = t
    ·rw [if_pos e]
    ·rw [if_neg e]; exact hc0 j (by dsimp only at hj; omega)
   ·have h1 := Me.val_put (Me.nat L) (Me.nat c.c) t 0 8 h
    have h2 : Me.nat (c.put t 0).c = fun j => if j = t then 0 else Me.nat c.c j := by
     funext j
     simp only [Me.nat,Me.put]
     split <;> rfl
    show val (Me.nat L) (Me.nat (c.put t 0).c) 8 + W (Me.nat L) (t + 1) = _
    rw [h2,hW,Nat.mul_add,Nat.mul_one]
    have h3 : Me.nat c.c t = Me.nat L t := by simp only [Me.nat,hcl]
    rw [h3,Nat.zero_mul,Nat.mul_comm (Me.nat L t)] at h1
    omega
 ·have ht8 : t = 8 := by omega
  subst ht8
  refine mi G<|oeq G G<|ist (by omega)<|?_
  refine cdt G<|pl (.agg #[.bool true,.int .i64 0,.int .i64 0,.int .i64 0,.int .i64 0,.int .i64 0,.int .i64 0,.int .i64 0,.int .i64 0]) (fun _ => by kernel_rfl)<|Bo (vs := (⟨true,fun _ => 0⟩ : Me).enc) (cs := [.bool false,.int .i64 0,.int .i64 0,.int .i64 0,.int .i64 0,.int .i64 0,.int .i64 0,.int .i64 0,.int .i64 0]) S68 G G G (Me.enc_one _) hrb (by simp [Me.enc_len]) ?_
  intro V3 hr3 hg3
  refine rtc (vs := (⟨true,fun _ => 0⟩ : Me).enc) G G hr3 G68 S68<|⟨⟨true,fun _ => 0⟩,rfl,⟨fun j hj => ⟨Int.le_refl _,(hL j hj).1⟩,fun _ _ _ => rfl⟩,?_,hB.grown hg3 hB.size (fun k hk => by cases hk; exact hwr)⟩
  have h0 : val (Me.nat L) (Me.nat c.c) 8 = 0 := Me.val_zero _ _ 8 (fun j hj => by simp only [Me.nat,hc0 j hj]; rfl)
  unfold Me.rk
  rw [if_pos rfl]
  omega
end
end Go.Proofs.YtmjllchdhcdinaaGreatDoor

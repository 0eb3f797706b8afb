/- Part of the proof: P3 P4. -/
import Derived.Test.YtmjllchdhcdinaaGreatDoorX06
import Derived.DataElems
set_option linter.unusedVariables false
set_option linter.unusedSimpArgs false
set_option maxRecDepth 100000
set_option maxHeartbeats 8000000
namespace Go.Proofs.YtmjllchdhcdinaaGreatDoor
section
open Go Fm Go.RowKit Go.Proofs.YtmjllchdhcdinaaGreatDoorW.PrintWords
open PGame (W val via)
theorem KE (a : Int) (w : World) : Calls Tryz.prog 203 #[.int .i64 a] w fun e w' => e = .returned (.bool false) ∧ w' = w := by
 refine enter 6 Tryz.func203 G G _ (by simp) ?_
 refine ab G<|mi G<|mi G<|one G G<|isf (by omega)<|ab G<|?_
 exact rt1 rfl rfl ⟨rfl,rfl⟩
def H7 (a b : Int) : Int := if a < b then -1 else if b < a then 1 else 0
theorem cmp195 (a b : Int) (w : World) : Calls Tryz.prog 195 #[.int .i64 a,.int .i64 b] w fun e w' => e = .returned (.int .i64 (H7 a b)) ∧ w' = w := by
 refine enter 20 Tryz.func195 G G _ (by simp) ?_
 refine ai G<|mi G<|cl L3 [] G ((KE a w).mono ?_)
 rintro e w ⟨rfl,rfl⟩
 refine ⟨_,rfl,?_⟩
 refine ab G<|mi G<|cl L3 [] G ((KE b w).mono ?_)
 rintro e w ⟨rfl,rfl⟩
 refine ⟨_,rfl,?_⟩
 refine ab G<|mb G<|cdf G<|mb G<|cdf G<|mi G<|mi G<|olt G G<|?_
 unfold H7
 refine cdd G (fun h => ?_) (fun h => ?_)
 ·refine ai G<|?_
  rw [if_pos h]
  exact rt1 rfl rfl ⟨rfl,rfl⟩
 rw [if_neg h]
 refine mi G<|mi G<|ogt G G<|cdd G (fun h => ?_) (fun h => ?_)
 ·refine ai G<|?_
  rw [if_pos h]
  exact rt1 rfl rfl ⟨rfl,rfl⟩
 rw [if_neg h]
 refine ai G<|?_
 exact rt1 rfl rfl ⟨rfl,rfl⟩
theorem IM {a b : Int} : H7 a b < 0 ↔ a < b := by unfold H7; split <;> (try split) <;> omega
theorem IL {a b : Int} : 0 < H7 a b ↔ b < a := by unfold H7; split <;> (try split) <;> omega
theorem F6 (l c c' : Nat → Nat) (k : Nat) (hk : k < 8) (hc : ∀ j,j < 8 → c j ≤ l j) (he : ∀ j,k < j → j < 8 → c j = c' j) (hlt : c k < c' k) : val l c 8 < val l c' 8 := by
 obtain ⟨d,hd⟩ := Nat.exists_eq_add_of_le (show k + 1 ≤ 8 by omega)
 rw [hd,PGame.val_split l c (k + 1) d,PGame.val_split l c' (k + 1) d,Me.upper_congr l c c' (k + 1) d (fun j h1 h2 => he j (by omega) (by omega))]
 have h1 := PGame.val_lt l c k (fun j hj => hc j (by omega))
 have h2 : val l c (k + 1) = val l c k + c k * W l k := rfl
 have h3 : val l c' (k + 1) = val l c' k + c' k * W l k := rfl
 have h4 : (c k + 1) * W l k ≤ c' k * W l k := Nat.mul_le_mul_right _ hlt
 rw [Nat.add_mul,Nat.one_mul] at h4
 refine Nat.add_lt_add_right ?_ _
 rw [h2,h3]
 omega
theorem Dm (L : Nat → Int) (m m' : Me) (w : World) (hm : m.Good L) (hm' : m'.Good L) :
  Calls Tryz.prog 177 #[.agg m.enc.toArray,.agg m'.enc.toArray] w fun e w' => ∃ c : Int,e = .returned (.int .i64 c) ∧ (c < 0 ↔ m.rk L < m'.rk L) ∧ (0 < c ↔ m'.rk L < m.rk L) ∧ Below w.heap.size w w' := by
 have hn : ∀ {x : Me},x.Good L → ∀ j,j < 8 → Me.nat x.c j ≤ Me.nat L j := fun h j hj => by have := h.1 j hj; simp only [Me.nat]; omega
 have hlt : ∀ {x : Me},x.Good L → val (Me.nat L) (Me.nat x.c) 8 < W (Me.nat L) 8 := fun h => PGame.val_lt _ _ 8 (hn h)
 have hrk : ∀ {x : Me},x.top = true → x.rk L = W (Me.nat L) 8 := fun h => by unfold Me.rk; rw [if_pos h]
 have hrk' : ∀ {x : Me},x.top = false → x.rk L = val (Me.nat L) (Me.nat x.c) 8 := fun h => by unfold Me.rk; rw [if_neg (by rw [h]; simp)]
 refine enter 36 Tryz.func177 G G _ (by simp) ?_
 refine obx (cs := m.enc) G G ?_
 intro b w1 hb hbb hb1
 refine obx (cs := m'.enc) G G ?_
 intro b' w2 hb' hbb' hb2
 have hbb := Ab hbb hb2
 have hB := Ad hb1 hb2
 refine ai G<|?_
 have ht : w2.cell? ⟨b,0 + 0,none⟩ = some (.bool m.top) := (Ac hbb 0).trans rfl
 have ht' : w2.cell? ⟨b',0 + 0,none⟩ = some (.bool m'.top) := (Ac hbb' 0).trans rfl
 cases htm : m.top with
 | true =>
  rw [htm] at ht
  cases htm' : m'.top with
  | true =>
   rw [htm'] at ht'
   refine ofa DP G<|old G4 G ‹_›<|mb G<|gon G<|ofa DP G<|gon G<|old G4 G ‹_›<|ptb G G<|ab G<|cdt G<|ai G<|rt1 G G ⟨_,rfl,?_,?_,hB⟩ <;> rw [hrk htm,hrk htm'] <;> omega
  | false =>
   rw [htm'] at ht'
   have := hlt hm'
   refine ofa DP G<|old G4 G ‹_›<|mb G<|gon G<|ofa DP G<|gon G<|old G4 G ‹_›<|ptb G G<|ab G<|cdf G<|ofa DP G<|old G4 G ‹_›<|ab G<|cdt G<|ai G<|rt1 G G ⟨_,rfl,?_,?_,hB⟩ <;> rw [hrk htm,hrk' htm'] <;> omega
 | false =>
 rw [htm] at ht
 refine ofa DP G<|old G4 G ‹_›<|mb G<|gof G<|gof G<|pfb G G<|ab G<|cdf G<|ofa DP G<|old G4 G ‹_›<|ab G<|cdf G ?_
 cases htm' : m'.top with
 | true =>
  rw [htm'] at ht'
  have := hlt hm
  refine ofa DP G<|old G4 G ‹_›<|ab G<|cdt G<|ai G<|rt1 G G ⟨_,rfl,?_,?_,hB⟩ <;> rw [hrk' htm,hrk htm'] <;> omega
 | false =>
 rw [htm'] at ht'
 refine ofa DP G<|old G4 G ‹_›<|ab G<|cdf G<|ai G<|?_
 rw [hrk' htm,hrk' htm']
 refine lp (σ := Nat) (fun j => [(2,.pointer (some ⟨b,0,none⟩)),(3,.pointer (some ⟨b',0,none⟩)),(5,.int .i64 ((j : Int) - 1))])
  (fun j V => j ≤ 8 ∧ Below w.heap.size w V ∧ V.heap[b]? = some (.cells m.enc.toArray 68 (0,0)) ∧ V.heap[b']? = some (.cells m'.enc.toArray 68 (0,0)) ∧ ∀ t,j ≤ t → t < 8 → m.c t = m'.c t)
  (fun j => j) 8 ⟨rfl,rfl,rfl,rfl⟩ ⟨Nat.le_refl _,hB,hbb,hbb',fun t h1 h2 => by omega⟩ ?_
 clear hbb hbb' hB hb1 hb2 ht ht'
 rintro j f V ⟨hj,hB,hbb,hbb',heq⟩
 refine mi G<|oge G G<|cdd G (fun h => ?_) (fun h => ?_)
 ·obtain ⟨i,rfl⟩ : ∃ i,j = i + 1 := ⟨j - 1,by omega⟩
  refine drt mixed 8 (by kernel_rfl) ?_
  intro V1 hb1 _ _
  have hB := Ad hB hb1
  have hbb := Ab hbb hb1
  have hbb' := Ab hbb' hb1
  have hi : i < 8 := by omega
  have he : 0 + 1 + (((i + 1 : Nat) : Int) - 1).toNat * 1 = i + 1 := by simp; omega
  have hc : V1.cell? ⟨b,0 + 1 + (((i + 1 : Nat) : Int) - 1).toNat * 1,none⟩ = some (.int .i64 (m.c i)) := by
   rw [he,Ac hbb,← m.enc_at i hi]; simp
  have hc' : V1.cell? ⟨b',0 + 1 + (((i + 1 : Nat) : Int) - 1).toNat * 1,none⟩ = some (.int .i64 (m'.c i)) := by
   rw [he,Ac hbb',← m'.enc_at i hi]; simp
  refine spu (mi_ G)<|spu (AQ F0 G)<|spu (CQ U66 Z3 G G (by first | assumption | omega))<|sru (Ai G3 G ‹_›)<|spu (mi_ G)<|spu (AQ F0 G)<|spu (CQ U66 Z3 G G (by first | assumption | omega))<|sru (Ai G3 G ‹_›)<|?_
  refine cl C195 [] G ((cmp195 (m.c i) (m'.c i) V1).mono ?_)
  rintro e V1 ⟨rfl,rfl⟩
  refine ⟨_,rfl,?_⟩
  refine ai G<|mi G<|one G G<|?_
  have hmi := hm.1 i hi
  have hmi' := hm'.1 i hi
  refine cdd G (fun hne => ?_) (fun he0 => ?_)
  ·refine mi G<|ai G<|?_
   have hlx : ∀ t,i < t → t < 8 → Me.nat m.c t = Me.nat m'.c t := fun t h1 h2 => by simp only [Me.nat,heq t (by omega) h2]
   refine rt1 G G ⟨_,rfl,?_,?_,hB⟩
   ·rw [IM]
    constructor
    ·intro h1
     exact F6 _ _ _ i hi (hn hm) hlx (by simp only [Me.nat]; omega)
    ·intro h1
     rcases Int.lt_trichotomy (m.c i) (m'.c i) with h2 | h2 | h2
     ·exact h2
     ·exact absurd (by unfold H7; rw [if_neg (by omega),if_neg (by omega)]) hne
     ·have := F6 (Me.nat L) _ _ i hi (hn hm') (fun t h1 h2 => (hlx t h1 h2).symm) (by simp only [Me.nat]; omega)
      omega
   ·rw [IL]
    constructor
    ·intro h1
     exact F6 _ _ _ i hi (hn hm') (fun t h1 h2 => (hlx t h1 h2).symm) (by simp only [Me.nat]; omega)
    ·intro h1
     rcases Int.lt_trichotomy (m.c i) (m'.c i) with h2 | h2 | h2
     ·have := F6 (Me.nat L) _ _ i hi (hn hm) hlx (by simp only [Me.nat]; omega)
      omega
     ·exact absurd (by unfold H7; rw [if_neg (by omega),if_neg (by omega)]) hne
     ·exact h2
  ·have heq' : m.c i = m'.c i := by
    have h0 : H7 (m.c i) (m'.c i) = 0 := Decidable.not_not.1 he0
    have h1 := (IM (a := m.c i) (b := m'.c i))
    have h2 := (IL (a := m.c i) (b := m'.c i))
    rw [h0] at h1 h2
    simp at h1 h2
    omega
   refine mi G<|osb G G (by first | assumption | omega)<|ai G<|?_
   refine ⟨i,⟨rfl,rfl,by rw [show ((i + 1 : Nat) : Int) - 1 - 1 = (i : Int) - 1 by omega]; rfl,rfl⟩,⟨by omega,hB,hbb,hbb',fun t h1 h2 => ?_⟩,Nat.lt_succ_self i⟩
   by_cases e : t = i
   ·subst e; exact heq'
   ·exact heq t (by omega) h2
 ·have hj0 : j = 0 := by omega
  subst hj0
  refine ai G<|?_
  have : val (Me.nat L) (Me.nat m.c) 8 = val (Me.nat L) (Me.nat m'.c) 8 := Me.val_congr _ _ _ 8 (fun t ht => by simp only [Me.nat,heq t (Nat.zero_le _) ht])
  refine rt1 G G ⟨_,rfl,?_,?_,hB⟩ <;> omega
theorem Fo : Tryz.prog.underlying 58 = some (.slice 68) := by kernel_rfl
def zme : List Value := [.bool false,.int .i64 0,.int .i64 0,.int .i64 0,.int .i64 0,.int .i64 0,.int .i64 0,.int .i64 0,.int .i64 0]
theorem Me.row {w : World} {A : Option Addr} {n : Nat} {mz : List Me} (h : Me.kd.C w A n mz) {k : Nat} {m : Me} (hm : mz[k]? = some m) : ∃ ad,A = some ad ∧ ∀ j v,m.enc[j]? = some v → w.cell? ((ad.add (k * 9)).add j) = some v := by
 obtain ⟨ad,c,rfl,_,hK,hc⟩ := DG h hm
 have hK : c = m.enc := hK
 subst hK
 exact ⟨ad,rfl,fun j v hj => by rw [Addr.add_add]; exact hc j v hj⟩
theorem min193 (L : Nat → Int) (A : Option Addr) (c : Nat) (mz : List Me) (w : World) (hC : Me.kd.C w A mz.length mz) (hg : ∀ m ∈ mz,m.Good L) (hne : mz ≠ []) :
  Calls Tryz.prog 193 #[.slice A mz.length c,.func (.func 177) #[] #[]] w fun e w' => ∃ m,e = .returned (.agg m.enc.toArray) ∧ m ∈ mz ∧ (∀ m' ∈ mz,m.rk L ≤ m'.rk L) ∧ Below w.heap.size w w' := by
 have hl0 : 0 < mz.length := List.length_pos_iff.2 hne
 have hmax := Kd.C_max hC
 refine enter 33 Tryz.func193 G G _ (by simp) ?_
 refine oal (v := .agg zme.toArray) (fun _ => by kernel_rfl) G ?_
 intro r w1 hr hrb hb1
 have hrl0 := Am hrb
 refine ms G<|oln U58 G<|olt G G<|isf (by omega)<|?_
 refine cdf G ?_
 obtain ⟨m0,hm0⟩ : ∃ m,mz[0]? = some m := ⟨_,gE hl0⟩
 obtain ⟨ad,rfl,hc0⟩ := Me.row (Kd.C_below hC hb1) hm0
 refine ms G<|oix (i := 0) Fo Z68 G G (by omega)<|?_
 refine AV (vs := m0.enc) G68 S68 G hc0<|oal (v := .agg zme.toArray) (fun _ => by kernel_rfl) G ?_
 intro b w2 hb hbb hb2
 have hrb := Ab hrb hb2
 have hrl : r < b := by omega
 refine Bo (vs := m0.enc) (cs := zme) S68 G G G (Me.enc_one _) hbb (by simp [Me.enc_len,zme]) ?_
 intro w3 hbb3 hg3
 have hs1 := hb1.size
 have hB2 := Ad hb1 hb2
 have hB3 := hB2.grown hg3 hB2.size (fun k hk => by cases hk; omega)
 have hrb := Ar hrb hg3 (fun e => by injection e with e; omega)
 have hwr : w.heap.size ≤ r := by omega
 have hwb : w.heap.size ≤ b := by omega
 clear hbb hB2 hb1 hb2 hg3
 refine ai G<|lp (σ := Nat × Me) (fun s => [(0,.slice (some ad) mz.length c),(1,.func (.func 177) #[] #[]),(4,.pointer (some ⟨r,0,none⟩)),(5,.pointer (some ⟨b,0,none⟩)),(6,.int .i64 s.1)])
  (fun s V => s.1 ≤ mz.length ∧ Below w.heap.size w V ∧ V.heap[r]? = some (.cells zme.toArray 68 (0,0)) ∧ V.heap[b]? = some (.cells s.2.enc.toArray 68 (0,0)) ∧ s.2 ∈ mz ∧ ∀ j m',j < s.1 → mz[j]? = some m' → s.2.rk L ≤ m'.rk L)
  (fun s => mz.length - s.1) (1,m0) ⟨rfl,rfl,rfl,rfl,rfl,rfl⟩ ⟨hl0,hB3,hrb,hbb3,List.mem_of_getElem? hm0,fun j m' hj hm' => ?_⟩ ?_
 ·have : j = 0 := by dsimp only at hj; omega
  subst this
  rw [hm0] at hm'; injection hm' with hm'
  rw [hm']; exact Nat.le_refl _
 clear hrb hB3 hbb3
 rintro ⟨k,m⟩ f V ⟨hk,hB,hrb,hbb,hmem,hall⟩
 simp only at hk hbb hmem hall
 refine mi G<|ms G<|oln U58 G<|olt G G<|cdd G (fun h => ?_) (fun h => ?_)
 ·have h : k < mz.length := Int.ofNat_lt.1 h
  obtain ⟨x,hx⟩ : ∃ m,mz[k]? = some m := ⟨_,gE h⟩
  refine drt mixed 6 (by kernel_rfl) ?_
  intro V1 hb1 _ _
  have hB := Ad hB hb1
  have hbb := Ab hbb hb1
  have hrb := Ab hrb hb1
  obtain ⟨_,hgo,hcx⟩ := Me.row (Kd.C_below hC hB) hx
  cases hgo
  have hcb := Ak (W := V1) (vs := m.enc) hbb
  refine spu (mf_ G)<|spu (ms_ G)<|spu (mi_ G)<|spu (AU Fo Z68 G G h)<|sru (Bs (vs := x.enc) G68 S68 G hcx)<|sru (Bs (vs := m.enc) G68 S68 G hcb)<|cl K1 [] G ((Dm L x m V1 (hg x (List.mem_of_getElem? hx)) (hg m hmem)).mono ?_)
  rintro e V2 ⟨cv,rfl,hneg,hpos,hb2⟩
  refine ⟨_,rfl,?_⟩
  have hB := Ad hB hb2
  have hbb := Ab hbb hb2
  have hrb := Ab hrb hb2
  refine olt G G<|cdd G (fun hc => ?_) (fun hc => ?_)
  ·obtain ⟨_,hgo,hcx⟩ := Me.row (Kd.C_below hC hB) hx
   cases hgo
   refine ms G<|mi G<|AD Fo Z68 G G h<|AV (vs := x.enc) G68 S68 G hcx<|Bo (vs := x.enc) (cs := m.enc) S68 G G G (Me.enc_one _) hbb (by simp [Me.enc_len]) ?_
   intro V3 hb3 hg3
   refine mi G<|oad G G (by first | assumption | omega)<|ai G<|?_
   refine ⟨(k + 1,x),⟨rfl,rfl,rfl,rfl,rfl,rfl⟩,⟨h,hB.grown hg3 hB.size (fun k hk => by cases hk; exact hwb),Ar hrb hg3 (fun e => by injection e with e; omega),hb3,List.mem_of_getElem? hx,fun j m' hj hm' => ?_⟩,Nat.sub_lt_sub_left h (Nat.lt_succ_self k)⟩
   dsimp only at hj ⊢
   by_cases e : j = k
   ·subst e
    rw [hx] at hm'; injection hm' with hm'
    rw [hm']; exact Nat.le_refl _
   ·have := hall j m' (by omega) hm'
    have := hneg.1 hc
    omega
  ·refine mi G<|oad G G (by first | assumption | omega)<|ai G<|?_
   refine ⟨(k + 1,m),⟨rfl,rfl,rfl,rfl,rfl,rfl⟩,⟨h,hB,hrb,hbb,hmem,fun j m' hj hm' => ?_⟩,Nat.sub_lt_sub_left h (Nat.lt_succ_self k)⟩
   dsimp only at hj ⊢
   by_cases e : j = k
   ·subst e
    rw [hx] at hm'; injection hm' with hm'
    have : ¬ _ := fun h => hc (hneg.2 h)
    rw [← hm']
    omega
   ·exact hall j m' (by omega) hm'
 ·have hkl : k = mz.length := by omega
  refine AV (vs := m.enc) G68 S68 G (Ak hbb)<|Bo (vs := m.enc) (cs := zme) S68 G G G (Me.enc_one _) hrb (by simp [Me.enc_len,zme]) ?_
  intro V3 hr3 hg3
  refine rtc (vs := m.enc) G G hr3 G68 S68<|⟨m,rfl,hmem,fun m' hm' => ?_,hB.grown hg3 hB.size (fun k hk => by cases hk; exact hwr)⟩
  obtain ⟨j,hj,e⟩ := List.getElem_of_mem hm'
  exact hall j m' (by omega) (by rw [gE hj,e])
theorem max194 (L : Nat → Int) (A : Option Addr) (c : Nat) (mz : List Me) (w : World) (hC : Me.kd.C w A mz.length mz) (hg : ∀ m ∈ mz,m.Good L) (hne : mz ≠ []) :
  Calls Tryz.prog 194 #[.slice A mz.length c,.func (.func 177) #[] #[]] w fun e w' => ∃ m,e = .returned (.agg m.enc.toArray) ∧ m ∈ mz ∧ (∀ m' ∈ mz,m'.rk L ≤ m.rk L) ∧ Below w.heap.size w w' := by
 have hl0 : 0 < mz.length := List.length_pos_iff.2 hne
 have hmax := Kd.C_max hC
 refine enter 33 Tryz.func194 G G _ (by simp) ?_
 refine oal (v := .agg zme.toArray) (fun _ => by kernel_rfl) G ?_
 intro r w1 hr hrb hb1
 have hrl0 := Am hrb
 refine ms G<|oln U58 G<|olt G G<|isf (by omega)<|?_
 refine cdf G ?_
 obtain ⟨m0,hm0⟩ : ∃ m,mz[0]? = some m := ⟨_,gE hl0⟩
 obtain ⟨ad,rfl,hc0⟩ := Me.row (Kd.C_below hC hb1) hm0
 refine ms G<|oix (i := 0) Fo Z68 G G (by omega)<|?_
 refine AV (vs := m0.enc) G68 S68 G hc0<|oal (v := .agg zme.toArray) (fun _ => by kernel_rfl) G ?_
 intro b w2 hb hbb hb2
 have hrb := Ab hrb hb2
 have hrl : r < b := by omega
 refine Bo (vs := m0.enc) (cs := zme) S68 G G G (Me.enc_one _) hbb (by simp [Me.enc_len,zme]) ?_
 intro w3 hbb3 hg3
 have hs1 := hb1.size
 have hB2 := Ad hb1 hb2
 have hB3 := hB2.grown hg3 hB2.size (fun k hk => by cases hk; omega)
 have hrb := Ar hrb hg3 (fun e => by injection e with e; omega)
 have hwr : w.heap.size ≤ r := by omega
 have hwb : w.heap.size ≤ b := by omega
 clear hbb hB2 hb1 hb2 hg3
 refine ai G<|lp (σ := Nat × Me) (fun s => [(0,.slice (some ad) mz.length c),(1,.func (.func 177) #[] #[]),(4,.pointer (some ⟨r,0,none⟩)),(5,.pointer (some ⟨b,0,none⟩)),(6,.int .i64 s.1)])
  (fun s V => s.1 ≤ mz.length ∧ Below w.heap.size w V ∧ V.heap[r]? = some (.cells zme.toArray 68 (0,0)) ∧ V.heap[b]? = some (.cells s.2.enc.toArray 68 (0,0)) ∧ s.2 ∈ mz ∧ ∀ j m',j < s.1 → mz[j]? = some m' → m'.rk L ≤ s.2.rk L)
  (fun s => mz.length - s.1) (1,m0) ⟨rfl,rfl,rfl,rfl,rfl,rfl⟩ ⟨hl0,hB3,hrb,hbb3,List.mem_of_getElem? hm0,fun j m' hj hm' => ?_⟩ ?_
 ·have : j = 0 := by dsimp only at hj; omega
  subst this
  rw [hm0] at hm'; injection hm' with hm'
  rw [hm']; exact Nat.le_refl _
 clear hrb hB3 hbb3
 rintro ⟨k,m⟩ f V ⟨hk,hB,hrb,hbb,hmem,hall⟩
 simp only at hk hbb hmem hall
 refine mi G<|ms G<|oln U58 G<|olt G G<|cdd G (fun h => ?_) (fun h => ?_)
 ·have h : k < mz.length := Int.ofNat_lt.1 h
  obtain ⟨x,hx⟩ : ∃ m,mz[k]? = some m := ⟨_,gE h⟩
  refine drt mixed 6 (by kernel_rfl) ?_
  intro V1 hb1 _ _
  have hB := Ad hB hb1
  have hbb := Ab hbb hb1
  have hrb := Ab hrb hb1
  obtain ⟨_,hgo,hcx⟩ := Me.row (Kd.C_below hC hB) hx
  cases hgo
  have hcb := Ak (W := V1) (vs := m.enc) hbb
  refine spu (mf_ G)<|spu (ms_ G)<|spu (mi_ G)<|spu (AU Fo Z68 G G h)<|sru (Bs (vs := x.enc) G68 S68 G hcx)<|sru (Bs (vs := m.enc) G68 S68 G hcb)<|cl K1 [] G ((Dm L x m V1 (hg x (List.mem_of_getElem? hx)) (hg m hmem)).mono ?_)
  rintro e V2 ⟨cv,rfl,hneg,hpos,hb2⟩
  refine ⟨_,rfl,?_⟩
  have hB := Ad hB hb2
  have hbb := Ab hbb hb2
  have hrb := Ab hrb hb2
  refine ogt G G<|cdd G (fun hc => ?_) (fun hc => ?_)
  ·obtain ⟨_,hgo,hcx⟩ := Me.row (Kd.C_below hC hB) hx
   cases hgo
   refine ms G<|mi G<|AD Fo Z68 G G h<|AV (vs := x.enc) G68 S68 G hcx<|Bo (vs := x.enc) (cs := m.enc) S68 G G G (Me.enc_one _) hbb (by simp [Me.enc_len]) ?_
   intro V3 hb3 hg3
   refine mi G<|oad G G (by first | assumption | omega)<|ai G<|?_
   refine ⟨(k + 1,x),⟨rfl,rfl,rfl,rfl,rfl,rfl⟩,⟨h,hB.grown hg3 hB.size (fun k hk => by cases hk; exact hwb),Ar hrb hg3 (fun e => by injection e with e; omega),hb3,List.mem_of_getElem? hx,fun j m' hj hm' => ?_⟩,Nat.sub_lt_sub_left h (Nat.lt_succ_self k)⟩
   dsimp only at hj ⊢
   by_cases e : j = k
   ·subst e
    rw [hx] at hm'; injection hm' with hm'
    rw [hm']; exact Nat.le_refl _
   ·have := hall j m' (by omega) hm'
    have := hpos.1 hc
    omega
  ·refine mi G<|oad G G (by first | assumption | omega)<|ai G<|?_
   refine ⟨(k + 1,m),⟨rfl,rfl,rfl,rfl,rfl,rfl⟩,⟨h,hB,hrb,hbb,hmem,fun j m' hj hm' => ?_⟩,Nat.sub_lt_sub_left h (Nat.lt_succ_self k)⟩
   dsimp only at hj ⊢
   by_cases e : j = k
   ·subst e
    rw [hx] at hm'; injection hm' with hm'
    have : ¬ _ := fun h => hc (hpos.2 h)
    rw [← hm']
    omega
   ·exact hall j m' (by omega) hm'
 ·have hkl : k = mz.length := by omega
  refine AV (vs := m.enc) G68 S68 G (Ak hbb)<|Bo (vs := m.enc) (cs := zme) S68 G G G (Me.enc_one _) hrb (by simp [Me.enc_len,zme]) ?_
  intro V3 hr3 hg3
  refine rtc (vs := m.enc) G G hr3 G68 S68<|⟨m,rfl,hmem,fun m' hm' => ?_,hB.grown hg3 hB.size (fun k hk => by cases hk; exact hwr)⟩
  obtain ⟨j,hj,e⟩ := List.getElem_of_mem hm'
  exact hall j m' (by omega) (by rw [gE hj,e])
end
end Go.Proofs.YtmjllchdhcdinaaGreatDoor

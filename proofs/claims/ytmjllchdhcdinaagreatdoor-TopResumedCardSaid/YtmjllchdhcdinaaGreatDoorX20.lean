/- Part of the proof: W9 T19 T20 T21 G4 T22. -/
import Derived.Test.YtmjllchdhcdinaaGreatDoorX19
set_option linter.unusedVariables false
set_option linter.unusedSimpArgs false
set_option maxRecDepth 100000
set_option maxHeartbeats 8000000
namespace Go.Proofs.YtmjllchdhcdinaaGreatDoor
section
open Go
section
variable {κ : Type} [DecidableEq κ] {succ : κ → Nat → κ} {L : Nat} {start : κ}
theorem ordN_stop {k : Nat} (h : (AZ succ L start k).length ≤ k) : AZ succ L start (k + 1) = AZ succ L start k := by
 show (match (AZ succ L start k)[k]? with | some s => BX succ (AZ succ L start k) s L | none => AZ succ L start k) = _
 rw [List.getElem?_eq_none h]
theorem DW {K : Nat} (h : (AZ succ L start K).length ≤ K) : ∀ j,AZ succ L start (K + j) = AZ succ L start K
 | 0 => rfl
 | j + 1 => by
  have ih := DW h j
  rw [← Nat.add_assoc,ordN_stop (by rw [ih]; omega),ih]
theorem DK {K M : Nat} (hK : (AZ succ L start K).length = K) (hM : (AZ succ L start M).length = M) : K = M := by
 rcases Nat.le_total K M with h | h
 ·obtain ⟨j,rfl⟩ : ∃ j,M = K + j := ⟨M - K,by omega⟩
  rw [DW (by omega) j] at hM
  omega
 ·obtain ⟨j,rfl⟩ : ∃ j,K = M + j := ⟨K - M,by omega⟩
  rw [DW (by omega) j] at hK
  omega
theorem ordN_lt {K s : Nat} (hK : (AZ succ L start K).length = K) (hs : s < K) : s < (AZ succ L start s).length := by
 refine Nat.lt_of_not_le fun h => ?_
 obtain ⟨j,rfl⟩ : ∃ j,K = s + j := ⟨K - s,by omega⟩
 rw [DW h j] at hK
 omega
theorem Hv {o m : List κ} (h : o <+: m) {t : κ} (ht : t ∈ o) : m.idxOf t = o.idxOf t := by
 obtain ⟨r,rfl⟩ := h
 rw [List.idxOf_append,if_pos ht]
theorem Hw {o : List κ} {t : κ} (ht : t ∈ o) : o[o.idxOf t]? = some t := by
 rw [gE (List.idxOf_lt_length_iff.2 ht),List.getElem_idxOf]
theorem IJ {o m : List κ} (h : o <+: m) {t : κ} (ht : t ∈ o) : EL m t = EL o t := Hv h ht
theorem JO {o : List κ} {t : κ} (ht : t ∈ o) : o[EL o t]? = some t := Hw ht
theorem ID {o : List κ} {s : κ} {x y : Nat} (h : x < y) : succ s x ∈ BX succ o s y := (Hl succ o s h).subset (mem_insV.2 (.inr rfl))
theorem Jz {o : List κ} {s : κ} {m : List κ} (h : BX succ o s L <+: m) {x : Nat} (hx : x < L) : ∃ i : Nat,(Ca succ o s L)[x]? = some (i : Int) ∧ m[i]? = some (succ s x) := by
 refine ⟨m.idxOf (succ s x),?_,Hw (h.subset (ID hx))⟩
 unfold Ca
 rw [List.getElem?_map,List.getElem?_range hx]
 have h1 : BX succ o s (x + 1) <+: m := (Hl succ o s hx).trans h
 rw [Hv h1 (ID (Nat.lt_succ_self x))]
 rfl
end
def F3 {κ : Type} [DecidableEq κ] (succ : κ → Nat → κ) (v : Nat) (start : κ) (F : κ → Bool) (K : Nat) : Df := ⟨v,0,Cg succ (2 ^ v) start K,(AZ succ (2 ^ v) start K).map F⟩
section
variable {κ : Type} [DecidableEq κ] {succ : κ → Nat → κ} {v : Nat} {start : κ} {F : κ → Bool} {K : Nat}
theorem IR (hK : (AZ succ (2 ^ v) start K).length = K) {s : Nat} (hs : s < K) : ∃ u,(AZ succ (2 ^ v) start K)[s]? = some u ∧ (F3 succ v start F K).next[s]? = some (Ca succ (AZ succ (2 ^ v) start s) u (2 ^ v)) ∧ BX succ (AZ succ (2 ^ v) start s) u (2 ^ v) <+: AZ succ (2 ^ v) start K := by
 have h1 := ordN_lt hK hs
 have h2 : (AZ succ (2 ^ v) start s)[s]? = some ((AZ succ (2 ^ v) start s)[s]) := gE h1
 generalize (AZ succ (2 ^ v) start s)[s] = u at h2
 refine ⟨u,I6 (Fv succ _ _ (Nat.le_of_lt hs)) h2,?_,?_⟩
 ·show (Cg succ (2 ^ v) start K)[s]? = _
  unfold Cg
  rw [List.getElem?_map,List.getElem?_range hs]
  simp only [Option.map_some,h2]
 ·rw [← Fu succ h2]
  exact Fv succ _ _ hs
theorem autN_step (hK : (AZ succ (2 ^ v) start K).length = K) {s x : Nat} {u : κ} (hu : (AZ succ (2 ^ v) start K)[s]? = some u) (hx : x < 2 ^ v) : (AZ succ (2 ^ v) start K)[(F3 succ v start F K).step s x]? = some (succ u x) := by
 have hs : s < K := by rw [← hK]; exact (List.getElem?_eq_some_iff.1 hu).1
 obtain ⟨u',hu',hrow,hpre⟩ := IR (F := F) hK hs
 rw [hu] at hu'
 injection hu' with e
 subst e
 obtain ⟨i,hi,him⟩ := Jz hpre hx
 have e : (F3 succ v start F K).next.getD s [] = Ca succ (AZ succ (2 ^ v) start s) u (2 ^ v) := by rw [gD,hrow]; rfl
 unfold Df.step
 rw [e,gD,hi]
 exact him
theorem HJ : (AZ succ (2 ^ v) start K)[0]? = some start := I6 (Fv succ _ _ (Nat.zero_le K)) rfl
theorem autN_run (hK : (AZ succ (2 ^ v) start K).length = K) (l : List Int) (hl : De v l) : (AZ succ (2 ^ v) start K)[(F3 succ v start F K).run l]? = some (l.foldl (fun s x => succ s x.toNat) start) := by
 suffices ∀ (l : List Int) (s : Nat) (u : κ),De v l → (AZ succ (2 ^ v) start K)[s]? = some u → (AZ succ (2 ^ v) start K)[l.foldl (fun s x => (F3 succ v start F K).step s x.toNat) s]? = some (l.foldl (fun s x => succ s x.toNat) u) from this l 0 start hl HJ
 intro l
 induction l with
 | nil => exact fun s u _ h => h
 | cons x l ih =>
  intro s u hl h
  have hx := hl x (List.mem_cons_self ..)
  exact ih _ _ (fun y hy => hl y (List.mem_cons_of_mem _ hy)) (autN_step hK h (by omega))
theorem autN_fin {s : Nat} {u : κ} (hu : (AZ succ (2 ^ v) start K)[s]? = some u) : (F3 succ v start F K).finO s = F u := by
 unfold Df.finO
 show ((AZ succ (2 ^ v) start K).map F).getD s false = _
 rw [gD,List.getElem?_map,hu]
 rfl
theorem IS (hK : (AZ succ (2 ^ v) start K).length = K) (l : List Int) (hl : De v l) : (F3 succ v start F K).finO ((F3 succ v start F K).run l) = F (l.foldl (fun s x => succ s x.toNat) start) := autN_fin (autN_run hK l hl)
theorem Dn : (F3 succ v start F K).next.length = K := DI _ _ _ _
theorem J3 (hv : v ≤ 6) (hK : (AZ succ (2 ^ v) start K).length = K) (h4 : K ≤ 4096) : (F3 succ v start F K).Ok := by
 have h0 := (List.getElem?_eq_some_iff.1 (HJ (succ := succ) (v := v) (start := start) (K := K))).1
 refine ⟨hv,by rw [Dn]; exact h4,by rw [Dn]; show 0 < K; omega,by rw [Dn]; show ((AZ succ (2 ^ v) start K).map F).length = K; rw [List.length_map,hK],fun r hr => ?_⟩
 obtain ⟨s,hs,rfl⟩ := List.getElem_of_mem hr
 rw [Dn] at hs ⊢
 obtain ⟨u,hu,hrow,hpre⟩ := IR (F := F) hK hs
 rw [gE (by rw [Dn]; exact hs)] at hrow
 injection hrow with e
 rw [e]
 refine ⟨BY _ _ _ _,fun x hx => ?_⟩
 obtain ⟨i,hi,rfl⟩ := List.getElem_of_mem hx
 rw [BY] at hi
 obtain ⟨q,hq,hqm⟩ := Jz hpre hi
 rw [gE (by rw [BY]; exact hi)] at hq
 injection hq with e
 have := (List.getElem?_eq_some_iff.1 hqm).1
 rw [hK] at this
 omega
end
section
variable {d : Df} {p : List Nat}
theorem E8 (d : Df) (p : List Nat) {k m : Nat} (h : k ≤ m) : d.ordS p k <+: d.ordS p m := by
 obtain ⟨j,rfl⟩ : ∃ j,m = k + j := ⟨m - k,by omega⟩
 clear h
 induction j with
 | zero => exact List.prefix_refl _
 | succ j ih => rw [← Nat.add_assoc,BJ]; exact ih.trans (GF _ _)
theorem IN {s t : Nat} (h : d.clsR p s = d.clsR p t) : d.sig p s = d.sig p t := by
 have hm : ∀ k,d.sig p k ∈ d.ordS p (k + 1) := fun k => by rw [BJ]; exact mem_insV.2 (.inr rfl)
 have h1 := IJ (E8 d p (Nat.le_max_left (s + 1) (t + 1))) (hm s)
 have h2 := IJ (E8 d p (Nat.le_max_right (s + 1) (t + 1))) (hm t)
 have g1 := JO ((E8 d p (Nat.le_max_left (s + 1) (t + 1))).subset (hm s))
 have g2 := JO ((E8 d p (Nat.le_max_right (s + 1) (t + 1))).subset (hm t))
 have h3 : EL (d.ordS p (s + 1)) (d.sig p s) = EL (d.ordS p (t + 1)) (d.sig p t) := h
 rw [h1,h3,← h2,g2] at g1
 injection g1 with e
 exact e.symm
theorem rnd_fin {k s t : Nat} (hs : s < d.next.length) (ht : t < d.next.length) : (d.rnd k).getD s 0 = (d.rnd k).getD t 0 → d.finO s = d.finO t := by
 induction k with
 | zero =>
  intro h
  have h : d.begin.getD s 0 = d.begin.getD t 0 := h
  rw [ET hs,ET ht] at h
  unfold Df.cls0 at h
  cases h1 : d.finO s <;> cases h2 : d.finO t <;> cases h3 : d.finO 0 <;> simp_all
 | succ k ih =>
  intro h
  have h : (d.refine (d.rnd k)).getD s 0 = (d.refine (d.rnd k)).getD t 0 := h
  rw [Cq hs,Cq ht] at h
  have := IN h
  unfold Df.sig at this
  injection this with h1 _
  exact ih h1
structure Df.Stab (d : Df) (p : List Nat) : Prop where
 can : d.Canon p
 fin : ∀ s t,s < d.next.length → t < d.next.length → p.getD s 0 = p.getD t 0 → d.finO s = d.finO t
 stp : ∀ s t x,s < d.next.length → t < d.next.length → x < 2 ^ d.vars → p.getD s 0 = p.getD t 0 → p.getD (d.step s x) 0 = p.getD (d.step t x) 0
theorem rnd_stab (hd : d.Ok) {k : Nat} (h : d.rnd (k + 1) = d.rnd k) : d.Stab (d.rnd k) := by
 refine ⟨Cp d k,fun s t hs ht => rnd_fin hs ht,fun s t x hs ht hx he => ?_⟩
 rw [← h] at he
 have he : (d.refine (d.rnd k)).getD s 0 = (d.refine (d.rnd k)).getD t 0 := he
 rw [Cq hs,Cq ht] at he
 have := IN he
 unfold Df.sig at this
 injection this with _ h2
 obtain ⟨r1,hr1,_,hc1,_⟩ := Df.cellv hd hs hx
 obtain ⟨r2,hr2,_,hc2,_⟩ := Df.cellv hd ht hx
 have h3 : (d.next.getD s []) = r1 := by rw [gD,hr1]; rfl
 have h4 : (d.next.getD t []) = r2 := by rw [gD,hr2]; rfl
 rw [h3,h4] at h2
 have h5 := congrArg (fun l => l[x]?) h2
 simp only [List.getElem?_map,hc1,hc2,Option.map_some,Option.some.injEq,Int.toNat_natCast] at h5
 exact h5
theorem KI (hc : d.Canon p) : ∀ k,k ≤ d.next.length → ∀ c,c < d.cntQ p k → ∃ q,q < k ∧ p.getD q 0 = c ∧ (d.foQ p (List.range k)).1[c]? = some (d.rowC p q) ∧ (d.foQ p (List.range k)).2[c]? = some (d.finO q)
 | 0,_ => fun c h => absurd h (Nat.not_lt_zero _)
 | k + 1,hk => fun c h => by
  have ih := KI hc k (by omega)
  have h2 := Gd d p (List.range k)
  rw [BU] at h
  rw [List.range_succ,Ff]
  unfold Df.stQ
  have hl : (d.foQ p (List.range k)).1.length = d.cntQ p k := rfl
  rw [hl]
  split at h
  ·rename_i h1
   rw [if_pos h1]
   obtain ⟨q,h3,h4,h5,h6⟩ := ih c h
   exact ⟨q,by omega,h4,h5,h6⟩
  ·rename_i h1
   rw [if_neg h1]
   have hck := hc k (by omega)
   by_cases hcc : c < d.cntQ p k
   ·obtain ⟨q,h3,h4,h5,h6⟩ := ih c hcc
    refine ⟨q,by omega,h4,?_,?_⟩
    ·show (_ ++ [_])[c]? = _
     rw [List.getElem?_append_left (by rw [hl]; exact hcc),h5]
    ·show (_ ++ [_])[c]? = _
     rw [List.getElem?_append_left (by rw [h2,hl]; exact hcc),h6]
   ·have hce : c = d.cntQ p k := by omega
    subst hce
    refine ⟨k,Nat.lt_succ_self k,by omega,?_,?_⟩
    ·show (_ ++ [_])[_]? = _
     rw [List.getElem?_append_right (by rw [hl]; exact Nat.le_refl _),hl,Nat.sub_self]
     rfl
    ·show (_ ++ [_])[_]? = _
     rw [List.getElem?_append_right (by rw [h2,hl]; exact Nat.le_refl _),h2,hl,Nat.sub_self]
     rfl
theorem Kw (hd : d.Ok) (h : d.Stab p) {q : Nat} (hq : q < d.next.length) : (d.quo p).finO (p.getD q 0) = d.finO q ∧ ∀ x,x < 2 ^ d.vars → (d.quo p).step (p.getD q 0) x = p.getD (d.step q x) 0 := by
 obtain ⟨q',h1,h2,h3,h4⟩ := KI h.can _ (Nat.le_refl _) _ (h.can.lt hq)
 constructor
 ·have : (d.quo p).finO (p.getD q 0) = d.finO q' := by
   unfold Df.finO
   rw [gD]
   show ((d.foQ p (List.range d.next.length)).2[_]?).getD _ = _
   rw [h4]; rfl
  rw [this]
  exact h.fin _ _ h1 hq h2
 ·intro x hx
  rw [← h.stp _ _ x h1 hq hx h2]
  obtain ⟨r1,hr1,_,hc1,_⟩ := Df.cellv hd h1 hx
  have h5 : (d.quo p).next[p.getD q 0]? = some (d.rowC p q') := h3
  have e1 : (d.quo p).next.getD (p.getD q 0) [] = d.rowC p q' := by rw [gD,h5]; rfl
  have e2 : d.next.getD q' [] = r1 := by rw [gD,hr1]; rfl
  conv => lhs; unfold Df.step
  rw [e1]
  unfold Df.rowC
  rw [e2,gD,List.getElem?_map,hc1]
  rfl
theorem run_lt' (hd : d.Ok) (l : List Int) (hl : De d.vars l) : d.run l < d.next.length := by
 suffices ∀ (l : List Int) (s : Nat),De d.vars l → s < d.next.length → l.foldl (fun s x => d.step s x.toNat) s < d.next.length from this l _ hl hd.s
 intro l
 induction l with
 | nil => exact fun s _ h => h
 | cons x l ih =>
  intro s hl h
  have hx := hl x (List.mem_cons_self ..)
  obtain ⟨_,_,_,_,h2⟩ := Df.cellv hd h (show x.toNat < 2 ^ d.vars by omega)
  exact ih _ (fun y hy => hl y (List.mem_cons_of_mem _ hy)) h2
theorem quo_run (hd : d.Ok) (h : d.Stab p) (l : List Int) (hl : De d.vars l) : (d.quo p).run l = p.getD (d.run l) 0 := by
 suffices ∀ (l : List Int) (s : Nat),De d.vars l → s < d.next.length → l.foldl (fun s x => (d.quo p).step s x.toNat) (p.getD s 0) = p.getD (l.foldl (fun s x => d.step s x.toNat) s) 0 from this l _ hl hd.s
 intro l
 induction l with
 | nil => exact fun s _ h => rfl
 | cons x l ih =>
  intro s hl hs
  have hx := hl x (List.mem_cons_self ..)
  obtain ⟨_,_,_,_,h2⟩ := Df.cellv hd hs (show x.toNat < 2 ^ d.vars by omega)
  rw [List.foldl_cons,List.foldl_cons,(Kw hd h hs).2 _ (by omega)]
  exact ih _ (fun y hy => hl y (List.mem_cons_of_mem _ hy)) h2
theorem quo_acc (hd : d.Ok) (h : d.Stab p) (l : List Int) (hl : De d.vars l) : (d.quo p).finO ((d.quo p).run l) = d.finO (d.run l) := by
 rw [quo_run hd h l hl]
 exact (Kw hd h (run_lt' hd l hl)).1
theorem Gr {k : Nat} (h : d.rnd (k + 1) = d.rnd k) : ∀ j,d.rnd (k + j) = d.rnd k
 | 0 => rfl
 | j + 1 => by
  have ih := Gr h j
  rw [← Nat.add_assoc]
  show d.refine (d.rnd (k + j)) = _
  rw [ih]
  exact h
theorem rnd_same {k m : Nat} (hk : d.rnd (k + 1) = d.rnd k) (hm : d.rnd (m + 1) = d.rnd m) : d.rnd k = d.rnd m := by
 rcases Nat.le_total k m with h | h
 ·obtain ⟨j,rfl⟩ : ∃ j,m = k + j := ⟨m - k,by omega⟩
  exact (Gr hk j).symm
 ·obtain ⟨j,rfl⟩ : ∃ j,k = m + j := ⟨k - m,by omega⟩
  exact Gr hm j
theorem JC (hd : d.Ok) : d.rnd (d.next.length + 1) = d.rnd d.next.length := by
 have hs := hd.s
 have h1 : ∀ k,(∃ j,j ≤ k ∧ d.rnd (j + 1) = d.rnd j) ∨ k < d.cntQ (d.rnd k) d.next.length := by
  intro k
  induction k with
  | zero =>
   right
   have h := (Cp d 0).lt (k := 0) (by omega)
   omega
  | succ k ih =>
   rcases ih with ⟨j,hj,h⟩ | h
   ·exact .inl ⟨j,by omega,h⟩
   ·by_cases he : d.rnd (k + 1) = d.rnd k
    ·exact .inl ⟨k,by omega,he⟩
    ·have := Gs d k he
     exact .inr (by omega)
 rcases h1 d.next.length with ⟨j,hj,h⟩ | h
 ·have e1 := Gr h (d.next.length - j)
  have e2 := Gr h (d.next.length + 1 - j)
  rw [show j + (d.next.length - j) = d.next.length by omega] at e1
  rw [show j + (d.next.length + 1 - j) = d.next.length + 1 by omega] at e2
  rw [e1,e2]
 ·have := Dw d (d.rnd d.next.length) d.next.length
  omega
end
end
section
open Go Fm Go.RowKit Go.Proofs.YtmjllchdhcdinaaGreatDoorW.PrintWords
def Na.accB (n : Na) (s : Nat) : Bool := decide (s &&& AR n.fin ≠ 0)
def Na.det (n : Na) (K : Nat) : Df := F3 n.step n.vars (AR n.start) n.accB K
def Df.num (d : Df) (K : Nat) : Df := F3 d.step d.vars d.start d.finO K
theorem H5 {n : Na} {K : Nat} : (n.det K).next.length = K := Dn
theorem det_fin {n : Na} {K : Nat} (hK : (n.subs K).length = K) : (n.det K).fin.length = K := (List.length_map ..).trans hK
theorem Fb {d : Df} {K : Nat} : (d.num K).next.length = K := Dn
theorem HZ {d : Df} {K : Nat} (hK : (d.ord K).length = K) : (d.num K).fin.length = K := (List.length_map ..).trans hK
theorem KK {n : Na} (hn : n.Ok) (hn5 : n.states ≤ 5) {K : Nat} (hK : (n.subs K).length = K) : K ≤ 32 := hK ▸ Gk hn hn5 K
theorem GQ {n : Na} (hn : n.Ok) (hn5 : n.states ≤ 5) {K : Nat} (hK : (n.subs K).length = K) : (n.det K).Ok := J3 hn.v hK (Nat.le_trans (KK hn hn5 hK) (by decide))
theorem KC {d : Df} (hd : d.Ok) {K : Nat} (hK : (d.ord K).length = K) : K ≤ d.next.length := by
 rw [← hK]
 refine Cw _ _ (B4 d.step _ _ K) (DM d.step (P := fun u => u < d.next.length) hd.s (fun s x h1 h2 => ?_) K)
 obtain ⟨_,_,_,_,h3⟩ := Df.cellv hd h1 h2
 exact h3
theorem KB {d : Df} (hd : d.Ok) {K : Nat} (hK : (d.ord K).length = K) : (d.num K).Ok := J3 hd.v hK (Nat.le_trans (KC hd hK) hd.n)
theorem Lj (n : Na) (hn : n.Ok) (hn5 : n.states ≤ 5) (SA FA EA : Option Addr) (cs cf ce : Nat) (w : World) (hr : NR n w SA FA EA) (hG : Glob w) :
  Calls Tryz.prog 7 #[.agg (n.vals SA FA EA cs cf ce).toArray,.int .i64 (4096 : Nat)] w fun e w' => ∃ NA nc BA bc LA lc K,e = .returned (.tuple #[.agg ((n.det K).vals NA BA nc bc).toArray,.slice LA (n.subs K).length lc,.int .i64 0]) ∧ (n.subs K).length = K ∧
   DR (n.det K) w' NA BA ∧ Kii.C w' LA (n.subs K).length ((n.subs K).map bitsW) ∧ Below w.heap.size w w' := by
 refine (det7 n hn hn5 SA FA EA cs cf ce w hr hG).mono ?_
 rintro e w' ⟨NA,nc,BA,bc,LA,lc,K,rfl,hK,h1,h2,h3,hb⟩
 refine ⟨NA,nc,BA,bc,LA,lc,K,?_,hK,⟨?_,?_⟩,?_,hb⟩
 ·have e : (n.det K).vals NA BA nc bc = dcs n.vars 0 NA BA K nc K bc := by unfold Df.vals; rw [H5,det_fin hK]; rfl
  rw [e,hK]
 ·exact (Kd.R_reads' h1).2.2
 ·exact (Kd.R_reads' h2).2.2
 ·have := (Kd.R_reads' h3).2.2
  rw [List.length_map] at this
  exact this
theorem renum28d (d : Df) (hd : d.Ok) (NA FA : Option Addr) (nc fc : Nat) (w : World) (hr : DR d w NA FA) (hG : Glob w) :
  Calls Tryz.prog 28 #[.agg (d.vals NA FA nc fc).toArray] w fun e w' => ∃ NB nb BA bc K,e = .returned (.tuple #[.agg ((d.num K).vals NB BA nb bc).toArray,.int .i64 0]) ∧ (d.ord K).length = K ∧ Kii.R 22 w' w.heap.size (fun _ => True) (.slice NB (d.num K).next.length nb) (d.num K).next ∧ Kd.bool.R 4 w' w.heap.size (fun _ => True) (.slice BA (d.num K).fin.length bc) (d.num K).fin ∧ Below w.heap.size w w' := by
 refine (JD d hd NA FA nc fc w hr hG).mono ?_
 rintro e w' ⟨NB,nb,BA,bc,K,rfl,hK,h1,h2,hb⟩
 refine ⟨NB,nb,BA,bc,K,?_,hK,?_,?_,hb⟩
 ·have e : (d.num K).vals NB BA nb bc = dcs d.vars 0 NB BA K nb K bc := by unfold Df.vals; rw [Fb,HZ hK]; rfl
  rw [e]
 ·rw [Fb]; exact h1
 ·rw [HZ hK]; exact h2
theorem min8d (d : Df) (hd : d.Ok) (NA FA : Option Addr) (nc fc : Nat) (w : World) (hr : DR d w NA FA) (hG : Glob w) :
  Calls Tryz.prog 8 #[.agg (d.vals NA FA nc fc).toArray] w fun e w' => ∃ NB nb BA bc K,e = .returned (.tuple #[.agg (((d.quo (d.rnd d.next.length)).num K).vals NB BA nb bc).toArray,.int .i64 0]) ∧ ((d.quo (d.rnd d.next.length)).ord K).length = K ∧ DR ((d.quo (d.rnd d.next.length)).num K) w' NB BA ∧ Below w.heap.size w w' := by
 refine (min8 d hd NA FA nc fc w hr hG).mono ?_
 rintro e w' ⟨NB,nb,BA,bc,K,rfl,hK,h1,h2,hb⟩
 refine ⟨NB,nb,BA,bc,K,?_,hK,⟨?_,?_⟩,hb⟩
 ·have e : ((d.quo (d.rnd d.next.length)).num K).vals NB BA nb bc = dcs d.vars 0 NB BA K nb K bc := by unfold Df.vals; rw [Fb,HZ hK]; rfl
  rw [e]
 ·exact (Kd.R_reads' h1).2.2
 ·exact (Kd.R_reads' h2).2.2
theorem quot29d (d : Df) (hd : d.Ok) (NA FA : Option Addr) (nc fc : Nat) (p : List Nat) (hpl : p.length = d.next.length) (hcan : d.Canon p) (PA : Option Addr) (pc : Nat) (w : World) (hr : DR d w NA FA) (hpr : (Kd.int .i64).C w PA d.next.length (Bt p)) :
  Calls Tryz.prog 29 #[.agg (d.vals NA FA nc fc).toArray,.slice PA d.next.length pc] w fun e w' => ∃ NB nb FB fb,e = .returned (.agg ((d.quo p).vals NB FB nb fb).toArray) ∧ DR (d.quo p) w' NB FB ∧ Below w.heap.size w w' := by
 refine (quot29 d hd NA FA nc fc p hpl hcan PA pc w hr hpr).mono ?_
 rintro e w' ⟨NB,nb,FB,fb,rfl,h1,h2,hb⟩
 exact ⟨NB,nb,FB,fb,rfl,⟨(Kd.R_reads' h1).2.2,(Kd.R_reads' h2).2.2⟩,hb⟩
theorem HY {n : Na} (hn : n.Ok) (hn5 : n.states ≤ 5) : ∀ u s,itU (nxD n) 0 u = some s → s = u ∧ u ≤ 32
 | 0,s,h => by injection h with e; exact ⟨e.symm,by omega⟩
 | u + 1,s,h => by
  unfold itU at h
  obtain ⟨t,ht,hs⟩ := Option.bind_eq_some_iff.1 h
  obtain ⟨rfl,h2⟩ := HY hn hn5 u t ht
  unfold nxD at hs
  have := Gk hn hn5 t
  split at hs
  ·injection hs with e; omega
  ·cases hs
theorem nxMn_end (d : Df) : ∀ u s,itU (Hb d) 0 u = some s → s = u ∧ u ≤ d.next.length := by
 have : ∀ u s,itU (Hb d) 0 u = some s → s = u ∧ u ≤ d.cntQ (d.rnd u) d.next.length := by
  intro u
  induction u with
  | zero => intro s h; injection h with e; exact ⟨e.symm,by omega⟩
  | succ u ih =>
   intro s h
   unfold itU at h
   obtain ⟨t,ht,hs⟩ := Option.bind_eq_some_iff.1 h
   obtain ⟨rfl,h2⟩ := ih t ht
   unfold Hb at hs
   split at hs
   ·cases hs
   ·rename_i hne
    have := Gs d t hne
    injection hs with e
    omega
 intro u s h
 have h1 := this u s h
 have h2 := Dw d (d.rnd u) d.next.length
 exact ⟨h1.1,by omega⟩
theorem nxD_done {n : Na} {k : Nat} (h : nxD n k = none) (hk : k ≤ (n.subs k).length) : (n.subs k).length = k := by
 unfold nxD at h
 split at h
 ·cases h
 ·omega
theorem nxMn_done {d : Df} {k : Nat} (h : Hb d k = none) : d.rnd (k + 1) = d.rnd k := by
 unfold Hb at h
 split at h
 ·assumption
 ·cases h
theorem finals_all {n : Na} {K : Nat} (hK : (n.subs K).length = K) : n.finals K = (n.det K).fin := by
 unfold Na.finals
 rw [List.take_of_length_le (by omega)]
 rfl
def Na.minQ (n : Na) (K : Nat) : Df := (n.det K).quo ((n.det K).rnd (n.det K).next.length)
theorem Iv (n : Na) (hn : n.Ok) (hn5 : n.states ≤ 5) (SA FA EA : Option Addr) (cs cf ce : Nat) (A : Option Addr) (c : Nat) (xs : List Int) (w : World) (hr : NR n w SA FA EA) (hG : Glob w) (hx : (Kd.int .u8).C w A xs.length xs) (hl : xs.length ≤ 1000) (hx0 : ∀ x ∈ xs,0 ≤ x ∧ x < 256) :
  Calls Tryz.prog 6 #[.agg (n.vals SA FA EA cs cf ce).toArray,.slice A xs.length c] w fun e w' => ∃ NB nb BA bc K M,e = .returned (.tuple #[.agg (((n.minQ K).num M).vals NB BA nb bc).toArray,.bool true]) ∧ (n.subs K).length = K ∧ ((n.minQ K).ord M).length = M ∧ DR ((n.minQ K).num M) w' NB BA ∧ Below w.heap.size w w' := by
 have h2 := hG.lt
 refine enter 105 Tryz.func6 G G _ (by simp) ?_
 refine obx (cs := n.vals SA FA EA cs cf ce) G G ?_
 intro b w1 hbe hbb hb1
 refine oal (v := .agg #[.int .i64 0,.int .i64 0,.slice none 0 0,.slice none 0 0]) (cs := [.int .i64 0,.int .i64 0,.slice none 0 0,.slice none 0 0]) (fun _ => by kernel_rfl) G ?_
 intro r4 w2 hr4e hr4 hb2
 refine ab G<|?_
 have hbb := Ab hbb hb2
 have hB2 := Ad hb1 hb2
 have hz2 := hB2.size
 have hG2 := hG.below hB2
 have hs1 := hb1.size
 clear hb1 hb2
 refine AV (vs := n.vals SA FA EA cs cf ce) G25 S25 G (Ak hbb)<|cl C24 [] G ((Ju n hn hn5 SA FA EA cs cf ce w2 (hr.below hB2)).mono ?_)
 rintro e w3 ⟨j,p,D,rfl,hj,hjw,hD,hb3⟩
 refine ⟨_,rfl,?_⟩
 refine mv G<|oex G G<|oex G G<|ap G<|ai G<|mi G<|one G G<|isf (by omega)<|?_
 refine cdf G<|mp G<|ms G<|?_
 have hG3 := hG2.below hb3
 refine cl C17 [] G ((EM (svD n hn hn5) w2.heap.size A c xs j p w2.heap.size w3 hj (Nat.le_refl _) hjw (StD.zero hD) hG3 (by omega) (fun V hV => Kd.C_below (Kd.C_below hx hB2) (hb3.trans hV)) hl hx0 (fun u s h => by have := HY hn hn5 u s h; omega)).mono ?_)
 rintro e w4 ⟨j',p',K,B',s',rfl,hj',hBz,hBj',⟨hK0,D',hD'⟩,hit,hnx,hb4⟩
 obtain ⟨rfl,hK32⟩ := HY hn hn5 _ _ hit
 have hK := nxD_done hnx hK0
 rw [finals_all hK] at hD'
 have hD' : DS n B' p' D' (n.subs s') (n.det s').next (n.det s').fin w4 := hD'
 have hb24 := hb3.trans hb4
 have hB4 := Ad hB2 hb24
 have hbb := Ab hbb hb24
 have hr4 := Ab hr4 hb24
 have hG4 := hG2.below hb24
 clear hb3 hb4 hj hD
 refine ⟨_,rfl,?_⟩
 refine mv G<|oex G G<|oex G G<|ap G<|ab G<|mp G<|?_
 have hNl : (n.det s').next.length ≤ 32 := by rw [H5]; exact hK32
 have hdo := GQ hn hn5 hK
 have h64 : 2 ^ n.vars ≤ 64 := Nat.pow_le_pow_right (n := 2) (by decide) hn.v
 have hsl := Gk hn hn5 s'
 refine cl C18 [] G ((result18D n B' j' p' s' D' (n.subs s') (n.det s').next (n.det s').fin w4 hj' hD' (Er hn hn5 s') (by omega) (by omega) (fun r hr => by
  have : r.length = 2 ^ n.vars := (hdo.rows r hr).1
  omega)).mono ?_)
 rintro e w5 ⟨NB,FB,SB,nb,fb,sb,rfl,hN,hF,hS,hb5⟩
 refine ⟨_,rfl,?_⟩
 have hDR : DR (n.det s') w5 NB FB := ⟨(Kd.R_reads' hN).2.2,(Kd.R_reads' hF).2.2⟩
 have hSC : Kii.C w5 SB ((n.subs s').map bitsW).length ((n.subs s').map bitsW) := by have := (Kd.R_reads' hS).2.2; exact this
 have hlm : ((n.subs s').map bitsW).length = (n.subs s').length := List.length_map ..
 have hj5 := Ab hj' hb5
 have hB5 := Ad hB4 hb5
 have hbb := Ab hbb hb5
 have hr4 := Ab hr4 hb5
 have hG5 := hG4.below hb5
 clear hN hF hS hb5 hj' hD' hb24
 refine oal (v := .agg zRes.toArray) (cs := zRes) (fun _ => by kernel_rfl) G ?_
 intro r9 w6 hr9e hr9 hb6
 refine Bo (vs := DN n.vars (.slice NB (n.det s').next.length nb) (.slice FB (n.det s').fin.length fb) (.slice SB (n.subs s').length sb) (.slice none 0 0) (.slice none 0 0)) S60 G G G (by simp [Value.oneCell']) hr9 (by simp) ?_
 intro w7 hr97 hg7
 have hr97 : w7.heap[r9]? = some (.cells (DN n.vars (.slice NB (n.det s').next.length nb) (.slice FB (n.det s').fin.length fb) (.slice SB (n.subs s').length sb) (.slice none 0 0) (.slice none 0 0)).toArray 60 (0,0)) := hr97
 have hb7 : Below w5.heap.size w5 w7 := hb6.grown hg7 hb6.size (fun k e => by cases e; omega)
 have hDR := hDR.below hb7
 have hSC := Kd.C_below hSC hb7
 have hj7 := Ab hj5 hb7
 have hB7 := Ad hB5 hb7
 have hbb := Ab hbb hb7
 have hr4 := Ab hr4 hb7
 have hG7 := hG5.below hb7
 clear hr9 hb6 hg7 hb7 hj5
 refine AV (vs := n.vals SA FA EA cs cf ce) G25 S25 G (Ak hbb)<|cl C7 [] G ((Lj n hn hn5 SA FA EA cs cf ce w7 (hr.below hB7) hG7).mono ?_)
 rintro e w8 ⟨NA,nc,BA,bc,LA,lc,K',rfl,hK',hDR',hLC,hb8⟩
 obtain rfl : s' = K' := DK hK hK'
 refine ⟨_,rfl,?_⟩
 refine mv G<|oex G G<|oex G G<|oex G G<|oal (v := .agg #[.int .i64 0,.int .i64 0,.slice none 0 0,.slice none 0 0]) (cs := [.int .i64 0,.int .i64 0,.slice none 0 0,.slice none 0 0]) (fun _ => by kernel_rfl) G ?_
 intro r10 w9 hr10e hr10 hb9
 refine Bo (vs := (n.det s').vals NA BA nc bc) S35 G G G (by simp [Value.oneCell']) hr10 (by simp) ?_
 intro w10 hr10 hg10
 have hr10 : w10.heap[r10]? = some (.cells ((n.det s').vals NA BA nc bc).toArray 35 (0,0)) := hr10
 have hb10 : Below w8.heap.size w8 w10 := hb9.grown hg10 hb9.size (fun k e => by cases e; omega)
 have hDR' := hDR'.below hb10
 have hLC := Kd.C_below hLC hb10
 have hb810 := Ad hb8 hb10
 have hDR := hDR.below hb810
 have hSC := Kd.C_below hSC hb810
 have hj10 := Ab hj7 hb810
 have hr9 := Ab hr97 hb810
 have hB10 := Ad hB7 hb810
 have hr4 := Ab hr4 hb810
 have hG10 := hG7.below hb810
 clear hb8 hb9 hg10 hb10 hb810 hj7 hr97
 refine asl G<|ai G<|mb G<|ont G<|mb G<|gon G<|mi G<|gon G<|one G G<|isf (by omega)<|pfb G G<|mb G<|gon G<|mp G<|?_
 refine gon G<|cl C25 [] G ((F7 j' 117 p' s' w10 hj10).mono ?_)
 rintro e w10 ⟨rfl,rfl⟩
 refine ⟨_,rfl,?_⟩
 refine gon G<|ms G<|gon G<|oln U27 G<|gon G<|one G G<|isf (by omega)<|pfb G G<|mb G<|gon G<|ofa J7 G<|?_
 refine gon rfl<|AV (vs := (n.det s').vals NB FB nb fb) G35 S35 rfl (Dx hr9 (fun j hj => by rcases j with _ | _ | _ | _ | j <;> first | rfl | (simp at hj; omega))) ?_
 refine gon G<|AV (vs := (n.det s').vals NA BA nc bc) G35 S35 G (Ak hr10)<|gon G<|cl C9 [] G ((KJ (n.det s') (n.det s') (by omega) (fun r hr => by have : r.length = 2 ^ n.vars := (hdo.rows r hr).1; omega) (by rw [hdo.f]; omega) NB FB NA BA nb fb nc bc w10 hDR hDR').mono ?_)
 rintro e w11 ⟨rfl,hb11⟩
 rw [decide_eq_true (show (n.det s').vars = (n.det s').vars ∧ (n.det s').start = (n.det s').start ∧ (n.det s').next = (n.det s').next ∧ (n.det s').fin = (n.det s').fin from ⟨rfl,rfl,rfl,rfl⟩)]
 refine ⟨_,rfl,?_⟩
 have hr9 := Ab hr9 hb11
 have hr10 := Ab hr10 hb11
 have hr4 := Ab hr4 hb11
 have hDR := hDR.below hb11
 have hSC := Kd.C_below hSC hb11
 have hLC := Kd.C_below hLC hb11
 have hB11 := Ad hB10 hb11
 have hG11 := hG10.below hb11
 clear hDR' hb11 hj10
 have hd9 : w11.cell? ⟨r9,0 + 4,none⟩ = some (.slice SB (n.subs s').length sb) := (Ac hr9 4).trans rfl
 refine gon G<|ont G<|pfb G G<|mb G<|gon G<|ofa Lm G<|gon G<|old G27 G ‹_›<|gon G<|ms G<|?_
 have he := JR SB LA sb lc ((n.subs s').map bitsW) ((n.subs s').map bitsW) w11 hSC (by rw [hlm]; exact hLC) (by omega) (fun x hx => by obtain ⟨q,hq,rfl⟩ := List.mem_map.1 hx; have := FK q (Er hn hn5 s' q hq); omega)
 rw [hlm] at he
 refine gon G<|cl C26 [] G (he.mono ?_)
 rintro e w12 ⟨rfl,hb12⟩
 rw [decide_eq_true (rfl : (n.subs s').map bitsW = (n.subs s').map bitsW)]
 refine ⟨_,rfl,?_⟩
 have hr9 := Ab hr9 hb12
 have hr10 := Ab hr10 hb12
 have hr4 := Ab hr4 hb12
 have hDR := hDR.below hb12
 have hB12 := Ad hB11 hb12
 have hG12 := hG11.below hb12
 clear hSC hLC hb12 he hd9
 refine gon G<|ont G<|pfb G G<|cdf G ?_
 have hr9 : w12.heap[r9]? = some (.cells ((n.det s').vals NB FB nb fb ++ [Value.slice SB (n.subs s').length sb,Value.slice none 0 0,Value.slice none 0 0] : List Value).toArray 60 (0,0)) := hr9
 generalize hdd : n.det s' = d at *
 refine ofa J7 G<|AV (vs := d.vals NB FB nb fb) G35 S35 rfl (Dx hr9 (fun j hj => by rcases j with _ | _ | _ | _ | j <;> first | rfl | (simp at hj; omega))) ?_
 refine cl C27 [] G ((Jt d hdo NB FB nb fb w12 hDR hG12).mono ?_)
 rintro e w13 ⟨j,p,NA',FA',CA',nc',fc',cc',rfl,hj,hjw,hM,hb13⟩
 refine ⟨_,rfl,?_⟩
 refine mv G<|oex G G<|oex G G<|ap G<|ai G<|mi G<|one G G<|cdf G ?_
 have hG13 := hG12.below hb13
 refine mp G<|ms G<|cl C17 [] G ((EM (svN d hdo (by omega)) w12.heap.size A c xs j p w12.heap.size w13 hj (Nat.le_refl _) hjw ⟨Nat.zero_le _,NA',FA',CA',nc',fc',cc',hM⟩ hG13 (by have := hB12.size; omega) (fun V hV => Kd.C_below (Kd.C_below hx hB12) (hb13.trans hV)) hl hx0 (fun u s h => by have := nxMn_end d u s h; omega)).mono ?_)
 rintro e w14 ⟨j2,p2,u2,B2,k,rfl,hj2,hBz2,hBj2,⟨hk0,NA2,FA2,CA2,nc2,fc2,cc2,hM2⟩,hit2,hnx2,hb14⟩
 have hstab := nxMn_done hnx2
 have hb1214 := hb13.trans hb14
 have hB14 := Ad hB12 hb1214
 have hr9 := Ab hr9 hb1214
 have hr10 := Ab hr10 hb1214
 have hr4 := Ab hr4 hb1214
 have hDR := hDR.below hb1214
 have hG14 := hG12.below hb1214
 clear hb13 hb14 hb1214 hj hM hG13
 refine ⟨_,rfl,?_⟩
 refine mv G<|oex G G<|oex G G<|ap G<|ab G<|mp G<|cl C18 [] G ((result18N d hdo B2 j2 p2 u2 k NA2 FA2 CA2 nc2 fc2 cc2 w14 hj2 hM2).mono ?_)
 rintro e w15 ⟨CB,cb,rfl,hC,hb15⟩
 refine ⟨_,rfl,?_⟩
 have hCC := (Kd.R_reads' hC).2.2
 have hlr : (Bt (d.rnd k)).length = d.next.length := by rw [Bp,Cb]
 rw [hlr] at hCC
 have hB15 := Ad hB14 hb15
 have hr9 := Ab hr9 hb15
 have hr10 := Ab hr10 hb15
 have hr4 := Ab hr4 hb15
 have hDR := hDR.below hb15
 have hG15 := hG14.below hb15
 clear hC hb15 hj2 hM2
 refine pl (.slice CB d.next.length cb) (fun _ => by kernel_rfl)<|asl G<|?_
 have hd10 : w15.cell? ⟨r10,0 + 2,none⟩ = some (.slice NA d.next.length nc) := (Ac hr10 2).trans rfl
 refine mb G<|ont G<|mb G<|gon G<|ms G<|gon G<|oln U22 G<|gon G<|ofa Bz G<|gon G<|old G27 G ‹_›<|gon G<|oln U27 G<|gon G<|one G G<|isf (by omega)<|pfb G G<|?_
 refine cdf G<|ofa J7 G<|AV (vs := d.vals NB FB nb fb) G35 S35 rfl (Dx hr9 (fun j hj => by rcases j with _ | _ | _ | _ | j <;> first | rfl | (simp at hj; omega))) ?_
 refine ms G<|cl C29 [] G ((quot29d d hdo NB FB nb fb (d.rnd k) (Cb d k) (Cp d k) CB cb w15 hDR hCC).mono ?_)
 rintro e w16 ⟨QN,qn,QF,qf,rfl,hQ,hb16⟩
 refine ⟨_,rfl,?_⟩
 have hrk : d.rnd k = d.rnd d.next.length := rnd_same hstab (JC hdo)
 rw [hrk] at hQ ⊢
 have hqo : (d.quo (d.rnd d.next.length)).Ok := Gv hdo (Cp d _)
 have hB16 := Ad hB15 hb16
 have hr4 := Ab hr4 hb16
 have hG16 := hG15.below hb16
 refine cl C28 [] G ((renum28d (d.quo (d.rnd d.next.length)) hqo QN QF qn qf w16 hQ hG16).mono ?_)
 rintro e w17 ⟨MN,mn,MF,mf,M,rfl,hM,hMN,hMF,hb17⟩
 have hB17 := Ad hB16 hb17
 have hr4 := Ab hr4 hb17
 refine ⟨_,rfl,?_⟩
 refine mv G<|oex G G<|oex G G<|oal (v := .agg #[.int .i64 0,.int .i64 0,.slice none 0 0,.slice none 0 0]) (cs := [.int .i64 0,.int .i64 0,.slice none 0 0,.slice none 0 0]) (fun _ => by kernel_rfl) G ?_
 intro r14 w18 hr14e hr14 hb18
 refine Bo (vs := ((d.quo (d.rnd d.next.length)).num M).vals MN MF mn mf) S35 G G G (by simp [Value.oneCell']) hr14 (by simp) ?_
 intro w19 hr14 hg19
 have hr14 : w19.heap[r14]? = some (.cells (((d.quo (d.rnd d.next.length)).num M).vals MN MF mn mf).toArray 35 (0,0)) := hr14
 have hb19 : Below w17.heap.size w17 w19 := hb18.grown hg19 hb18.size (fun k e => by cases e; omega)
 have hMN := Kd.R_below hMN hb19
 have hMF := Kd.R_below hMF hb19
 have hB19 := Ad hB17 hb19
 have hr4 := Ab hr4 hb19
 refine ai G<|AV (vs := ((d.quo (d.rnd d.next.length)).num M).vals MN MF mn mf) G35 S35 G (Ak hr14)<|mi G<|oeq G G<|Bo (vs := ((d.quo (d.rnd d.next.length)).num M).vals MN MF mn mf) S35 G G G (by simp [Value.oneCell']) hr4 (by simp) ?_
 intro w20 hr4' hg20
 have hr4' : w20.heap[r4]? = some (.cells (((d.quo (d.rnd d.next.length)).num M).vals MN MF mn mf).toArray 35 (0,0)) := hr4'
 refine ab G<|K2 (vs := ((d.quo (d.rnd d.next.length)).num M).vals MN MF mn mf) G G G hr4' G35 S35 ?_
 subst hdd
 exact ⟨MN,mn,MF,mf,s',M,rfl,hK,hM,⟨(Kd.R_reads' (Ah hMN hr4 (by decide) hg20)).2.2,(Kd.R_reads' (Ah hMF hr4 (by decide) hg20)).2.2⟩,hB19.grown hg20 hB19.size (fun k e => by cases e; omega)⟩
section
variable {n : Nat} {P : Program} {ops : Array Oper} {rest : List Oper} {Q : Bd n} {W : World} {f : Fm n} {d ty t e m : Nat} {els : Array (Nat × Operand)} {pos : String} {aft : Array Edge} {α : Type}
theorem Iy (k : Kd α) (base : Nat) {xs : List α} {cs : List Value} {okp : Nat → Prop} (hrun : Ru P (.buildSlice t m els) ty f W = .ok (.value (.slice (some ⟨W.heap.size,0,none⟩) m m)) (W.alloc (.cells cs.toArray e)))
  (hm : xs.length = m) (hp : Reps (k.M W base okp) k.sz xs cs) (hb : xs.length ≤ 4) (hbase : base ≤ W.heap.size)
  (h : ∀ A c w1,k.R e w1 base (fun _ => True) (.slice A xs.length c) xs → Below W.heap.size W w1 → RL P ops Q rest (up f d (.slice A xs.length c)) w1) : LS P ops Q ⟨some d,.buildSlice t m els,ty,pos,aft,none⟩ rest f W := by
 subst hm
 refine HW (Kd.R_lit k (w0 := W) base e G G (xs := xs) (inner := cs) (ok := fun _ => True) (okp := okp) ?_ hp (fun _ _ => trivial) trivial (Below.refl _ _) hbase (by omega) ?_)
 ·rw [Ba,Ce]; exact hrun
 ·intro v1 w1 hr _ hg _
  obtain ⟨A,c,rfl⟩ := Kd.R_slice hr
  exact Ej (h A c w1 hr ((Below.refl _ _).grown hg (Nat.le_refl _) (fun k e => by cases e)))
end
def na0 : Na := ⟨1,3,[0],[2],[⟨0,0,0,0⟩,⟨0,1,1,0⟩,⟨1,2,0,0⟩]⟩
theorem Li : (na0.subs 4).length = 4 := by decide
theorem Lh : ((na0.minQ 4).ord 4).length = 4 := by decide
theorem na0_s : ((na0.minQ 4).num 4).shortest = some [1,0] := by decide
theorem KF : na0.Ok := by
 refine ⟨by decide,by decide,by decide,⟨?_,?_⟩,⟨?_,?_⟩,?_⟩
 ·intro a ha; rw [List.mem_singleton.1 ha]; decide
 ·intro i a b h1 h2
  rcases i with _ | i
  ·cases h2
  ·cases h1
 ·intro a ha; rw [List.mem_singleton.1 ha]; decide
 ·intro i a b h1 h2
  rcases i with _ | i
  ·cases h2
  ·cases h1
 ·intro e he
  simp only [na0,List.mem_cons,List.not_mem_nil,or_false] at he
  rcases he with rfl | rfl | rfl
  ·exact ⟨by decide,by decide,0,0,rfl,rfl,by decide,rfl⟩
  ·exact ⟨by decide,by decide,1,0,rfl,rfl,by decide,rfl⟩
  ·exact ⟨by decide,by decide,0,0,rfl,rfl,by decide,rfl⟩
theorem alive4 (w : World) (hG : Glob w) : Calls Tryz.prog 4 #[] w fun e w' => e = .returned (.bool true) ∧ Below w.heap.size w w' := by
 refine enter 45 Tryz.func4 G G _ (by simp) ?_
 refine ab G<|Iy (Kd.int .i64) w.heap.size (xs := [0]) (okp := fun _ => False) (AJ (u := .int .i64 0) U22 I3 G G) G (Gu G G) (by decide) (Nat.le_refl _) ?_
 intro SA cs w1 hSt hb1
 have hz1 := hb1.size
 refine Iy (Kd.int .i64) w.heap.size (xs := [2]) (okp := fun _ => False) (AJ (u := .int .i64 2) U22 I3 G G) G (Gu G G) (by decide) hz1 ?_
 intro FA cf w2 hFi hb2
 have hB2 := Ad hb1 hb2
 have hz2 := hB2.size
 have hSt := Kd.R_below hSt hb2
 refine pl (.agg #[.int .i64 0,.int .i64 0,.int .u8 0,.int .u8 0]) (fun _ => by kernel_rfl)<|pl (.agg #[.int .i64 0,.int .i64 1,.int .u8 1,.int .u8 0]) (fun _ => by kernel_rfl)<|pl (.agg #[.int .i64 1,.int .i64 2,.int .u8 0,.int .u8 0]) (fun _ => by kernel_rfl)<|Iy Ed.kd w.heap.size (xs := na0.edges) (cs := na0.edges.flatMap Ed.enc) (okp := fun _ => False) (Cj (us := [.agg #[.int .i64 0,.int .i64 0,.int .u8 0,.int .u8 0],.agg #[.int .i64 0,.int .i64 1,.int .u8 1,.int .u8 0],.agg #[.int .i64 1,.int .i64 2,.int .u8 0,.int .u8 0]]) U23 I71 G (by decide) [.tmp 9,.tmp 10,.tmp 11] G G G (by simp [Value.cells]) G (by simp)) G
  ⟨rfl,fun j q hj => by
   rcases j with _ | _ | _ | j
   ·injection hj with e; subst e; rfl
   ·injection hj with e; subst e; rfl
   ·injection hj with e; subst e; rfl
   ·cases hj⟩ (by decide) hz2 ?_
 intro EA ce w3 hEd hb3
 have hB3 := Ad hB2 hb3
 have hSt := Kd.R_below hSt hb3
 have hFi := Kd.R_below hFi hb3
 have hNR : NR na0 w3 SA FA EA := ⟨(Kd.R_reads' hSt).2.2,(Kd.R_reads' hFi).2.2,(Kd.R_reads' hEd).2.2⟩
 have hz3 := hB3.size
 clear hSt hFi hEd hb1 hb2 hb3 hB2
 refine pl (.agg (na0.vals SA FA EA cs cf ce).toArray) (fun _ => by kernel_rfl)<|oal (v := .agg #[.int .i64 0,.int .i64 0,.slice none 0 0,.slice none 0 0,.slice none 0 0]) (cs := [.int .i64 0,.int .i64 0,.slice none 0 0,.slice none 0 0,.slice none 0 0]) (fun _ => by kernel_rfl) G ?_
 intro r1 w4 hr1e hr1 hb4
 refine Bo (vs := na0.vals SA FA EA cs cf ce) S25 G G G (by simp [Value.oneCell']) hr1 (by simp) ?_
 intro w5 hr1 hg5
 have hr1 : w5.heap[r1]? = some (.cells (na0.vals SA FA EA cs cf ce).toArray 25 (0,0)) := hr1
 have hb5 : Below w3.heap.size w3 w5 := hb4.grown hg5 hb4.size (fun k e => by cases e; omega)
 have hNR := hNR.below hb5
 have hB5 := Ad hB3 hb5
 clear hb4 hg5 hb5 hB3
 refine AV (vs := na0.vals SA FA EA cs cf ce) G25 S25 G (Ak hr1)<|Iy (Kd.int .u8) w.heap.size (xs := [1,4]) (okp := fun _ => False) (Cj (us := [.int .u8 1,.int .u8 4]) U26 I5 G (by decide) [.const (.int .u8 1),.const (.int .u8 4)] G G G (by simp [Value.cells]) G (by simp)) G
  ⟨rfl,fun j q hj => by
   rcases j with _ | _ | j
   ·injection hj with e; subst e; rfl
   ·injection hj with e; subst e; rfl
   ·cases hj⟩ (by decide) hB5.size ?_
 intro XA xc w6 hX hb6
 have hNR := hNR.below hb6
 have hB6 := Ad hB5 hb6
 refine cl C6 [] rfl ((Iv na0 KF (by decide) SA FA EA cs cf ce XA xc [1,4] w6 hNR (hG.below hB6) (Kd.R_reads' hX).2.2 (by decide) (fun x hx => by simp only [List.mem_cons,List.not_mem_nil,or_false] at hx; rcases hx with rfl | rfl <;> omega)).mono ?_)
 rintro e w7 ⟨NB,nb,BA,bc,K,M,rfl,hK,hM,hDR,hb7⟩
 obtain rfl : K = 4 := DK hK Li
 obtain rfl : M = 4 := DK hM Lh
 have hdo : ((na0.minQ 4).num 4).Ok := KB (Gv (GQ KF (by decide) Li) (Cp _ _)) Lh
 have hnl : ((na0.minQ 4).num 4).next.length = 4 := Fb
 have hsh := na0_s
 generalize (na0.minQ 4).num 4 = d at *
 have hB7 := Ad hB6 hb7
 clear hb7 hNR hr1 hX hb6
 refine ⟨_,rfl,?_⟩
 refine mv G<|oex G G<|oex G G<|oal (v := .agg #[.int .i64 0,.int .i64 0,.slice none 0 0,.slice none 0 0]) (cs := [.int .i64 0,.int .i64 0,.slice none 0 0,.slice none 0 0]) (fun _ => by kernel_rfl) G ?_
 intro r2 w8 hr2e hr2 hb8
 refine Bo (vs := d.vals NB BA nb bc) S35 G G G (by simp [Value.oneCell']) hr2 (by simp) ?_
 intro w9 hr2 hg9
 have hr2 : w9.heap[r2]? = some (.cells (d.vals NB BA nb bc).toArray 35 (0,0)) := hr2
 have hb9 : Below w7.heap.size w7 w9 := hb8.grown hg9 hb8.size (fun k e => by cases e; omega)
 have hDR := hDR.below hb9
 have hB9 := Ad hB7 hb9
 clear hb8 hg9 hb9
 refine ab G<|AV (vs := d.vals NB BA nb bc) G35 S35 G (Ak hr2)<|cl C12 [] G ((EH d hdo NB BA nb bc w9 hDR).mono ?_)
 rintro e w10 ⟨hb10,⟨hn,_⟩ | ⟨l,LA,lc,hl,rfl,hLC⟩⟩
 ·rw [hsh] at hn; cases hn
 ·rw [hsh] at hl
  injection hl with hl
  subst hl
  have hB10 := Ad hB9 hb10
  have hr2 := Ab hr2 hb10
  refine ⟨_,rfl,?_⟩
  refine mv G<|oex G G<|oex G G<|oex G G<|asl G<|ab G<|ai G<|?_
  have hc2 : w10.cell? ⟨r2,0 + 2,none⟩ = some (.slice NB d.next.length nb) := (Ac hr2 2).trans rfl
  refine mb G<|mb G<|gon G<|mb G<|ptb G G<|mb G<|gon G<|mi G<|gon G<|oeq G G<|ist (by omega)<|ptb G G<|mb G<|gon G<|ofa Bz G<|gon G<|old G27 G ‹_›<|gon G<|oln U27 G<|gon G<|oeq G G<|ist (by omega)<|ptb G G<|mb G<|gon G<|ms G<|?_
  refine gon G<|Iy (Kd.int .u8) w.heap.size (xs := [1,0]) (okp := fun _ => False) (Cj (us := [.int .u8 1,.int .u8 0]) U26 I5 G (by decide) [.const (.int .u8 1),.const (.int .u8 0)] G G G (by simp [Value.cells]) G (by simp)) G
   ⟨rfl,fun j q hj => by
    rcases j with _ | _ | j
    ·injection hj with e; subst e; rfl
    ·injection hj with e; subst e; rfl
    ·cases hj⟩ (by decide) hB10.size ?_
  intro YA yc w11 hY hb11
  have hB11 := Ad hB10 hb11
  refine gon G<|cl C20 [] G ((equal20 LA YA lc yc [1,0] [1,0] w11 (Kd.C_below hLC hb11) (Kd.R_reads' hY).2.2 (by decide)).mono ?_)
  rintro e w12 ⟨rfl,hb12⟩
  rw [decide_eq_true (rfl : ([1,0] : List Int) = [1,0])]
  refine ⟨_,rfl,?_⟩
  refine ptb G G<|ab G<|?_
  exact rt1 rfl rfl ⟨rfl,Ad hB11 hb12⟩
end
section
open Go
open PGame (W via CK)
abbrev DD (g : GL) : Nat → Nat := Me.nat (Bh g.pri)
def Cu (f : Nat → Nat) : Nat → Nat
 | 0 => 0
 | k + 1 => Cu f k + f k
theorem Ln (f : Nat → Nat) : ∀ k,W f k ≤ 2 ^ Cu f k
 | 0 => Nat.le_refl _
 | k + 1 => by
  have ih := Ln f k
  have h1 : f k + 1 ≤ 2 ^ f k := Nat.succ_le_of_lt Nat.lt_two_pow_self
  show W f k * (f k + 1) ≤ 2 ^ (Cu f k + f k)
  rw [Nat.pow_add]
  exact Nat.mul_le_mul ih h1
def hit (p : Int) (j : Nat) : Nat := if p = 2 * (j : Int) + 1 then 1 else 0
theorem JP (p : Int) : ∀ k,Cu (hit p) k ≤ 1 ∧ (∀ j,k ≤ j → p = 2 * (j : Int) + 1 → Cu (hit p) k = 0)
 | 0 => ⟨Nat.zero_le _,fun _ _ _ => rfl⟩
 | k + 1 => by
  obtain ⟨h1,h2⟩ := JP p k
  show Cu (hit p) k + hit p k ≤ 1 ∧ _
  constructor
  ·unfold hit
   split
   ·rename_i h; rw [show Cu (fun j => if p = 2 * (j : Int) + 1 then 1 else 0) k = 0 from h2 k (Nat.le_refl _) h]; decide
   ·exact h1
  ·intro j hj he
   show Cu (hit p) k + hit p k = 0
   rw [h2 j (by omega) he]
   unfold hit
   rw [if_neg (by omega)]
theorem Im (f h : Nat → Nat) : ∀ k,Cu (fun j => f j + h j) k = Cu f k + Cu h k
 | 0 => rfl
 | k + 1 => by
  show Cu (fun j => f j + h j) k + (f k + h k) = Cu f k + f k + (Cu h k + h k)
  rw [Im f h k]; omega
theorem lims_cons (p : Int) (l : List Int) : Me.nat (Bh (p :: l)) = fun j => Me.nat (Bh l) j + hit p j := by
 funext j
 unfold Me.nat Bh hit
 rw [List.filter_cons]
 by_cases h : p = 2 * (j : Int) + 1
 ·rw [if_pos (by simpa using h),if_pos h,List.length_cons]; simp only [Int.toNat_natCast]
 ·rw [if_neg (by simpa using h),if_neg h]; simp only [Int.toNat_natCast]; rfl
theorem IE : ∀ (l : List Int) (k : Nat),Cu (Me.nat (Bh l)) k ≤ l.length
 | [],k => by
  have : ∀ k,Cu (Me.nat (Bh [])) k = 0 := by
   intro k
   induction k with
   | zero => rfl
   | succ k ih => show Cu _ k + _ = 0; rw [ih]; rfl
  rw [this]; exact Nat.zero_le _
 | p :: l,k => by
  rw [lims_cons,Im,List.length_cons]
  have h1 := IE l k
  have h2 := (JP p k).1
  omega
theorem glim_W (g : GL) (hF : g.Full) (h6 : g.own.length ≤ 6) : W (DD g) 8 ≤ 64 := by
 have h1 := Ln (DD g) 8
 have h2 := IE g.pri 8
 have h3 := hF.ok.lp
 have h4 : 2 ^ Cu (DD g) 8 ≤ 2 ^ 6 := Nat.pow_le_pow_right (by decide) (by have : Cu (DD g) 8 ≤ g.pri.length := h2; omega)
 exact Nat.le_trans h1 h4
structure InvM (g : GL) (ρ : Nat → Nat) : Prop where
 low : ∀ σ,g.gm.Pre (DD g) (W (DD g) 8) σ → ∀ v,v < g.own.length → ρ v ≤ σ v
 le : ∀ v,v < g.own.length → ρ v ≤ W (DD g) 8
theorem Fe {g : GL} (hF : g.Full) : (∀ v,v < g.own.length → g.gm.pri v / 2 < 8 ∨ (g.gm.pri v % 2 = 0 ∧ g.gm.pri v / 2 ≤ 8)) ∧ (∀ v,v < g.own.length → (∃ u,u ∈ g.gm.suc v) ∧ ∀ u,u ∈ g.gm.suc v → u < g.own.length) ∧ (∀ v,v < g.own.length → g.gm.own v = 0 ∨ g.gm.own v = 1) := by
 have hlp := hF.ok.lp
 have hls := hF.ok.ls
 refine ⟨fun v hv => ?_,fun v hv => ?_,fun v hv => ?_⟩
 ·have h := gE (l := g.pri) (show v < g.pri.length by omega)
  rw [H1 h]
  have := hF.ok.pri v _ h
  omega
 ·have h := gE (l := g.suc) (show v < g.suc.length by omega)
  obtain ⟨h1,_,h2⟩ := hF.ok.row v _ h
  rw [FC h]
  refine ⟨?_,fun u hu => ?_⟩
  ·obtain ⟨x,hx⟩ := List.exists_mem_of_ne_nil _ h1
   exact ⟨x.toNat,List.mem_map.2 ⟨x,hx,rfl⟩⟩
  ·obtain ⟨x,hx,rfl⟩ := List.mem_map.1 hu
   have := h2 x hx
   omega
 ·have h := gE (l := g.own) hv
  rw [GK h]
  have := hF.ok.own v _ h
  omega
theorem KT {g : GL} (hF : g.Full) {v : Nat} (hv : v < g.own.length) : W (DD g) (g.gm.pri v / 2) ∣ W (DD g) 8 := PGame.W_dvd' _ (by have := (Fe hF).1 v hv; omega)
theorem InvM.next {g : GL} (hF : g.Full) {ρ ρ' : Nat → Nat} (h : InvM g ρ) (hn : NxR g ρ ρ') : InvM g ρ' := by
 obtain ⟨v,y,hv,hl,_,_,rfl⟩ := hn
 obtain ⟨⟨u0,hu0,hy⟩,h0,h1⟩ := hl
 refine ⟨fun σ hσ w hw => ?_,fun w hw => ?_⟩
 ·show (if w = v then y else ρ w) ≤ σ w
  split
  ·rename_i e
   subst e
   refine PGame.lift_below g.gm (DD g) (W (DD g) 8) ρ σ hσ (fun x hx => h.low σ hσ x hx) (fun x hx => KT hF hx) (fun x hx => ((Fe hF).2.1 x hx).2) w y hw ?_
   by_cases e : g.gm.own w = 0
   ·exact .inl ⟨e,h0 e⟩
   ·exact .inr ⟨e,u0,hu0,Nat.le_of_eq hy⟩
  ·exact h.low σ hσ w hw
 ·show (if w = v then y else ρ w) ≤ _
  split
  ·rw [hy]; exact PGame.via_le _ (KT hF hv)
  ·exact h.le w hw
theorem nxM_nx {g : GL} {ρ ρ' : Nat → Nat} (h : nxM g ρ = some ρ') : NxR g ρ ρ' := by
 unfold nxM at h
 split at h
 ·rename_i hx
  injection h with e
  rw [← e]
  exact hx.choose_spec
 ·cases h
theorem Jr {f f' : Nat → Nat} {v : Nat} (hv : f v < f' v) (ho : ∀ u,u ≠ v → f' u = f u) : ∀ k,v < k → Cu f k + 1 ≤ Cu f' k
 | 0,h => by omega
 | k + 1,h => by
  show Cu f k + f k + 1 ≤ Cu f' k + f' k
  by_cases e : v = k
  ·subst e
   have : ∀ j,j ≤ v → Cu f' j = Cu f j := by
    intro j
    induction j with
    | zero => exact fun _ => rfl
    | succ j ih => intro hj; show Cu f' j + f' j = Cu f j + f j; rw [ih (by omega),ho j (by omega)]
   rw [this v (Nat.le_refl _)]
   omega
  ·have := Jr hv ho k (by omega)
   rw [ho k (fun h => e h.symm)]
   omega
theorem Js {f : Nat → Nat} {B : Nat} : ∀ k,(∀ v,v < k → f v ≤ B) → Cu f k ≤ k * B
 | 0,_ => Nat.zero_le _
 | k + 1,h => by
  have ih := Js k (fun v hv => h v (by omega))
  have := h k (by omega)
  show Cu f k + f k ≤ _
  rw [Nat.add_mul,Nat.one_mul]
  omega
theorem Hm (g : GL) (v : Nat) : Ke g v = 0 := by
 unfold Ke rho
 rw [List.getElem?_replicate]
 split
 ·show Me.rk _ Me.zero = 0
  unfold Me.rk
  rw [if_neg (by simp [Me.zero])]
  exact Me.val_zero _ _ 8 (fun j _ => rfl)
 ·rfl
theorem Jf {g : GL} (hF : g.Full) : ∀ u ρ,itU (nxM g) (Ke g) u = some ρ → InvM g ρ ∧ u ≤ Cu ρ g.own.length
 | 0,ρ,h => by
  injection h with e
  subst e
  exact ⟨⟨fun σ _ v _ => by rw [Hm]; exact Nat.zero_le _,fun v _ => by rw [Hm]; exact Nat.zero_le _⟩,Nat.zero_le _⟩
 | u + 1,ρ,h => by
  unfold itU at h
  obtain ⟨σ,ht,hs⟩ := Option.bind_eq_some_iff.1 h
  obtain ⟨h1,h2⟩ := Jf hF u σ ht
  have hn := nxM_nx hs
  refine ⟨h1.next hF hn,?_⟩
  obtain ⟨v,y,hv,_,hlt,_,rfl⟩ := hn
  have := Jr (f := σ) (f' := fun u => if u = v then y else σ u) (v := v) (by simp only [if_true]; exact hlt) (fun u hu => if_neg hu) _ hv
  omega
theorem nxM_end {g : GL} (hF : g.Full) (h6 : g.own.length ≤ 6) (u : Nat) (ρ : Nat → Nat) (h : itU (nxM g) (Ke g) u = some ρ) : u ≤ 384 := by
 obtain ⟨h1,h2⟩ := Jf hF u ρ h
 have h3 := Js g.own.length h1.le
 have h4 := Nat.mul_le_mul h6 (glim_W g hF h6)
 omega
theorem GO {β : Type} (f : β → Nat) : ∀ l : List β,l ≠ [] → ∃ u ∈ l,∀ x ∈ l,f u ≤ f x
 | [],h => absurd rfl h
 | [a],_ => ⟨a,List.mem_singleton.2 rfl,fun x hx => by rw [List.mem_singleton.1 hx]; exact Nat.le_refl _⟩
 | a :: b :: l,_ => by
  obtain ⟨u,hu,hle⟩ := GO f (b :: l) (by simp)
  by_cases e : f a ≤ f u
  ·exact ⟨a,List.mem_cons_self ..,fun x hx => by
    rcases List.mem_cons.1 hx with rfl | hx
    ·exact Nat.le_refl _
    ·exact Nat.le_trans e (hle x hx)⟩
  ·exact ⟨u,List.mem_cons_of_mem _ hu,fun x hx => by
    rcases List.mem_cons.1 hx with rfl | hx
    ·omega
    ·exact hle x hx⟩
theorem FW {β : Type} (f : β → Nat) : ∀ l : List β,l ≠ [] → ∃ u ∈ l,∀ x ∈ l,f x ≤ f u
 | [],h => absurd rfl h
 | [a],_ => ⟨a,List.mem_singleton.2 rfl,fun x hx => by rw [List.mem_singleton.1 hx]; exact Nat.le_refl _⟩
 | a :: b :: l,_ => by
  obtain ⟨u,hu,hle⟩ := FW f (b :: l) (by simp)
  by_cases e : f u ≤ f a
  ·exact ⟨a,List.mem_cons_self ..,fun x hx => by
    rcases List.mem_cons.1 hx with rfl | hx
    ·exact Nat.le_refl _
    ·exact Nat.le_trans (hle x hx) e⟩
  ·exact ⟨u,List.mem_cons_of_mem _ hu,fun x hx => by
    rcases List.mem_cons.1 hx with rfl | hx
    ·omega
    ·exact hle x hx⟩
theorem noLift_pre {g : GL} (hF : g.Full) {mz : List Me} (h : CX g mz) : g.gm.Pre (DD g) (W (DD g) 8) (rho (Bh g.pri) mz) := by
 intro v hv
 obtain ⟨⟨u1,hu1⟩,_⟩ := (Fe hF).2.1 v hv
 have hne : g.gm.suc v ≠ [] := fun e => by rw [e] at hu1; cases hu1
 constructor
 ·intro e
  obtain ⟨u,hu,hle⟩ := GO (fun u => via (DD g) (W (DD g) 8) (g.gm.pri v) (rho (Bh g.pri) mz u)) _ hne
  exact ⟨u,hu,h v hv _ ⟨⟨u,hu,rfl⟩,fun _ => hle,fun e' => absurd e e'⟩⟩
 ·intro e x hx
  obtain ⟨u,hu,hle⟩ := FW (fun u => via (DD g) (W (DD g) 8) (g.gm.pri v) (rho (Bh g.pri) mz u)) _ hne
  exact Nat.le_trans (hle x hx) (h v hv _ ⟨⟨u,hu,rfl⟩,fun e' => absurd e' e,fun _ => hle⟩)
theorem range_getD (l : List Int) : (List.range l.length).map (fun u => l.getD u 0) = l := by
 apply List.ext_getElem
 ·simp
 ·intro i h1 h2
  simp [gD,gE h2]
theorem lims_count {g : GL} (hF : g.Full) (j : Nat) : DD g j = CK g.gm.n (fun u => decide (g.gm.pri u = 2 * j + 1)) := by
 have hlp := hF.ok.lp
 show ((Bh g.pri) j).toNat = ((List.range g.own.length).filter _).length
 unfold Bh
 rw [Int.toNat_natCast,← hlp]
 conv => lhs; rw [← range_getD g.pri]
 rw [List.filter_map,List.length_map]
 congr 1
 apply List.filter_congr
 intro u _
 show decide ((g.pri.getD u 0) = 2 * (j : Int) + 1) = decide ((g.pri.getD u 0).toNat = 2 * j + 1)
 apply decide_eq_decide.2
 omega
theorem tops_win {g : GL} (hF : g.Full) {mz : List Me} {z0 z1 : List Bool} {u : Nat} (hit : itU (nxM g) (Ke g) u = some (rho (Bh g.pri) mz)) (hnx : nxM g (rho (Bh g.pri) mz) = none) (hl : mz.length = g.own.length) (hgd : ∀ m ∈ mz,m.Good (Bh g.pri))
  (hall : ∀ v,v < g.own.length ↔ mem z0 v ∨ mem z1 v) (h0 : ∃ φ,g.gm.Cert 0 (fun v => v < g.own.length) (mem z0) φ) (h1 : ∃ φ,g.gm.Cert 1 (fun v => v < g.own.length) (mem z1) φ) (hz : z1.length = g.own.length) {v : Nat} {m : Me} {x : Int} (hm : mz[v]? = some m) (hx : (win z1)[v]? = some x) : m.top = decide (x = 1) := by
 obtain ⟨φ0,h0⟩ := h0
 obtain ⟨φ1,h1⟩ := h1
 obtain ⟨f1,f2,f3⟩ := Fe hF
 have hv : v < g.own.length := by have := (List.getElem?_eq_some_iff.1 hm).1; omega
 have hinv := (Jf hF u _ hit).1
 have hiff := PGame.top_iff g.gm (DD g) 8 (rho (Bh g.pri) mz) (mem z0) (mem z1) φ0 φ1 (lims_count hF) f1 f2 f3 h0 h1 (fun v hv => (hall v).1 hv) (noLift_pre hF (nxM_iff.1 hnx)) hinv.low v hv
 rw [Gt hm] at hiff
 have hg := hgd m (List.mem_of_getElem? hm)
 have htop : W (DD g) 8 ≤ m.rk (Bh g.pri) ↔ m.top = true := by
  unfold Me.rk
  split
  ·rename_i h; exact ⟨fun _ => h,fun _ => Nat.le_refl _⟩
  ·rename_i h
   have := PGame.val_lt (DD g) (Me.nat m.c) 8 (fun j hj => by have := hg.1 j hj; show (m.c j).toNat ≤ (Bh g.pri j).toNat; omega)
   refine ⟨fun h' => ?_,fun h' => absurd h' h⟩
   exact absurd h' (Nat.not_le_of_lt this)
 have hzv : z1[v]? = some z1[v] := gE (by omega)
 have hxw : x = if z1[v] then 1 else 0 := by
  unfold win at hx
  rw [List.getElem?_map,hzv] at hx
  injection hx with e
  exact e.symm
 have hmem : mem z1 v ↔ z1[v] = true := by
  unfold mem
  rw [hzv]
  exact ⟨fun h => by injection h,fun h => by rw [h]⟩
 rw [htop,hmem] at hiff
 rw [hxw]
 cases hz1 : z1[v] <;> cases hmt : m.top <;> simp_all
end
section
open Go Fm Go.RowKit Go.Proofs.YtmjllchdhcdinaaGreatDoorW.PrintWords
theorem min_acc {n : Na} (hn : n.Ok) (hn5 : n.states ≤ 5) {K M : Nat} (hK : (n.subs K).length = K) (hM : ((n.minQ K).ord M).length = M) (l : List Int) (hl : De n.vars l) :
  ((n.minQ K).num M).acc (((n.minQ K).num M).run l) = decide (n.run l &&& AR n.fin ≠ 0) := by
 have hdo := GQ hn hn5 hK
 have h1 : ((n.minQ K).num M).finO (((n.minQ K).num M).run l) = (n.minQ K).finO ((n.minQ K).run l) := IS (succ := (n.minQ K).step) (v := (n.minQ K).vars) hM l hl
 have h2 : (n.minQ K).finO ((n.minQ K).run l) = (n.det K).finO ((n.det K).run l) := quo_acc hdo (rnd_stab hdo (JC hdo)) l hl
 have h3 : (n.det K).finO ((n.det K).run l) = n.accB (l.foldl (fun s x => n.step s x.toNat) (AR n.start)) := IS (succ := n.step) (v := n.vars) hK l hl
 show ((n.minQ K).num M).finO (((n.minQ K).num M).run l) = _
 rw [h1,h2,h3]
 rfl
theorem KG {n : Na} (hn : n.Ok) (hn5 : n.states ≤ 5) {K : Nat} (hK : (n.subs K).length = K) : (n.minQ K).Ok := Gv (GQ hn hn5 hK) (Cp _ _)
theorem min_le {n : Na} (hn : n.Ok) (hn5 : n.states ≤ 5) {K M : Nat} (hK : (n.subs K).length = K) (hM : ((n.minQ K).ord M).length = M) : M ≤ K := by
 have h1 := KC (KG hn hn5 hK) hM
 have h2 : (n.minQ K).next.length ≤ (n.det K).next.length := Dw (n.det K) _ _
 rw [H5] at h2
 omega
theorem top3 (v s : Int) (st fi : List Int) (es : List Ed) (SA FA EA : Option Addr) (cs cf ce : Nat) (g : GL) (OA PA UA : Option Addr) (co cp cu : Nat) (XA YA : Option Addr) (xc yc : Nat) (xs ys : List Int) (w : World) (hG : Glob w)
  (hst : (Kd.int .i64).C w SA st.length st) (hfi : (Kd.int .i64).C w FA fi.length fi) (hes : Ed.kd.C w EA es.length es) (hby : ∀ e ∈ es,(0 ≤ e.care ∧ e.care ≤ 255) ∧ 0 ≤ e.want ∧ e.want ≤ 255) (hgr : GR g w OA PA UA) (hown : ∀ x ∈ g.own,0 ≤ x)
  (hx : (Kd.int .u8).C w XA xs.length xs) (hxb : ∀ x ∈ xs,0 ≤ x ∧ x ≤ 255) (hy : (Kd.int .u8).C w YA ys.length ys) (hyb : ∀ x ∈ ys,0 ≤ x ∧ x ≤ 255) :
  Calls Tryz.prog 3 #[.agg #[.int .i64 v,.int .i64 s,.slice SA st.length cs,.slice FA fi.length cf,.slice EA es.length ce],.agg #[.slice OA g.own.length co,.slice PA g.pri.length cp,.slice UA g.suc.length cu],.slice XA xs.length xc,.slice YA ys.length yc] w fun e w' => e = .returned (.bool true) ∧ Below w.heap.size w w' := by
 have h2 := hG.lt
 refine enter 259 Tryz.func3 G G _ (by simp) ?_
 refine obx (cs := [.int .i64 v,.int .i64 s,.slice SA st.length cs,.slice FA fi.length cf,.slice EA es.length ce]) G G ?_
 intro b w1 hbe hbb hb1
 refine obx (cs := [.slice OA g.own.length co,.slice PA g.pri.length cp,.slice UA g.suc.length cu]) G G ?_
 intro bg w2 hbge hbg hb2
 refine ab G<|?_
 have hbb := Ab hbb hb2
 have hB2 := Ad hb1 hb2
 have hz2 := hB2.size
 have hs1 := hb1.size
 clear hb1 hb2
 refine cl C4 [] G ((alive4 w2 (hG.below hB2)).mono ?_)
 rintro e w3 ⟨rfl,hb3⟩
 refine ⟨_,rfl,?_⟩
 have hbb := Ab hbb hb3
 have hbg := Ab hbg hb3
 have hB3 := Ad hB2 hb3
 have hG3 := hG.below hB3
 clear hb3
 refine ont G<|cdf G ?_
 by_cases c1 : (xs.length : Int) > 20
 ·refine ms G<|oln U26 G<|ogt G G<|ist c1<|mb G<|gof G<|gof G<|gof G<|ptb G G<|mb G<|gof G<|gof G<|gof G<|ptb G G<|mb G<|gof G<|gof G<|gof G<|gof G<|ptb G G<|mb G<|gof G<|gof G<|gof G<|ptb G G<|mb G<|gof G<|gof G<|gof G<|ptb G G<|cdt G<|ab G<|?_
  exact rt1 rfl rfl ⟨rfl,hB3⟩
 by_cases c2 : (ys.length : Int) > 12
 ·refine ms G<|oln U26 G<|ogt G G<|isf c1<|mb G<|gon G<|ms G<|gon G<|oln U26 G<|gon G<|ogt G G<|ist c2<|pfb G G<|mb G<|gof G<|gof G<|gof G<|ptb G G<|mb G<|gof G<|gof G<|gof G<|gof G<|ptb G G<|mb G<|gof G<|gof G<|gof G<|ptb G G<|mb G<|gof G<|gof G<|gof G<|ptb G G<|cdt G<|ab G<|?_
  exact rt1 rfl rfl ⟨rfl,hB3⟩
 have hd0 : w3.cell? ⟨b,0 + 0,none⟩ = some (.int .i64 v) := (Ac hbb 0).trans rfl
 have hd1 : w3.cell? ⟨b,0 + 1,none⟩ = some (.int .i64 s) := (Ac hbb 1).trans rfl
 have hd4 : w3.cell? ⟨b,0 + 4,none⟩ = some (.slice EA es.length ce) := (Ac hbb 4).trans rfl
 by_cases c3 : s > 5
 ·refine ms G<|oln U26 G<|ogt G G<|isf c1<|mb G<|gon G<|ms G<|gon G<|oln U26 G<|gon G<|ogt G G<|isf c2<|pfb G G<|mb G<|gon G<|ofa Dq G<|gon G<|old G3 G ‹_›<|gon G<|ogt G G<|ist c3<|pfb G G<|mb G<|gof G<|gof G<|gof G<|gof G<|ptb G G<|mb G<|gof G<|gof G<|gof G<|ptb G G<|mb G<|gof G<|gof G<|gof G<|ptb G G<|cdt G<|ab G<|?_
  exact rt1 rfl rfl ⟨rfl,hB3⟩
 by_cases c4 : (es.length : Int) > 40
 ·refine ms G<|oln U26 G<|ogt G G<|isf c1<|mb G<|gon G<|ms G<|gon G<|oln U26 G<|gon G<|ogt G G<|isf c2<|pfb G G<|mb G<|gon G<|ofa Dq G<|gon G<|old G3 G ‹_›<|gon G<|ogt G G<|isf c3<|pfb G G<|mb G<|gon G<|ofa Dz G<|gon G<|old G23 G ‹_›<|gon G<|oln U23 G<|gon G<|ogt G G<|ist c4<|pfb G G<|mb G<|gof G<|gof G<|gof G<|ptb G G<|mb G<|gof G<|gof G<|gof G<|ptb G G<|cdt G<|ab G<|?_
  exact rt1 rfl rfl ⟨rfl,hB3⟩
 refine ms G<|oln U26 G<|ogt G G<|isf c1<|mb G<|gon G<|ms G<|gon G<|oln U26 G<|gon G<|ogt G G<|isf c2<|pfb G G<|mb G<|gon G<|ofa Dq G<|gon G<|old G3 G ‹_›<|gon G<|ogt G G<|isf c3<|pfb G G<|mb G<|gon G<|ofa Dz G<|gon G<|old G23 G ‹_›<|gon G<|oln U23 G<|gon G<|ogt G G<|isf c4<|pfb G G<|mb G<|gon G<|AV (vs := [.int .i64 v,.int .i64 s,.slice SA st.length cs,.slice FA fi.length cf,.slice EA es.length ce]) G25 S25 G (Ak hbb)<|gon G<|cl C5 [] G ((check5 v s st fi es SA FA EA cs cf ce w3 (by omega) (Kd.C_below hst hB3) (Kd.C_below hfi hB3) (Kd.C_below hes hB3) hby).mono ?_)
 rintro e w4 ⟨code,rfl,hcode,hb4⟩
 have hbb := Ab hbb hb4
 have hbg := Ab hbg hb4
 have hB4 := Ad hB3 hb4
 have hG4 := hG.below hB4
 clear hb4 hd0 hd1 hd4 hG3
 refine ⟨_,rfl,?_⟩
 by_cases c5 : code ≠ 0
 ·refine gon G<|one G G<|ist c5<|pfb G G<|mb G<|gof G<|gof G<|gof G<|ptb G G<|cdt G<|ab G<|?_
  exact rt1 rfl rfl ⟨rfl,hB4⟩
 have hc0 : code = 0 := by omega
 subst hc0
 obtain ⟨n,hn,rfl,rfl,rfl,rfl,rfl⟩ := hcode rfl
 refine gon G<|one G G<|isf c5 ?_
 have hd0 : w4.cell? ⟨b,0 + 0,none⟩ = some (.int .i64 (n.vars : Nat)) := (Ac hbb 0).trans rfl
 by_cases c6 : ((n.vars : Nat) : Int) > 3
 ·refine pfb G G<|mb G<|gon G<|ofa DQ G<|gon G<|old G3 G ‹_›<|gon G<|ogt G G<|ist c6<|pfb G G<|cdt G<|ab G<|?_
  exact rt1 rfl rfl ⟨rfl,hB4⟩
 refine pfb G G<|mb G<|gon G<|ofa DQ G<|gon G<|old G3 G ‹_›<|gon G<|ogt G G<|isf c6<|pfb G G<|cdf G ?_
 have hn5 : n.states ≤ 5 := by omega
 have hNR : NR n w SA FA EA := ⟨hst,hfi,hes⟩
 have hbb : w4.heap[b]? = some (.cells (n.vals SA FA EA cs cf ce).toArray 25 (0,0)) := hbb
 have hx0 : ∀ x ∈ xs,0 ≤ x ∧ x < 256 := fun x hm => by have := hxb x hm; omega
 clear hst hfi hes hcode c5 c6 hd0 c3 c4
 refine AV (vs := n.vals SA FA EA cs cf ce) G25 S25 G (Ak hbb)<|ms G<|cl C6 [] G ((Iv n hn hn5 SA FA EA cs cf ce XA xc xs w4 (hNR.below hB4) hG4 (Kd.C_below hx hB4) (by omega) hx0).mono ?_)
 rintro e w5 ⟨NB,nb,BA,bc,K,M,rfl,hK,hM,hDR,hb5⟩
 refine ⟨_,rfl,?_⟩
 have hbb := Ab hbb hb5
 have hbg := Ab hbg hb5
 have hB5 := Ad hB4 hb5
 have hz5 := hB5.size
 have hdo : ((n.minQ K).num M).Ok := KB (KG hn hn5 hK) hM
 have hMK := min_le hn hn5 hK hM
 have hK32 := KK hn hn5 hK
 have hacc := min_acc hn hn5 hK hM
 have hdl : ((n.minQ K).num M).next.length = M := Fb
 have hdv : ((n.minQ K).num M).vars = n.vars := rfl
 have hrows : ∀ r ∈ ((n.minQ K).num M).next,r.length ≤ 64 := fun r hr => by
  have h1 : r.length = 2 ^ n.vars := (hdo.rows r hr).1
  have h64 : 2 ^ n.vars ≤ 64 := Nat.pow_le_pow_right (n := 2) (by decide) hn.v
  omega
 generalize hd : (n.minQ K).num M = d at *
 clear hb5 hG4
 refine mv G<|oex G G<|oex G G<|oal (v := .agg #[.int .i64 0,.int .i64 0,.slice none 0 0,.slice none 0 0]) (cs := [.int .i64 0,.int .i64 0,.slice none 0 0,.slice none 0 0]) (fun _ => by kernel_rfl) G ?_
 intro r9 w6 hr9e hr9 hb6
 refine Bo (vs := d.vals NB BA nb bc) S35 G G G (by simp [Value.oneCell']) hr9 (by simp) ?_
 intro w7 hr9 hg7
 have hr9 : w7.heap[r9]? = some (.cells (d.vals NB BA nb bc).toArray 35 (0,0)) := hr9
 have hb7 : Below w5.heap.size w5 w7 := hb6.grown hg7 hb6.size (fun k e => by cases e; omega)
 have hDR := hDR.below hb7
 have hB7 := Ad hB5 hb7
 have hbb := Ab hbb hb7
 have hbg := Ab hbg hb7
 have hG7 := hG.below hB7
 clear hb6 hg7 hb7 hB5
 refine ab G<|AV (vs := n.vals SA FA EA cs cf ce) G25 S25 G (Ak hbb)<|cl C7 [] G ((Lj n hn hn5 SA FA EA cs cf ce w7 (hNR.below hB7) hG7).mono ?_)
 rintro e w8 ⟨NA,nc,DA,dc,LA,lc,K',rfl,hK',hDR',hLC,hb8⟩
 obtain rfl : K = K' := DK hK hK'
 refine ⟨_,rfl,?_⟩
 refine mv G<|oex G G<|oex G G<|oex G G<|oal (v := .agg #[.int .i64 0,.int .i64 0,.slice none 0 0,.slice none 0 0]) (cs := [.int .i64 0,.int .i64 0,.slice none 0 0,.slice none 0 0]) (fun _ => by kernel_rfl) G ?_
 intro r11 w9 hr11e hr11 hb9
 refine Bo (vs := (n.det K).vals NA DA nc dc) S35 G G G (by simp [Value.oneCell']) hr11 (by simp) ?_
 intro w10 hr11 hg10
 have hr11 : w10.heap[r11]? = some (.cells ((n.det K).vals NA DA nc dc).toArray 35 (0,0)) := hr11
 have hb10 : Below w8.heap.size w8 w10 := hb9.grown hg10 hb9.size (fun k e => by cases e; omega)
 have hDR' := hDR'.below hb10
 have hb810 := Ad hb8 hb10
 have hDR := hDR.below hb810
 have hr9 := Ab hr9 hb810
 have hB10 := Ad hB7 hb810
 have hbb := Ab hbb hb810
 have hbg := Ab hbg hb810
 have hG10 := hG7.below hb810
 clear hb8 hb9 hg10 hb10 hb810 hLC hB7 hG7
 refine asl G<|ai G<|AV (vs := (n.det K).vals NA DA nc dc) G35 S35 G (Ak hr11)<|cl C8 [] G ((min8d (n.det K) (GQ hn hn5 hK) NA DA nc dc w10 hDR' hG10).mono ?_)
 rintro e w11 ⟨MA,kc,MB,kd,M',rfl,hM',hDRM,hb11⟩
 obtain rfl : M = M' := DK hM hM'
 have hDRM : DR d w11 MA MB := hd ▸ hDRM
 have hev : (((n.det K).quo ((n.det K).rnd (n.det K).next.length)).num M).vals MA MB kc kd = d.vals MA MB kc kd := by rw [← hd]; rfl
 rw [hev]
 refine ⟨_,rfl,?_⟩
 refine mv G<|oex G G<|oex G G<|oal (v := .agg #[.int .i64 0,.int .i64 0,.slice none 0 0,.slice none 0 0]) (cs := [.int .i64 0,.int .i64 0,.slice none 0 0,.slice none 0 0]) (fun _ => by kernel_rfl) G ?_
 intro r14 w12 hr14e hr14 hb12
 refine Bo (vs := d.vals MA MB kc kd) S35 G G G (by simp [Value.oneCell']) hr14 (by simp) ?_
 intro w13 hr14 hg13
 have hr14 : w13.heap[r14]? = some (.cells (d.vals MA MB kc kd).toArray 35 (0,0)) := hr14
 have hb13 : Below w11.heap.size w11 w13 := hb12.grown hg13 hb12.size (fun k e => by cases e; omega)
 have hDRM := hDRM.below hb13
 have hb113 := Ad hb11 hb13
 have hDR := hDR.below hb113
 have hr9 := Ab hr9 hb113
 have hB13 := Ad hB10 hb113
 have hbb := Ab hbb hb113
 have hbg := Ab hbg hb113
 have hG13 := hG10.below hb113
 clear hb11 hb12 hg13 hb13 hb113 hDR' hr11 hev hG10 hB10
 refine ai G<|?_
 have hc2 : w13.cell? ⟨r9,0 + 2,none⟩ = some (.slice NB d.next.length nb) := (Ac hr9 2).trans rfl
 have hKs : (n.subs K).length = K := hK
 refine mb G<|ont G<|mb G<|gon G<|mi G<|gon G<|one G G<|isf (by omega)<|pfb G G<|mb G<|gon G<|mi G<|gon G<|one G G<|isf (by omega)<|pfb G G<|mb G<|gon G<|ofa Bz G<|gon G<|old G27 G ‹_›<|gon G<|oln U27 G<|gon G<|ms G<|gon G<|oln U27 G<|?_
 refine gon G<|ogt G G<|isf (by omega) ?_
 refine pfb G G<|mb G<|gon G<|AV (vs := d.vals NB BA nb bc) G35 S35 G (Ak hr9)<|gon G<|AV (vs := d.vals MA MB kc kd) G35 S35 G (Ak hr14) ?_
 have he9 := KJ d d hdo.n hrows (by rw [hdo.f]; exact hdo.n) NB BA MA MB nb bc kc kd w13 hDR hDRM
 rw [decide_eq_true (show d.vars = d.vars ∧ d.start = d.start ∧ d.next = d.next ∧ d.fin = d.fin from ⟨rfl,rfl,rfl,rfl⟩)] at he9
 refine gon G<|cl C9 [] G (he9.mono ?_)
 rintro e w14 ⟨rfl,hb14⟩
 refine ⟨_,rfl,?_⟩
 have hr9 := Ab hr9 hb14
 have hDR := hDR.below hb14
 have hB14 := Ad hB13 hb14
 have hbb := Ab hbb hb14
 have hbg := Ab hbg hb14
 clear hb14 hDRM hr14 hG13 hB13 hc2
 refine gon G<|ont G<|pfb G G<|cdf G<|AV (vs := n.vals SA FA EA cs cf ce) G25 S25 G (Ak hbb)<|ms G<|cl C10 [] G ((HL n hn SA FA EA cs cf ce YA yc ys w14 (hNR.below hB14) (Kd.C_below hy hB14) (by omega) hyb).mono ?_)
 rintro e w15 ⟨hb15,hor⟩
 obtain ⟨bb,code,rfl,hbc⟩ : ∃ bb code,e = .returned (.tuple #[.bool bb,.int .i64 code]) ∧ ((ys.any (Cn n.vars) = true ∧ bb = false ∧ code = 1) ∨ (ys.any (Cn n.vars) = false ∧ bb = decide (n.run ys &&& AR n.fin ≠ 0) ∧ code = 0)) := by
  rcases hor with ⟨h1,h2⟩ | ⟨h1,h2⟩
  ·exact ⟨_,_,h2,.inl ⟨h1,rfl,rfl⟩⟩
  ·exact ⟨_,_,h2,.inr ⟨h1,rfl,rfl⟩⟩
 clear hor
 refine ⟨_,rfl,?_⟩
 have hr9 := Ab hr9 hb15
 have hDR := hDR.below hb15
 have hB15 := Ad hB14 hb15
 have hbb := Ab hbb hb15
 have hbg := Ab hbg hb15
 clear hb15 hB14
 refine mv G<|oex G G<|oex G G<|ab G<|ai G<|AV (vs := d.vals NB BA nb bc) G35 S35 G (Ak hr9)<|ms G<|cl C11 [] G ((accepts11 d hdo NB BA nb bc YA yc ys w15 hDR (Kd.C_below hy hB15) (by omega) hyb).mono ?_)
 rintro e w16 ⟨hb16,hor⟩
 rw [hdv] at hor
 obtain rfl : e = .returned (.tuple #[.bool bb,.int .i64 code]) := by
  rcases hor with ⟨h1,h2⟩ | ⟨h1,h2⟩
  ·rcases hbc with ⟨_,rfl,rfl⟩ | ⟨h3,_,_⟩
   ·exact h2
   ·rw [h1] at h3; cases h3
  ·rcases hbc with ⟨h3,_,_⟩ | ⟨_,rfl,rfl⟩
   ·rw [h1] at h3; cases h3
   ·rw [← hacc ys (H0 h1 hyb)]; exact h2
 clear hor hbc
 refine ⟨_,rfl,?_⟩
 have hr9 := Ab hr9 hb16
 have hDR := hDR.below hb16
 have hB16 := Ad hB15 hb16
 have hbb := Ab hbb hb16
 have hbg := Ab hbg hb16
 clear hb16 hB15
 refine mv G<|oex G G<|oex G G<|ab G<|ai G<|mi G<|mi G<|one G G<|isf (fun h => h G)<|mb G<|gon G<|mb G<|gon G<|mb G<|gon G<|obn Ub G G ?_
 rw [show (bb != bb) = false by cases bb <;> rfl]
 refine pfb G G<|cdf G<|AV (vs := d.vals NB BA nb bc) G35 S35 G (Ak hr9)<|cl C12 [] G ((EH d hdo NB BA nb bc w16 hDR).mono ?_)
 rintro e w17 ⟨hb17,hor⟩
 obtain ⟨l,LA',lc',fnd,rfl,hLC,hfn,hls⟩ : ∃ (l : List Int) (LA' : Option Addr) (lc' : Nat) (fnd : Bool),e = .returned (.tuple #[.slice LA' l.length lc',.bool fnd,.int .i64 0]) ∧ (Kd.int .u8).C w17 LA' l.length l ∧ d.shortest.isNone = !fnd ∧ ((fnd = false ∧ l = []) ∨ (fnd = true ∧ d.shortest = some l)) := by
  rcases hor with ⟨h1,h2⟩ | ⟨l,A,c,h1,h2,h3⟩
  ·exact ⟨[],none,0,false,h2,(Kd.R_reads' (Kd.R_nil (Kd.int .u8) 5 w17 0 (fun _ => True))).2.2,by rw [h1]; rfl,.inl ⟨rfl,rfl⟩⟩
  ·exact ⟨l,A,c,true,h2,h3,by rw [h1]; rfl,.inr ⟨rfl,h1⟩⟩
 clear hor
 refine ⟨_,rfl,?_⟩
 have hr9 := Ab hr9 hb17
 have hDR := hDR.below hb17
 have hB17 := Ad hB16 hb17
 have hbb := Ab hbb hb17
 have hbg := Ab hbg hb17
 clear hb17 hB16
 refine mv G<|oex G G<|oex G G<|oex G G<|asl G<|ab G<|ai G<|AV (vs := d.vals NB BA nb bc) G35 S35 G (Ak hr9)<|cl C13 [] G ((empty13 d hdo NB BA nb bc w17 hDR).mono ?_)
 rintro e w18 ⟨hb18,rfl⟩
 rw [hfn]
 refine ⟨_,rfl,?_⟩
 have hLC := Kd.C_below hLC hb18
 have hr9 := Ab hr9 hb18
 have hDR := hDR.below hb18
 have hB18 := Ad hB17 hb18
 have hbb := Ab hbb hb18
 have hbg := Ab hbg hb18
 clear hb18 hB17 hfn
 refine mv G<|oex G G<|oex G G<|ab G<|ai G<|mi G<|one G G<|isf (by omega)<|mb G<|gon G<|mi G<|gon G<|one G G<|isf (by omega)<|pfb G G<|mb G<|gon G<|mb G<|gon G<|mb G<|?_
 refine gon G<|obq Ub G G ?_
 rw [show (fnd == !fnd) = false by cases fnd <;> rfl]
 refine pfb G G<|cdf G ?_
 have hlw : De n.vars l ∧ l.length < d.next.length ∧ (fnd = true → d.acc (d.run l) = true) ∧ (fnd = true → ∀ u,De n.vars u → u.length < l.length → d.acc (d.run u) = false) := by
  rcases hls with ⟨rfl,rfl⟩ | ⟨rfl,h⟩
  ·have h1 := hdo.s
   exact ⟨(fun x hm => by cases hm),(by show 0 < _; omega),(fun h => by cases h),(fun h => by cases h)⟩
  ·obtain ⟨h1,h2,h3,h4⟩ := shortest_some hdo h
   rw [hdv] at h1 h4
   exact ⟨h1,h3,fun _ => h2,fun _ => h4⟩
 obtain ⟨hle,hll,hla,hlm⟩ := hlw
 have h64 : 2 ^ n.vars ≤ 64 := Nat.pow_le_pow_right (n := 2) (by decide) hn.v
 have hlb : ∀ x ∈ l,0 ≤ x ∧ x ≤ 255 := fun x hm => by have := hle x hm; omega
 have hlg : l.any (Cn n.vars) = false := by
  rw [List.any_eq_false]
  intro x hm
  have := hle x hm
  unfold Cn
  rw [decide_eq_true_eq]
  omega
 refine AV (vs := n.vals SA FA EA cs cf ce) G25 S25 G (Ak hbb)<|ms G<|cl C10 [] G ((HL n hn SA FA EA cs cf ce LA' lc' l w18 (hNR.below hB18) hLC (by omega) hlb).mono ?_)
 rintro e w19 ⟨hb19,hor⟩
 obtain ⟨bq,rfl,hbq⟩ : ∃ bq,e = .returned (.tuple #[.bool bq,.int .i64 0]) ∧ (fnd = true → bq = true) := by
  rcases hor with ⟨h1,_⟩ | ⟨_,h2⟩
  ·rw [hlg] at h1; cases h1
  ·exact ⟨_,h2,fun h => by rw [← hacc l hle]; exact hla h⟩
 clear hor
 refine ⟨_,rfl,?_⟩
 have hLC := Kd.C_below hLC hb19
 have hDR := hDR.below hb19
 have hr9 := Ab hr9 hb19
 have hB19 := Ad hB18 hb19
 have hbg := Ab hbg hb19
 clear hb19 hB18 hbb
 refine mv G<|oex G G<|oex G G<|ab G<|ai G<|?_
 have hc2 : w19.cell? ⟨r9,0 + 2,none⟩ = some (.slice NB d.next.length nb) := (Ac hr9 2).trans rfl
 refine cut (σ := Unit) (fun _ => [(2,.slice XA xs.length xc),(5,.pointer (some ⟨bg,0,none⟩)),(9,.pointer (some ⟨r9,0,none⟩)),(18,.slice LA' l.length lc'),(19,.bool fnd)]) (fun _ V => w19 = V) (by repeat' (first | exact BB | exact BD | exact Bl | refine Bi ?_ ?_ | refine Bk ?_ | refine Bj ?_ | refine AX _ ?_)) ?_ ?_
 ·cases hf : fnd with
  | false =>
   refine mb G<|mb G<|gof G<|gof G<|gof G<|gof G<|gof G<|gof G<|gof G<|gof G<|gof G<|gof G<|gof G<|gof G<|gof G<|gof G<|pfb G G<|cdf G ?_
   exact ⟨(),⟨rfl,rfl,rfl,rfl,rfl,rfl⟩,rfl⟩
  | true =>
   have hbq := hbq hf
   subst hbq
   refine mb G<|mb G<|gon G<|mi G<|gon G<|one G G<|isf (by omega)<|gon G<|mb G<|gon G<|mb G<|gon G<|ont G<|gon G<|pfb G G<|gon G<|mb G<|gon G<|ms G<|gon G<|oln U26 G<|gon G<|ofa Bz G<|gon G<|old G27 G ‹_›<|gon G<|oln U27 G<|?_
   refine gon G<|oge G G<|isf (by omega) ?_
   refine gon G<|pfb G G<|ptb G G<|cdf G ?_
   exact ⟨(),⟨rfl,rfl,rfl,rfl,rfl,rfl⟩,rfl⟩
 rintro _ f w19 rfl
 refine ai G<|?_
 clear hbq hla hc2 hlb hlg
 refine lp (σ := Nat) (fun k => [(2,.slice XA xs.length xc),(5,.pointer (some ⟨bg,0,none⟩)),(9,.pointer (some ⟨r9,0,none⟩)),(18,.slice LA' l.length lc'),(19,.bool fnd),(23,.int .i64 (k : Nat))])
  (fun k V => k ≤ l.length ∧ Below w19.heap.size w19 V) (fun k => l.length - k) 0 ⟨rfl,rfl,rfl,rfl,rfl,rfl,rfl⟩ ⟨Nat.zero_le _,Below.refl _ _⟩ ?_
 rintro k f V ⟨hk,hbV⟩
 refine mi G<|ms G<|oln U26 G<|?_
 by_cases hkl : k < l.length
 ·have hf : fnd = true := by
   rcases hls with ⟨_,rfl⟩ | ⟨h,_⟩
   ·cases hkl
   ·exact h
  subst hf
  have hr9 := Ab hr9 hbV
  refine olt G G<|ist (by omega) ?_
  refine mb G<|gon G<|mb G<|ptb G G<|cdt G<|AV (vs := d.vals NB BA nb bc) G35 S35 G (Ak hr9)<|mi G<|cl C14 [] G ((count14 d hdo NB BA nb bc k (by omega) V (hDR.below hbV)).mono ?_)
  rintro e V1 ⟨hb1,cc,rfl,hcc⟩
  obtain rfl := hcc (fun u h1 h2 => hlm rfl u (by rw [← hdv]; exact h1) (by omega))
  refine ⟨_,rfl,?_⟩
  refine mv G<|oex G G<|oex G G<|ai G<|ai G<|mi G<|one G G<|isf (by omega)<|mb G<|gon G<|mi G<|?_
  refine gon G<|one G G<|isf (by omega) ?_
  refine pfb G G<|cdf G<|mi G<|oad G G (by first | assumption | omega)<|ai G<|?_
  exact ⟨k + 1,⟨rfl,rfl,rfl,rfl,rfl,rfl,rfl⟩,⟨hkl,Ad hbV hb1⟩,by omega⟩
 ·refine olt G G<|isf (by omega) ?_
  refine mb G<|gof G<|pfb G G<|cdf G ?_
  have hbg := Ab hbg hbV
  have hB := Ad hB19 hbV
  clear hbV hB19 hDR hr9 hLC hls hlm hle hll hacc hrows
  have hd0 : V.cell? ⟨bg,0 + 0,none⟩ = some (.slice OA g.own.length co) := (Ac hbg 0).trans rfl
  by_cases g1 : (g.own.length : Int) > 6
  ·refine ofa BQ G<|old G26 G ‹_›<|oln U26 G<|ogt G G<|ist g1<|mb G<|gof G<|gof G<|gof G<|ptb G G<|cdt G<|ab G<|?_
   exact rt1 rfl rfl ⟨rfl,hB⟩
  refine ofa BQ G<|old G26 G ‹_›<|oln U26 G<|ogt G G<|isf g1<|mb G<|gon G<|AV (vs := gsl g OA PA UA co cp cu) G29 S29 G (Ak hbg)<|gon G<|cl C15 [] G ((check15 g V OA PA UA co cp cu (hgr.below hB) hown).mono ?_)
  rintro e W1 ⟨code,rfl,hF,hb1⟩
  have hbg := Ab hbg hb1
  have hB1 := Ad hB hb1
  refine ⟨_,rfl,?_⟩
  by_cases g2 : code ≠ 0
  ·refine gon G<|one G G<|ist g2<|pfb G G<|cdt G<|ab G<|?_
   exact rt1 rfl rfl ⟨rfl,hB1⟩
  refine gon G<|one G G<|isf g2<|pfb G G<|cdf G ?_
  have hF := hF (by omega)
  have h6 : g.own.length ≤ 6 := by omega
  clear hd0 hb1 hB g1 g2
  have hz1 := hB1.size
  refine AV (vs := gsl g OA PA UA co cp cu) G29 S29 G (Ak hbg)<|cl C16 [] G ((Jv g hF OA PA UA co cp cu W1 (hgr.below hB1)).mono ?_)
  rintro e W2 ⟨j,p,OA',PA',SA',co',cp',cS',gm,mc,dn,rfl,hj,hjw,hM0,hdn,hb2⟩
  refine ⟨_,rfl,?_⟩
  refine mv G<|oex G G<|oex G G<|ap G<|ai G<|mi G<|one G G<|isf (by omega)<|?_
  refine cdf G ?_
  have hB2' := Ad hB1 hb2
  refine mp G<|ms G<|cl C17 [] G ((EM (svG g hF (by omega)) W1.heap.size XA xc xs j p W1.heap.size W2 hj (Nat.le_refl _) hjw ⟨OA',PA',SA',co',cp',cS',gm,mc,_,dn,hM0,hdn,rfl⟩ (hG.below hB2') (by omega) (fun V hV => Kd.C_below (Kd.C_below hx hB1) (hb2.trans hV)) (by omega) hx0 (fun u s h => by have := nxM_end hF h6 u s h; omega)).mono ?_)
  rintro e W3 ⟨j2,p2,u2,B2,ρ,rfl,hj2,hBz2,hBj2,⟨OA2,PA2,SA2,co2,cp2,cS2,gm2,mc2,mz,dn2,hM2,hdn2,rfl⟩,hit2,hnx2,hb3⟩
  have hb13 := hb2.trans hb3
  have hB3' := Ad hB1 hb13
  have hbg := Ab hbg hb13
  clear hb2 hb3 hb13 hj hM0 hB2' hB1
  refine ⟨_,rfl,?_⟩
  refine mv G<|oex G G<|oex G G<|ap G<|ab G<|mp G<|cl C18 [] G ((result18G g hF B2 j2 p2 u2 gm2 mc2 co2 cp2 cS2 OA2 PA2 SA2 mz dn2 W3 hj2 hM2).mono ?_)
  rintro e W4 ⟨CB,cb,rfl,hC,hb4⟩
  have hml := hM2.hl
  have hgd := hM2.good
  have hCC := (Kd.R_reads' hC).2.2
  have hbg := Ab hbg hb4
  have hB4' := Ad hB3' hb4
  refine ⟨_,rfl,?_⟩
  refine pl (.slice CB g.own.length cb) (fun _ => by kernel_rfl)<|asl G<|?_
  clear hC hb4 hj2 hM2 hdn2 hB3'
  refine AV (vs := gsl g OA PA UA co cp cu) G29 S29 G (Ak hbg)<|cl C19 [] G ((solve19 g W4 OA PA UA co cp cu (hgr.below hB4') hF).mono ?_)
  rintro e W5 ⟨WA,wc,SB,sc,z0,z1,rfl,hz1l,hWA,hb5,hall,hc0,hc1⟩
  refine ⟨_,rfl,?_⟩
  refine mv G<|oex G G<|oex G G<|oal (v := .agg #[.slice none 0 0,.slice none 0 0]) (cs := [.slice none 0 0,.slice none 0 0]) (fun _ => by kernel_rfl) G ?_
  intro r28 W6 hr28e hr28 hb6
  refine Bo (vs := [.slice WA g.own.length wc,.slice SB g.own.length sc]) S63 G G G (by simp [Value.oneCell']) hr28 (by simp) ?_
  intro W7 hr28 hg7
  have hr28 : W7.heap[r28]? = some (.cells [.slice WA g.own.length wc,.slice SB g.own.length sc].toArray 63 (0,0)) := hr28
  have hb7 : Below W5.heap.size W5 W7 := hb6.grown hg7 hb6.size (fun k e => by cases e; omega)
  have hb47 := Ad hb5 hb7
  have hWA := Kd.C_below hWA hb7
  have hCC := Kd.C_below hCC hb47
  have hB7' := Ad hB4' hb47
  have hbg := Ab hbg hb47
  clear hb5 hb6 hg7 hb7 hb47 hB4'
  refine ai G<|?_
  have hd0 : W7.cell? ⟨bg,0 + 0,none⟩ = some (.slice OA g.own.length co) := (Ac hbg 0).trans rfl
  have hw0 : W7.cell? ⟨r28,0 + 0,none⟩ = some (.slice WA g.own.length wc) := (Ac hr28 0).trans rfl
  refine mb G<|ont G<|mb G<|gon G<|mi G<|gon G<|one G G<|isf (by omega)<|pfb G G<|mb G<|gon G<|ms G<|gon G<|oln U58 G<|gon G<|ofa BQ G<|gon G<|old G26 G ‹_›<|gon G<|oln U26 G<|gon G<|one G G<|isf (by omega)<|pfb G G<|mb G<|gon G<|ofa J6 G<|gon G<|old G26 G ‹_›<|gon G<|oln U26 G<|gon G<|ofa BQ G<|gon G<|old G26 G ‹_›<|gon G<|oln U26 G<|gon G<|one G G<|isf (by omega)<|pfb G G<|?_
  refine cdf G<|ai G<|?_
  clear hd0 hw0 hbg
  refine lp (σ := Nat) (fun k => [(27,.slice CB g.own.length cb),(28,.pointer (some ⟨r28,0,none⟩)),(29,.int .i64 (k : Nat))])
   (fun k V => k ≤ g.own.length ∧ Below W7.heap.size W7 V) (fun k => g.own.length - k) 0 ⟨rfl,rfl,rfl,rfl⟩ ⟨Nat.zero_le _,Below.refl _ _⟩ ?_
  rintro k f V1 ⟨hk,hbV⟩
  refine mi G<|ms G<|oln U58 G<|olt G G<|cdd G (fun hlt => ?_) (fun hge => ?_)
  ·have hkl : k < g.own.length := Int.ofNat_lt.1 hlt
   obtain ⟨m,hm⟩ : ∃ m,mz[k]? = some m := ⟨_,gE (by omega)⟩
   have hwl : (win z1).length = g.own.length := by rw [← hz1l]; exact List.length_map ..
   obtain ⟨x,hxk⟩ : ∃ x,(win z1)[k]? = some x := ⟨_,gE (by omega)⟩
   have htop := tops_win hF hit2 hnx2 hml hgd hall hc0 hc1 hz1l hm hxk
   rw [hml] at hCC
   obtain ⟨ad,rfl,hcell⟩ := Me.row hCC hm
   obtain ⟨adW,rfl,hcW⟩ := Au hWA hxk
   refine drt mixed 11 (by kernel_rfl) ?_
   intro V2 hb2 _ _
   have hbV := Ad hbV hb2
   have hm0 : V2.cell? ((ad.add (k * 9)).add 0) = some (.bool m.top) := Ae hbV (hcell 0 _ rfl)
   have hw0 : V2.cell? ⟨r28,0 + 0,none⟩ = some (.slice (some adW) g.own.length wc) := (Ac (Ab hr28 hbV) 0).trans rfl
   have hx0 : V2.cell? (adW.add (k * 1)) = some (.int .u8 x) := Ae hbV hcW
   refine spu (ms_ G)<|spu (mi_ G)<|spu (AU U58 Z68 G G (by first | assumption | omega))<|?_
   refine spu (K4 DP G)<|sru (Ai G4 G ‹_›)<|spu (AQ J6 G)<|sru (Ai G26 G ‹_›)<|spu (mi_ G)<|spu (AU U26 Z5 G G (by first | assumption | omega))<|sru (Ai G5 G ‹_›)<|spu (Ly G G)<|?_
   refine obn Ub G G ?_
   rw [show (m.top != decide (x = 1)) = false by rw [htop]; cases decide (x = 1) <;> rfl]
   refine cdf G<|mi G<|oad G G (by first | assumption | omega)<|ai G<|?_
   exact ⟨k + 1,⟨rfl,rfl,rfl,rfl⟩,⟨hkl,hbV⟩,by omega⟩
  ·refine ab G<|?_
   exact rt1 rfl rfl ⟨rfl,Ad hB7' hbV⟩
end
end Go.Proofs.YtmjllchdhcdinaaGreatDoor

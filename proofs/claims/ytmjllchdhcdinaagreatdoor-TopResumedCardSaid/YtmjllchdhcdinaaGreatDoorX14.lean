/- Part of the proof: W2 W3 W4 W5 W6 W8 W7 Q1. -/
import Derived.Test.YtmjllchdhcdinaaGreatDoorX13
set_option linter.unusedVariables false
set_option linter.unusedSimpArgs false
set_option maxRecDepth 100000
set_option maxHeartbeats 8000000
namespace Go.Proofs.YtmjllchdhcdinaaGreatDoor
section
open Go Fm Go.RowKit Go.Proofs.YtmjllchdhcdinaaGreatDoorW.PrintWords
def E0 (N k : Nat) (g : Nat → Int) : List Int := (List.range N).map fun q => if q < k then g q else 0
theorem EZ (N k : Nat) (g : Nat → Int) : (E0 N k g).length = N := by simp [E0]
theorem HP {N k q : Nat} {g : Nat → Int} (hq : q < N) : (E0 N k g)[q]? = some (if q < k then g q else 0) := by
 unfold E0
 rw [List.getElem?_map,List.getElem?_range hq]
 rfl
theorem Hh (N : Nat) (g : Nat → Int) : E0 N 0 g = List.replicate N 0 := by
 apply List.ext_getElem?
 intro i
 by_cases hi : i < N
 ·rw [HP hi]; simp [hi]
 ·rw [List.getElem?_eq_none (by rw [EZ]; omega),List.getElem?_eq_none (by simp; omega)]
theorem Il (N : Nat) (g : Nat → Int) : E0 N N g = (List.range N).map g := by
 unfold E0
 apply List.map_congr_left
 intro q hq
 rw [if_pos (List.mem_range.1 hq)]
theorem Ik {N k : Nat} {g : Nat → Int} (hk : k < N) : (E0 N k g).set k (g k) = E0 N (k + 1) g := by
 apply List.ext_getElem?
 intro i
 rw [List.getElem?_set]
 by_cases hi : i < N
 ·rw [EZ,HP hi,HP hi]
  by_cases h : k = i
  ·subst h; rw [if_pos rfl,if_pos hk,if_pos (by omega)]
  ·rw [if_neg h]
   by_cases h2 : i < k
   ·rw [if_pos h2,if_pos (by omega)]
   ·rw [if_neg h2,if_neg (by omega)]
 ·rw [List.getElem?_eq_none (by rw [EZ]; omega),List.getElem?_eq_none (by rw [EZ]; omega),if_neg (by omega)]
theorem tabL_same {N k : Nat} {g : Nat → Int} (h : g k = 0) : E0 N k g = E0 N (k + 1) g := by
 unfold E0
 apply List.map_congr_left
 intro q _
 by_cases h1 : q < k
 ·rw [if_pos h1,if_pos (by omega)]
 ·rw [if_neg h1]
  by_cases h2 : q < k + 1
  ·rw [if_pos h2,show q = k by omega,h]
  ·rw [if_neg h2]
def Df.cls0 (d : Df) (q : Nat) : Nat := if d.finO q = d.finO 0 then 0 else 1
def Df.begin (d : Df) : List Nat := (List.range d.next.length).map d.cls0
theorem IC {N : Nat} (g : Nat → Nat) : Bt ((List.range N).map g) = (List.range N).map fun q => ((g q : Nat) : Int) := by simp [Bt]
theorem Ge {d : Df} {q : Nat} (hd : d.Ok) (hq : q < d.next.length) : d.fin[q]? = some (d.finO q) := by
 have h : q < d.fin.length := by rw [hd.f]; exact hq
 unfold Df.finO
 rw [gD,gE h]
 rfl
theorem begin117 (d : Df) (hd : d.Ok) (NA FA : Option Addr) (nc fc : Nat) (w : World) (hr : DR d w NA FA) :
  Calls Tryz.prog 117 #[.agg (d.vals NA FA nc fc).toArray] w fun e w' => ∃ A c,e = .returned (.slice A d.next.length c) ∧ (Kd.int .i64).R 3 w' w.heap.size (fun _ => True) (.slice A d.next.length c) (Bt d.begin) ∧ Below w.heap.size w w' := by
 have hn := hd.n
 have hs := hd.s
 refine enter 29 Tryz.func117 G G _ (by simp) ?_
 refine obx (cs := d.vals NA FA nc fc) G G ?_
 intro b w1 hbe hbb hb1
 have hc2 : w1.cell? ⟨b,0 + 2,none⟩ = some (.slice NA d.next.length nc) := (Ac hbb 2).trans rfl
 have hs1 := hb1.size
 refine asl G<|ofa Bz G<|old G27 G ‹_›<|oln U27 G<|omk (Kd.int .i64) U22 I3 G G 0 (fun _ => rfl) (by omega) G (by decide) (by decide) ?_
 intro A c w2 hR hb2
 obtain ⟨g,_,hv,_⟩ := Kd.R_form hR (by simp; omega)
 injection hv with hv _ _
 subst hv
 have hB := Ad hb1 hb2
 have hbb := Ab hbb hb2
 rw [← Hh d.next.length (fun q => (d.cls0 q : Nat))] at hR
 have hR := Kd.R_lower hR hs1
 refine asl G<|ms G<|oln U22 G<|mi G<|lp (σ := Nat) (fun k => [(1,.pointer (some ⟨b,0,none⟩)),(3,.slice (some ⟨g,0,none⟩) d.next.length c),(10,.int .i64 (d.next.length : Nat)),(11,.int .i64 k)])
  (fun k V => k ≤ d.next.length ∧ Below w.heap.size w V ∧ V.heap[b]? = some (.cells (d.vals NA FA nc fc).toArray 35 (0,0)) ∧ (Kd.int .i64).R 3 V w.heap.size (fun _ => True) (.slice (some ⟨g,0,none⟩) d.next.length c) (E0 d.next.length k (fun q => (d.cls0 q : Nat)))) (fun k => d.next.length - k) 0 ⟨rfl,rfl,rfl,rfl,rfl⟩ ⟨Nat.zero_le _,hB,hbb,hR⟩ ?_
 clear hB hbb hR hc2
 rintro k f V ⟨hk,hB,hbb,hR⟩
 refine olt G G<|cdd G (fun hlt => ?_) (fun hge => ?_)
 ·have hkl : k < d.next.length := Int.ofNat_lt.1 hlt
  obtain ⟨adf,rfl,hcf⟩ := Au (Kd.C_below hr.fin hB) (Ge hd hkl)
  obtain ⟨adf',he,hcf0⟩ := Au (Kd.C_below hr.fin hB) (Ge hd (show 0 < d.next.length by omega))
  injection he with he
  subst he
  have hfl := hd.f
  refine mi G<|ai G<|drt mixed 9 (by kernel_rfl) ?_
  intro V1 hb1 _ _
  have hB1 := Ad hB hb1
  have hbb1 := Ab hbb hb1
  have hR1 := Kd.R_below hR hb1
  have hcf := Ae hb1 hcf
  have hcf0 := Ae hb1 hcf0
  have hc3 : V1.cell? ⟨b,0 + 3,none⟩ = some (.slice (some adf) d.fin.length fc) := (Ac hbb1 3).trans rfl
  refine spu (AQ BP G)<|sru (Ai G33 G ‹_›)<|spu (mi_ G)<|spu (AU U33 Z4 G G (by first | assumption | omega))<|sru (Ai G4 G ‹_›)<|spu (AQ BP G)<|sru (Ai G33 G ‹_›)<|?_
  refine spu (Ki (i := 0) U33 Z4 G G (by omega))<|?_
  refine sru (Ai G4 G ‹_›)<|obn (by kernel_rfl) G G ?_
  cases hne : (d.finO k != d.finO 0) with
  | true =>
   have h1 : d.cls0 k = 1 := by unfold Df.cls0; rw [if_neg (by simpa using hne)]
   refine cdt G<|ms G<|mi G<|AD U22 Z3 G G (by first | assumption | omega)<|?_
   refine CG (enc := fun x => Value.int .i64 x) (h1 := fun _ => rfl) (k := k) (z := ((d.cls0 k : Nat) : Int)) S3 hR1 hkl G (by rw [h1]; rfl) ?_
   intro V2 hR2 hg2
   rw [Ik (g := fun q => ((d.cls0 q : Nat) : Int)) hkl] at hR2
   obtain ⟨cells,hgc⟩ := Kd.R_typed hR1 g rfl
   refine oad G G (by first | assumption | omega)<|mi G<|?_
   exact ⟨k + 1,⟨rfl,rfl,rfl,rfl,rfl⟩,⟨hkl,hB1.grown hg2 hB1.size (fun j e => by cases e; exact Kd.R_base hR1 g rfl),(hg2.block b (Am hbb1) (fun e => An hbb1 hgc (by decide) (by injection e))).trans hbb1,hR2⟩,by omega⟩
  | false =>
   have h1 : d.cls0 k = 0 := by unfold Df.cls0; rw [if_pos (by simpa using hne)]
   refine cdf G ?_
   rw [tabL_same (g := fun q => ((d.cls0 q : Nat) : Int)) (by rw [h1]; rfl)] at hR1
   refine oad G G (by first | assumption | omega)<|mi G<|?_
   exact ⟨k + 1,⟨rfl,rfl,rfl,rfl,rfl⟩,⟨hkl,hB1,hbb1,hR1⟩,by omega⟩
 ·have : k = d.next.length := by omega
  rw [this,Il,← IC] at hR
  refine ms G<|asl G<|?_
  exact rt1 rfl rfl ⟨_,_,rfl,hR,hB⟩
theorem GP (A B : Option Addr) (ca cb : Nat) (l m : List Int) (w : World) (hl : (Kd.int .i64).C w A l.length l) (hm : (Kd.int .i64).C w B m.length m) (hb : l.length ≤ 1000000) :
  Calls Tryz.prog 119 #[.slice A l.length ca,.slice B m.length cb] w fun e w' => e = .returned (.bool (decide (l = m))) ∧ Below w.heap.size w w' := by
 refine enter 26 Tryz.func119 G G _ (by simp) ?_
 refine ab G<|ms G<|oln U22 G<|ms G<|oln U22 G<|one G G<|cdd G (fun h => ?_) (fun h => ?_)
 ·have hne : ¬ l = m := fun e => h (by rw [e])
  rw [decide_eq_false hne]
  refine ab G<|?_
  exact rt1 rfl rfl ⟨rfl,Below.refl _ _⟩
 ·have hlm : l.length = m.length := by
   by_cases e : l.length = m.length
   ·exact e
   ·exact absurd (fun e' : (l.length : Int) = m.length => e (by omega)) h
  refine ms G<|oln U22 G<|mi G<|lp (σ := Nat) (fun k => [(0,.slice A l.length ca),(1,.slice B m.length cb),(12,.int .i64 l.length),(13,.int .i64 k)])
   (fun k V => k ≤ l.length ∧ Below w.heap.size w V ∧ l.take k = m.take k) (fun k => l.length - k) 0 ⟨rfl,rfl,rfl,rfl,rfl⟩ ⟨Nat.zero_le _,Below.refl _ _,rfl⟩ ?_
  rintro k f V ⟨hk,hB,heq⟩
  refine olt G G<|cdd G (fun hlt => ?_) (fun hge => ?_)
  ·have hkl : k < l.length := Int.ofNat_lt.1 hlt
   have hkm : k < m.length := by omega
   obtain ⟨x,hx⟩ : ∃ x,l[k]? = some x := ⟨_,gE hkl⟩
   obtain ⟨y,hy⟩ : ∃ y,m[k]? = some y := ⟨_,gE hkm⟩
   obtain ⟨ada,rfl,hca⟩ := Au hl hx
   obtain ⟨adb,rfl,hcb⟩ := Au hm hy
   have hca := Ae hB hca
   have hcb := Ae hB hcb
   have htl : l.take (k + 1) = l.take k ++ [x] := by rw [List.take_succ_eq_append_getElem hkl]; rw [gE hkl] at hx; injection hx with hx; rw [hx]
   have htm : m.take (k + 1) = m.take k ++ [y] := by rw [List.take_succ_eq_append_getElem hkm]; rw [gE hkm] at hy; injection hy with hy; rw [hy]
   refine mi G<|ai G<|drt mixed 8 (by kernel_rfl) ?_
   intro V1 hb1 _ _
   have hB1 := Ad hB hb1
   have hca := Ae hb1 hca
   have hcb := Ae hb1 hcb
   refine spu (ms_ G)<|spu (mi_ G)<|spu (AU U22 Z3 G G (by first | assumption | omega))<|sru (Ai G3 G ‹_›)<|spu (ms_ G)<|spu (mi_ G)<|spu (AU U22 Z3 G G (by first | assumption | omega))<|sru (Ai G3 G ‹_›)<|?_
   refine one G G<|cdd G (fun hne => ?_) (fun hne => ?_)
   ·have h2 : ¬ l = m := fun e => by subst e; rw [hx] at hy; injection hy with hy; exact hne hy
    rw [decide_eq_false h2]
    refine ab G<|?_
    exact rt1 rfl rfl ⟨rfl,hB1⟩
   ·have hxy : x = y := Decidable.not_not.1 hne
    refine oad G G (by first | assumption | omega)<|mi G<|?_
    exact ⟨k + 1,⟨rfl,rfl,rfl,rfl,rfl⟩,⟨hkl,hB1,by rw [htl,htm,heq,hxy]⟩,by omega⟩
  ·have hkk : k = l.length := by omega
   have : l = m := by rw [hkk,List.take_length,hlm,List.take_length] at heq; exact heq
   rw [decide_eq_true this]
   refine ab G<|?_
   exact rt1 rfl rfl ⟨rfl,hB⟩
def FH (n : Nat) : List Int := (Lib.decDigits n).map fun b => ((b.toNat : Nat) : Int)
theorem HE (u : Nat) (h : u < 10000) : (Lib.decDigits u).length ≤ 4 := by
 unfold Lib.decDigits
 split
 ·simp
 ·unfold Lib.decDigits
  split
  ·simp
  ·unfold Lib.decDigits
   split
   ·simp
   ·unfold Lib.decDigits
    split
    ·simp
    ·omega
theorem KM (v : Value) (xs : List Int) (n B : Nat) (w : World) (hn : n < 10000) (hR : (Kd.int .u8).R 5 w B (fun _ => True) v xs) (hB : B ≤ w.heap.size) (hl : xs.length ≤ 100000) (hG : Glob w) (h2 : 2 < B) :
  Calls Tryz.prog 156 #[v,.int .i64 (n : Nat),.int .i64 10] w fun e w' => ∃ A c,e = .returned (.slice A (xs ++ FH n).length c) ∧ (Kd.int .u8).R 5 w' B (fun _ => True) (.slice A (xs ++ FH n).length c) (xs ++ FH n) ∧ Below B w w' ∧ Lib.OthersKept 5 none w w' := by
 refine (Tryz.strconv_AppendInt_10 B xs.length (n : Nat) (by omega) (by omega) v _ w (Kd.own_of_R hR) hB (by omega) (fun w' hw' => (hG.low hw' h2).pow)).mono ?_
 rintro e w' ⟨v',rfl,ho,hb,hk⟩
 rw [Lib.itoa_nonneg] at ho
 have hl2 : xs.length + (Lib.decDigits n).length = (xs ++ FH n).length := by simp [FH]
 have he : Ch (Value.int .u8) xs ++ Lib.byteCells (Lib.decDigits n) = Ch (Value.int .u8) (xs ++ FH n) := by simp [Ch,Lib.byteCells,FH]
 rw [hl2,he] at ho
 have hR' : (Kd.int .u8).R 5 w' B (fun _ => True) v' (xs ++ FH n) := Kd.R_of_own ho (fun _ _ => trivial)
 obtain ⟨A,c,rfl⟩ := Kd.R_slice hR'
 exact ⟨A,c,rfl,hR',hb,hk⟩
def Df.sig (d : Df) (p : List Nat) (k : Nat) : List Nat := p.getD k 0 :: (d.next.getD k []).map fun x => p.getD x.toNat 0
def CP (l : List Nat) : List UInt8 := l.flatMap fun b => 32 :: Lib.decDigits b
def Kb : List Nat → List UInt8
 | [] => []
 | a :: l => Lib.decDigits a ++ CP l
def DH (l : List Nat) : List Int := (Kb l).map fun b => ((b.toNat : Nat) : Int)
def HQ (l : List Nat) : ByteArray := strOfNums (DH l)
theorem dec_no32 (n : Nat) : ∀ b ∈ Lib.decDigits n,b ≠ 32 := by
 induction n using Nat.strongRecOn with
 | ind u ih =>
  unfold Lib.decDigits
  split
  ·intro b hb e
   rw [List.mem_singleton] at hb
   rw [hb] at e
   have := congrArg UInt8.toNat e
   rw [UInt8.toNat_ofNat'] at this
   have h32 : (32 : UInt8).toNat = 32 := rfl
   omega
  ·intro b hb e
   rcases List.mem_append.1 hb with h | h
   ·exact ih (u / 10) (by omega) b h e
   ·rw [List.mem_singleton] at h
    rw [h] at e
    have := congrArg UInt8.toNat e
    rw [UInt8.toNat_ofNat'] at this
    have h32 : (32 : UInt8).toNat = 32 := rfl
    omega
theorem JS (n : Nat) : Lib.decDigits n ≠ [] := by
 unfold Lib.decDigits
 split <;> simp
theorem dec_inj {m n : Nat} (h : Lib.decDigits m = Lib.decDigits n) : m = n := by rw [← Ez m,← Ez n,h]
theorem HD {a b : Nat} {x y : List UInt8} (hx : x = [] ∨ ∃ z,x = 32 :: z) (hy : y = [] ∨ ∃ z,y = 32 :: z) (h : Lib.decDigits a ++ x = Lib.decDigits b ++ y) : a = b ∧ x = y := by
 have tw : ∀ (n : Nat) (z : List UInt8),(z = [] ∨ ∃ u,z = 32 :: u) → (Lib.decDigits n ++ z).takeWhile (fun c => decide (c ≠ 32)) = Lib.decDigits n := by
  intro n z hz
  rw [List.takeWhile_append_of_pos (fun c hc => by simpa using dec_no32 n c hc)]
  rcases hz with rfl | ⟨u,rfl⟩
  ·simp
  ·simp
 have h1 := congrArg (List.takeWhile (fun c => decide (c ≠ 32))) h
 rw [tw a x hx,tw b y hy] at h1
 refine ⟨dec_inj h1,?_⟩
 rw [h1] at h
 exact List.append_cancel_left h
theorem EY (l : List Nat) : CP l = [] ∨ ∃ z,CP l = 32 :: z := by
 cases l with
 | nil => exact .inl rfl
 | cons a l => exact .inr ⟨_,rfl⟩
theorem Hg : ∀ l m : List Nat,CP l = CP m → l = m
 | [],[],_ => rfl
 | [],b :: m,h => by simp [CP] at h
 | a :: l,[],h => by simp [CP] at h
 | a :: l,b :: m,h => by
  have h2 : Lib.decDigits a ++ CP l = Lib.decDigits b ++ CP m := by
   have h3 : (32 :: Lib.decDigits a) ++ CP l = (32 :: Lib.decDigits b) ++ CP m := h
   exact List.tail_eq_of_cons_eq h3
  obtain ⟨e1,e2⟩ := HD (EY l) (EY m) h2
  rw [e1,Hg l m e2]
theorem sigB_inj {a b : Nat} {l m : List Nat} (h : Kb (a :: l) = Kb (b :: m)) : a :: l = b :: m := by
 obtain ⟨e1,e2⟩ := HD (EY l) (EY m) h
 rw [e1,Hg l m e2]
theorem sigK_inj {s t : List Nat} (hs : s ≠ []) (ht : t ≠ []) (h : HQ s = HQ t) : s = t := by
 have h2 : (HQ s).data.toList = (HQ t).data.toList := by rw [h]
 unfold HQ at h2
 rw [strOfNums_data,strOfNums_data] at h2
 have h3 : ∀ l : List UInt8,(l.map fun b => ((b.toNat : Nat) : Int)).map (fun n => UInt8.ofNat n.toNat) = l := by
  intro l
  rw [List.map_map]
  conv => rhs; rw [← List.map_id l]
  apply List.map_congr_left
  intro b _
  simp
 unfold DH at h2
 rw [h3,h3] at h2
 cases s with
 | nil => exact absurd rfl hs
 | cons a l =>
  cases t with
  | nil => exact absurd rfl ht
  | cons b m => exact sigB_inj h2
theorem Ir (a : Nat) : DH [a] = FH a := by simp [DH,Kb,CP,FH]
theorem sigT_snoc (a : Nat) (l : List Nat) (b : Nat) : DH (a :: l ++ [b]) = (DH (a :: l) ++ [32]) ++ FH b := by
 show DH (a :: (l ++ [b])) = _
 simp [DH,Kb,CP,FH,List.flatMap_append]
theorem tailB_len {l : List Nat} (h : ∀ b ∈ l,b < 10000) : (CP l).length ≤ 5 * l.length := by
 induction l with
 | nil => simp [CP]
 | cons a l ih =>
  have h1 := HE a (h a (List.mem_cons_self ..))
  have h2 := ih (fun b hb => h b (List.mem_cons_of_mem _ hb))
  have h3 : CP (a :: l) = (32 :: Lib.decDigits a) ++ CP l := rfl
  rw [h3,List.length_append,List.length_cons,List.length_cons]
  omega
theorem sigT_len {a : Nat} {l : List Nat} (ha : a < 10000) (h : ∀ b ∈ l,b < 10000) : (DH (a :: l)).length ≤ 4 + 5 * l.length := by
 unfold DH Kb
 rw [List.length_map,List.length_append]
 have := HE a ha
 have := tailB_len h
 omega
def EL {κ : Type} [DecidableEq κ] (o : List κ) (t : κ) : Nat := o.idxOf t
theorem Gc {κ : Type} [DecidableEq κ] {o : List κ} {t : κ} (h : t ∈ o) : EL o t < o.length := List.idxOf_lt_length_iff.2 h
def Df.ordS (d : Df) (p : List Nat) (k : Nat) : List (List Nat) := (List.range k).foldl (fun o j => BE o (d.sig p j)) []
def Df.clsR (d : Df) (p : List Nat) (k : Nat) : Nat := EL (d.ordS p (k + 1)) (d.sig p k)
def Df.refine (d : Df) (p : List Nat) : List Nat := (List.range d.next.length).map (d.clsR p)
theorem BJ (d : Df) (p : List Nat) (k : Nat) : d.ordS p (k + 1) = BE (d.ordS p k) (d.sig p k) := by
 unfold Df.ordS
 rw [List.range_succ,List.foldl_append]
 rfl
def Df.stR (d : Df) (p : List Nat) (q : List (List Nat) × List Int) (k : Nat) : List (List Nat) × List Int := (BE q.1 (d.sig p k),q.2.set k ((EL (BE q.1 (d.sig p k)) (d.sig p k) : Nat) : Int))
def Df.foR (d : Df) (p : List Nat) (ks : List Nat) : List (List Nat) × List Int := ks.foldl (d.stR p) ([],List.replicate d.next.length 0)
theorem GM (d : Df) (p : List Nat) (ks : List Nat) (k : Nat) : d.foR p (ks ++ [k]) = d.stR p (d.foR p ks) k := by unfold Df.foR; rw [List.foldl_append]; rfl
theorem foR_ne (d : Df) (p : List Nat) (ks : List Nat) : ∀ s ∈ (d.foR p ks).1,s ≠ [] := by
 have h : ∀ (ks : List Nat) (q : List (List Nat) × List Int),(∀ s ∈ q.1,s ≠ []) → ∀ s ∈ (ks.foldl (d.stR p) q).1,s ≠ [] := by
  intro ks
  induction ks with
  | nil => exact fun _ h => h
  | cons k ks ih =>
   intro q hq
   rw [List.foldl_cons]
   refine ih _ (fun s hs => ?_)
   rcases mem_insV.1 hs with h | h
   ·exact hq s h
   ·rw [h]; unfold Df.sig; simp
 exact h ks _ (by simp)
theorem Hy (d : Df) (p : List Nat) : ∀ k,k ≤ d.next.length → d.foR p (List.range k) = (d.ordS p k,E0 d.next.length k (fun q => (d.clsR p q : Nat)))
 | 0,_ => by unfold Df.foR; rw [Hh]; rfl
 | k + 1,h => by
  rw [List.range_succ,GM,Hy d p k (by omega)]
  unfold Df.stR
  simp only
  rw [← BJ,← Ik (g := fun q => ((d.clsR p q : Nat) : Int)) (by omega)]
  rfl
theorem foR_all (d : Df) (p : List Nat) : (d.foR p (List.range d.next.length)).2 = Bt (d.refine p) := by
 rw [Hy d p _ (Nat.le_refl _),Il]
 unfold Df.refine
 rw [IC]
theorem Iw (d : Df) (p : List Nat) : ∀ k,(d.ordS p k).length ≤ k
 | 0 => by simp [Df.ordS]
 | k + 1 => by
  rw [BJ]
  have := Iw d p k
  unfold BE
  split
  ·omega
  ·simp; omega
theorem clsR_lt (d : Df) (p : List Nat) (k : Nat) : d.clsR p k < k + 1 := by
 have h1 := Iw d p (k + 1)
 have h2 : d.clsR p k < (d.ordS p (k + 1)).length := by
  unfold Df.clsR
  exact Gc (by rw [BJ]; exact mem_insV.2 (.inr rfl))
 omega
theorem Da {p : List Nat} {k : Nat} (hk : k < p.length) : (Bt p)[k]? = some ((p.getD k 0 : Nat) : Int) := by
 rw [gD,gE hk]
 exact F8 (gE hk)
structure RefI (d : Df) (p : List Nat) (PA : Option Addr) (pc : Nat) (w : World) (m4 b2 b3 b5 b6 b7 r g7 c7 : Nat) (pre : List Nat) (V : World) : Prop where
 sz : m4 ≤ V.heap.size
 low : Below w.heap.size w V
 h3 : V.heap[b3]? = some (.cells [.slice PA d.next.length pc].toArray 22 (0,0))
 h5 : V.heap[b5]? = some (.cells #[.map (some r)] 118 (0,0))
 h6 : V.heap[b6]? = some (.cells [.func (.func 155) #[] #[.pointer (some ⟨b5,0,none⟩)]].toArray 153 (0,0))
 h7 : V.heap[b7]? = some (.cells [.slice (some ⟨g7,0,none⟩) d.next.length c7].toArray 22 (0,0))
 map : MapIs V r (nums HQ (d.foR p pre).1)
 new : (Kd.int .i64).R 3 V w.heap.size (fun k => k < m4) (.slice (some ⟨g7,0,none⟩) d.next.length c7) (d.foR p pre).2
theorem RefI.below {d : Df} {p : List Nat} {PA : Option Addr} {pc : Nat} {w : World} {m4 b2 b3 b5 b6 b7 r g7 c7 : Nat} {pre : List Nat} {V V1 : World} (h : RefI d p PA pc w m4 b2 b3 b5 b6 b7 r g7 c7 pre V) (hb : Below V.heap.size V V1) : RefI d p PA pc w m4 b2 b3 b5 b6 b7 r g7 c7 pre V1 :=
 ⟨Nat.le_trans h.sz hb.size,Ad h.low hb,Ab h.h3 hb,Ab h.h5 hb,Ab h.h6 hb,Ab h.h7 hb,h.map.below hb,Kd.R_below h.new hb⟩
theorem RefI.own {d : Df} {p : List Nat} {PA : Option Addr} {pc : Nat} {w : World} {m4 b2 b3 b5 b6 b7 r g7 c7 : Nat} {pre : List Nat} {V V1 : World} {row : Option Nat} (h : RefI d p PA pc w m4 b2 b3 b5 b6 b7 r g7 c7 pre V) (hm : w.heap.size ≤ m4) (h3 : b3 < m4) (h5 : b5 < m4) (h6 : b6 < m4) (h7 : b7 < m4) (hr : r < m4) (hg : V.grownBy V1 row) (hrow : ∀ k,row = some k → m4 ≤ k) : RefI d p PA pc w m4 b2 b3 b5 b6 b7 r g7 c7 pre V1 := by
 have hk : ∀ b,b < m4 → V1.heap[b]? = V.heap[b]? := fun b hb => hg.block b (Nat.lt_of_lt_of_le hb h.sz) (fun e => by have := hrow b e.symm; omega)
 exact ⟨Nat.le_trans h.sz hg.size,h.low.grown hg h.low.size (fun k e => by have := hrow k e; omega),(hk b3 h3).trans h.h3,(hk b5 h5).trans h.h5,(hk b6 h6).trans h.h6,(hk b7 h7).trans h.h7,h.map.same (hk r hr),Kd.R_grown h.new hg (fun k hk e => by have := hrow k e.symm; omega)⟩
theorem refine118 (d : Df) (hd : d.Ok) (NA FA : Option Addr) (nc fc : Nat) (p : List Nat) (hp : p.length = d.next.length) (hp2 : ∀ x ∈ p,x < 10000) (PA : Option Addr) (pc : Nat) (w : World) (hr : DR d w NA FA) (hpr : (Kd.int .i64).C w PA d.next.length (Bt p)) (hG : Glob w) :
  Calls Tryz.prog 118 #[.agg (d.vals NA FA nc fc).toArray,.slice PA d.next.length pc] w fun e w' => ∃ A c,e = .returned (.slice A d.next.length c) ∧ (Kd.int .i64).R 3 w' w.heap.size (fun _ => True) (.slice A d.next.length c) (Bt (d.refine p)) ∧ Below w.heap.size w w' := by
 have hn := hd.n
 have hs := hd.s
 have hG2 := hG.lt
 have h64 : 2 ^ d.vars ≤ 64 := Nat.pow_le_pow_right (n := 2) (by decide) hd.v
 have hpd : ∀ k,p.getD k 0 < 10000 := fun k => by
  rw [gD]
  cases h : p[k]? with
  | none => simp
  | some x => exact hp2 x (List.mem_of_getElem? h)
 obtain ⟨sv,hsv⟩ := Ks hr
 refine enter 50 Tryz.func118 G G _ (by simp) ?_
 refine obx (cs := d.vals NA FA nc fc) G G ?_
 intro b2 w1 h2e h2 hb1
 refine obx (cs := [.slice PA d.next.length pc]) G G ?_
 intro b3 w2 h3e h3 hb2
 have h2 := Ab h2 hb2
 refine asl G<|Kh ?_
 intro w3 hm3 hb3
 refine oal (v := .map none) (cs := [.map none]) (fun _ => by kernel_rfl) G ?_
 intro b5 w4 h5e h5 hb4
 refine Bc (v := .map (some w2.heap.size)) (cs := [.map none]) (i := 0) S118 G G G h5 (by simp) ?_
 intro w5 h5' hg5
 have hm5 := (hm3.below hb4).keep hg5 h5
 have hb5 := (Ad hb3 hb4).grown hg5 (Ad hb3 hb4).size (fun k e => by cases e; have := hb3.size; omega)
 refine pl (.func (.func 155) #[] #[.pointer (some ⟨b5,0,none⟩)]) (fun _ => by kernel_rfl)<|oal (v := .nilFunc) (cs := [.nilFunc]) (fun _ => by kernel_rfl) G ?_
 intro b6 w6 h6e h6 hb6
 refine Bc (v := .func (.func 155) #[] #[.pointer (some ⟨b5,0,none⟩)]) (cs := [.nilFunc]) (i := 0) S153 G G G h6 (by simp) ?_
 intro w7 h6' hg7
 have hz1 := hb1.size
 have hz2 := hb2.size
 have hz3 := hb3.size
 have hz4 := hb4.size
 have hz5 := hg5.size
 have hz6 := hb6.size
 have hz7 := hg7.size
 have hb7 := hb6.grown hg7 hb6.size (fun k e => by cases e; omega)
 have h3 := Ab (Ab h3 hb5) hb7
 have h2 := Ab (Ab h2 hb5) hb7
 have h5 := Ab h5' hb7
 have hm7 := hm5.below hb7
 clear hm3 hm5 h5' hg5 hg7 h6
 generalize hr0 : w2.heap.size = r at *
 have hc3 : w7.cell? ⟨b3,0,none⟩ = some (.slice PA d.next.length pc) := (Ac h3 0).trans rfl
 refine old G22 G ‹_›<|oln U22 G<|omk (Kd.int .i64) U22 I3 G G 0 (fun _ => rfl) (by omega) G (by decide) (by decide) ?_
 intro A7 c7 w8 hR8 hb8
 obtain ⟨g7,_,hv,hg7b,_⟩ := Kd.R_form hR8 (by simp; omega)
 injection hv with hv _ _
 subst hv
 refine oal (v := .slice none 0 0) (cs := [.slice none 0 0]) (fun _ => by kernel_rfl) G ?_
 intro b7 w9 h7e h7 hb9
 refine Bc (v := .slice (some ⟨g7,0,none⟩) d.next.length c7) (cs := [.slice none 0 0]) (i := 0) S22 G G G h7 (by simp) ?_
 intro w10 h7' hg10
 have hz8 := hb8.size
 have hz9 := hb9.size
 have hz10 := hg10.size
 have hb10 := (Ad hb8 hb9).grown hg10 (Ad hb8 hb9).size (fun k e => by cases e; omega)
 have hR10 := Ah (Kd.R_below hR8 hb9) h7 (by decide) hg10
 have h2 := Ab h2 hb10
 have h3 := Ab h3 hb10
 have h5 := Ab h5 hb10
 have h6 := Ab h6' hb10
 have hm10 := hm7.below hb10
 have hB10 : Below w.heap.size w w10 := Ad (Ad (Ad (Ad hb1 hb2) (by rw [← hr0] at hb5; exact hb5)) hb7) hb10
 refine AV (vs := d.vals NA FA nc fc) G35 S35 G (Ak h2)<|cl C39 [] G ((Ku d NA FA nc fc w10).mono ?_)
 rintro e w11 ⟨c,rfl,hcl,hcb,hb11⟩
 refine ⟨_,rfl,?_⟩
 have hz11 := hb11.size
 have h3 := Ab h3 hb11
 have h5 := Ab h5 hb11
 have h6 := Ab h6 hb11
 have h7 := Ab h7' hb11
 have hm11 := hm10.below hb11
 have hB11 := Ad hB10 hb11
 have hR11 := Kd.R_below hR10 hb11
 have hrr := hm11.lt
 have hl3 := Am h3
 have hl5 := Am h5
 have hl6 := Am h6
 have hl7 := Am h7
 have hg7l : g7 < w11.heap.size := by omega
 have hw11 := hB11.size
 have hgw : w.heap.size ≤ g7 := by omega
 have hrw : w.heap.size ≤ r := by omega
 have hI0 : RefI d p PA pc w w11.heap.size b2 b3 b5 b6 b7 r g7 c7 [] w11 :=
  ⟨Nat.le_refl _,hB11,h3,h5,h6,h7,hm11,Kd.R_lower (Kd.R_mono (Kd.R_bound hR11) (fun k hk => hk.2.2.1)) (by omega)⟩
 clear hR8 hR10 hR11 hm7 hm10 hm11 h3 h5 h6 h7 h6' h7' hg10 hb1 hb2 hb3 hb4 hb5 hb6 hb7 hb8 hb9 hb10 hB10 h2 hc3
 refine Kv (α := Fin d.next.length) (gf := 77) (lb := #[.pointer (some ⟨c,0,none⟩)]) (w0 := w11) G (⟨_,Tryz.func77,by kernel_rfl,by kernel_rfl⟩ : Ag Tryz.prog 77) (by kernel_rfl) (by kernel_rfl)
  (fun mm => Kt d hn NA FA nc fc sv c (fun i => i = r ∨ i = g7) w w11 hB11 hsv (fun i hi => by rcases hi with rfl | rfl <;> assumption) hcb (fun hi => by rcases hi with h | h <;> omega) mm)
  (fun h k => h.trans k) (fun V l o o' hl ho hoc how => KpS.low (belowK_b (Nat.le_refl _) V l o o' hl ho hoc how)) (Below.refl _ _) (fun _ => rfl)
  (fun (pre : List (Fin d.next.length)) (V : World) => RefI d p PA pc w w11.heap.size b2 b3 b5 b6 b7 r g7 c7 (pre.map (·.1)) V)
  (fun _ _ _ => False) ?_ ?_ hI0
  (σ := Unit) (fun x _ => [(2,.pointer (some ⟨b2,0,none⟩)),(3,.pointer (some ⟨b3,0,none⟩)),(5,.pointer (some ⟨b5,0,none⟩)),(6,.pointer (some ⟨b6,0,none⟩)),(7,.pointer (some ⟨b7,0,none⟩)),(8,.int .i64 (x.1 : Nat)),(9,sv x.1)]) (fun _ _ _ => True) (fun _ _ _ _ _ _ h _ _ => h) ?_ ?_ ?_ ?_
 ·intro pre V V' row h hg hr
  exact h.own hw11 hl3 hl5 hl6 hl7 hrr hg (fun k e => (hr k e).1)
 ·intro c pre V V' row h hg hr
  exact h
 ·rintro l pre x V h
  obtain ⟨ad,RA,rc,_,hsx,_,_⟩ := hsv x.1 x.2
  refine ai G<|asl hsx ?_
  exact ⟨KeepsFrom.of_grownBy (B6 V none) (fun j e => by cases e),KpS.refl _ _ _,h,(),⟨by kernel_rfl,by kernel_rfl,by kernel_rfl,by kernel_rfl,by kernel_rfl,rfl,hsx.symm,rfl⟩,trivial⟩
 ·rintro l pre x u g' V hl h _ hN
  obtain ⟨ad,RA,rc,rfl,hsx,_,hRow⟩ := hsv x.1 x.2
  rw [hsx]
  have hsg : d.sig p x.1 = p.getD x.1 0 :: (d.next.getD x.1 []).map fun y : Int => p.getD y.toNat 0 := rfl
  generalize hrow : d.next.getD x.1 [] = row at hRow hsx hsg ⊢
  have hxl : x.1 < p.length := by rw [hp]; exact x.2
  obtain ⟨adp,rfl,hcp⟩ := Au (n := d.next.length) (Kd.C_below hpr h.low) (Da hxl)
  have hc3 : V.cell? ⟨b3,0,none⟩ = some (.slice (some adp) d.next.length pc) := (Ac h.h3 0).trans rfl
  have hsz := h.sz
  have hx2 := x.2
  refine old G22 G ‹_›<|mi G<|AD U22 Z3 G G (by first | assumption | omega)<|old G3 G ‹_›<|?_
  refine cl L7 [] G ((KM (.slice none 0 0) [] (p.getD x.1 0) V.heap.size V (hpd _) (Kd.R_nil _ _ _ _ _) (Nat.le_refl _) (by simp) (hG.low h.low hG2) (by omega)).mono ?_)
  rintro e V1 ⟨A,ca,rfl,hT,hb1,_⟩
  refine ⟨_,rfl,?_⟩
  rw [List.nil_append,← Ir] at hT
  rw [List.nil_append,← Ir]
  refine asl G<|ms G<|oln U22 G<|mi G<|?_
  have hrl : row.length = 2 ^ d.vars ∧ ∀ y ∈ row,0 ≤ y ∧ y < d.next.length := by
   have : d.next[x.1]? = some row := by rw [← hrow,gD,gE x.2]; rfl
   exact hd.rows row (List.mem_of_getElem? this)
  have hl64 : row.length ≤ 64 := by omega
  refine lpi (fun _ _ h => h) (by kernel_rfl) (σ := Nat × Option Addr × Nat) (fun q => [(2,.pointer (some ⟨b2,0,none⟩)),(3,.pointer (some ⟨b3,0,none⟩)),(5,.pointer (some ⟨b5,0,none⟩)),(6,.pointer (some ⟨b6,0,none⟩)),(7,.pointer (some ⟨b7,0,none⟩)),(8,.int .i64 (x.1 : Nat)),(10,.slice q.2.1 (DH (p.getD x.1 0 :: (row.take q.1).map fun y : Int => p.getD y.toNat 0)).length q.2.2),(27,.slice RA row.length rc),(28,.int .i64 row.length),(29,.int .i64 q.1)])
   (fun q U => q.1 ≤ row.length ∧ Below V.heap.size V U ∧ (Kd.int .u8).R 5 U V.heap.size (fun _ => True) (.slice q.2.1 (DH (p.getD x.1 0 :: (row.take q.1).map fun y : Int => p.getD y.toNat 0)).length q.2.2) (DH (p.getD x.1 0 :: (row.take q.1).map fun y : Int => p.getD y.toNat 0))) (fun q => row.length - q.1) (0,A,ca) ⟨rfl,rfl,rfl,rfl,rfl,rfl,rfl,rfl,rfl,rfl,rfl⟩ ⟨Nat.zero_le _,hb1,hT⟩ ?_
  clear hT hb1
  rintro ⟨j,A,ca⟩ f U ⟨hj,hb,hT⟩
  simp only at hj hT
  have hI := h.below hb
  have hUz := hb.size
  have hlen : (DH (p.getD x.1 0 :: (row.take j).map fun y : Int => p.getD y.toNat 0)).length ≤ 4 + 5 * 64 := by
   have := sigT_len (hpd x.1) (l := (row.take j).map fun y : Int => p.getD y.toNat 0) (fun b hb => by obtain ⟨y,_,rfl⟩ := List.mem_map.1 hb; exact hpd _)
   rw [List.length_map,List.length_take] at this
   omega
  refine olt G G<|cdd G (fun hlt => ?_) (fun hge => ?_)
  ·have hjl : j < row.length := Int.ofNat_lt.1 hlt
   obtain ⟨y,hy⟩ : ∃ y,row[j]? = some y := ⟨_,gE hjl⟩
   have hyb := hrl.2 y (List.mem_of_getElem? hy)
   obtain ⟨z,rfl⟩ : ∃ z : Nat,y = z := ⟨y.toNat,by omega⟩
   obtain ⟨adr,rfl,hcr⟩ := Au (Kd.C_below hRow hI.low) hy
   have hzp : z < p.length := by omega
   obtain ⟨adp',he,hcz⟩ := Au (n := d.next.length) (Kd.C_below hpr hI.low) (Da hzp)
   injection he with he
   subst he
   have hc3 : U.cell? ⟨b3,0,none⟩ = some (.slice (some adp) d.next.length pc) := (Ac hI.h3 0).trans rfl
   have htake : row.take (j + 1) = row.take j ++ [(z : Int)] := by rw [List.take_succ_eq_append_getElem hjl]; rw [gE hjl] at hy; injection hy with hy; rw [hy]
   refine AD U22 Z3 G G (by first | assumption | omega)<|old G3 G ‹_›<|ai G<|?_
   refine FL (fun _ _ h => h) (by kernel_rfl) mixed (fun V => V.cell? ⟨b3,0,none⟩ = some (.slice (some adp) d.next.length pc) ∧ V.cell? (adp.add (z * 1)) = some (.int .i64 (p.getD z 0 : Nat))) ?_
   intro U1 hb1 _ _
   have hS := (⟨Ae hb1 hc3,Ae hb1 hcz⟩ : U1.cell? ⟨b3,0,none⟩ = some (.slice (some adp) d.next.length pc) ∧ U1.cell? (adp.add (z * 1)) = some (.int .i64 (p.getD z 0 : Nat)))
   have hT1 := Kd.R_below hT hb1
   have hB1 := Ad hb hb1
   refine Aj 0 G (by kernel_rfl) (fun _ _ _ h => h) G (fun v _ => ms_ G v) hS<|Aj 3 G (by kernel_rfl) (fun _ _ _ h => h) G (fun v hv => Ai G22 G hv.1) hS<|Aj 4 G (by kernel_rfl) (fun _ _ _ h => h) G (fun v _ => mi_ G v) hS<|Aj 5 G (by kernel_rfl) (fun _ _ _ h => h) G (fun v _ => AU U22 Z3 G G (by first | assumption | omega) v) hS<|Aj 6 G (by kernel_rfl) (fun _ _ _ h => h) G (fun v hv => Ai G3 G hv.2) hS<|?_
   refine AA 1 (by kernel_rfl) G<|BV (Kd.int .u8) U1.heap.size (p := (32 : Int)) (okp := fun _ => True) (AJ (u := .int .u8 (32 : Nat)) U26 I5 G G) G G (Nat.le_refl _) ?_
   intro A2 c2 U2 hR2 hb2
   have hS := (⟨Ae hb2 hS.1,Ae hb2 hS.2⟩ : U2.cell? ⟨b3,0,none⟩ = some (.slice (some adp) d.next.length pc) ∧ U2.cell? (adp.add (z * 1)) = some (.int .i64 (p.getD z 0 : Nat)))
   refine ⟨hS,?_⟩
   have hT2 := Kd.R_below hT1 hb2
   have hB2 := Ad hB1 hb2
   have hz2 := hB2.size
   refine AA 2 (by kernel_rfl) G<|BW (Kd.int .u8) (Rr := (Kd.int .u8).K U2) U26 I5 G (by decide) (by decide) G G hT2 (Kd.R_reads' hR2).2.2 (okp := fun i => some i ≠ (Value.slice A (DH (p.getD x.1 0 :: (row.take j).map fun y : Int => p.getD y.toNat 0)).length ca).ownBlock) (fun _ _ h => h) (fun _ h => ⟨trivial,h⟩) (fun _ _ => trivial) (by omega) (by omega) ?_
   intro A3 c3 U3 hR3 hg3
   have hB3 : Below V.heap.size V U3 := hB2.grown hg3 hB2.size (fun k hk => Kd.R_base hT2 k hk)
   have hSof : ∀ U',Below V.heap.size V U' → U'.cell? ⟨b3,0,none⟩ = some (.slice (some adp) d.next.length pc) ∧ U'.cell? (adp.add (z * 1)) = some (.int .i64 (p.getD z 0 : Nat)) := fun U' hU => by
    have hI' := h.below hU
    obtain ⟨ad',he,hc⟩ := Au (n := d.next.length) (Kd.C_below hpr hI'.low) (Da hzp)
    injection he with he
    subst he
    exact ⟨(Ac hI'.h3 0).trans rfl,hc⟩
   refine ⟨hSof _ hB3,?_⟩
   refine AA 7 (by kernel_rfl) G ?_
   have hl3 : (DH (p.getD x.1 0 :: (row.take j).map fun y : Int => p.getD y.toNat 0) ++ [32]).length ≤ 100000 := by simp only [List.length_append,List.length_singleton]; omega
   have hz3 := hB3.size
   refine cl L7 [] G ((KM _ (DH (p.getD x.1 0 :: (row.take j).map fun y : Int => p.getD y.toNat 0) ++ [32]) (p.getD z 0) V.heap.size U3 (hpd _) hR3 hz3 hl3 (hG.low (h.below hB3).low hG2) (by omega)).mono ?_)
   rintro e U4 ⟨A4,c4,rfl,hT4,hb4,_⟩
   have hB4 : Below V.heap.size V U4 := hB3.trans hb4
   refine ⟨_,rfl,hSof _ hB4,?_⟩
   have hTj : DH (p.getD x.1 0 :: (row.take (j + 1)).map fun y : Int => p.getD y.toNat 0) = (DH (p.getD x.1 0 :: (row.take j).map fun y : Int => p.getD y.toNat 0) ++ [32]) ++ FH (p.getD z 0) := by
    rw [htake,List.map_append,← sigT_snoc]
    rfl
   rw [← hTj] at hT4 ⊢
   refine AA 8 (by kernel_rfl) G<|asl G ⟨hSof _ hB4,?_⟩
   refine AY (by kernel_rfl)<|oad G G (by first | assumption | omega)<|mi G<|?_
   exact ⟨(j + 1,A4,c4),⟨rfl,rfl,rfl,rfl,rfl,rfl,rfl,rfl,rfl,rfl,rfl⟩,⟨hjl,hB4,hT4⟩,by dsimp only; omega⟩
  ·have hjj : j = row.length := by omega
   subst hjj
   rw [List.take_length] at hT
   rw [← hsg] at hT
   have hsn : d.sig p x.1 ≠ [] := by rw [hsg]; simp
   have hc7U : U.cell? ⟨b7,0,none⟩ = some (.slice (some ⟨g7,0,none⟩) d.next.length c7) := (Ac hI.h7 0).trans rfl
   have hc6U : U.cell? ⟨b6,0,none⟩ = some (.func (.func 155) #[] #[.pointer (some ⟨b5,0,none⟩)]) := (Ac hI.h6 0).trans rfl
   refine FL (fun _ _ h => h) (by kernel_rfl) mixed (fun V => V.cell? ⟨b7,0,none⟩ = some (.slice (some ⟨g7,0,none⟩) d.next.length c7) ∧ V.cell? ⟨b6,0,none⟩ = some (.func (.func 155) #[] #[.pointer (some ⟨b5,0,none⟩)])) ?_
   intro U1 hb1 _ _
   have hS := (⟨Ae hb1 hc7U,Ae hb1 hc6U⟩ : U1.cell? ⟨b7,0,none⟩ = some (.slice (some ⟨g7,0,none⟩) d.next.length c7) ∧ U1.cell? ⟨b6,0,none⟩ = some (.func (.func 155) #[] #[.pointer (some ⟨b5,0,none⟩)]))
   have hT1 := Kd.R_below hT hb1
   have hI1 := hI.below hb1
   have hB1 := Ad hb hb1
   refine Aj 0 G (by kernel_rfl) (fun _ _ _ h => h) G (fun v hv => Ai G22 G hv.1) hS<|Aj 1 G (by kernel_rfl) (fun _ _ _ h => h) G (fun v _ => mi_ G v) hS<|Aj 2 G (by kernel_rfl) (fun _ _ _ h => h) G (fun v hv => Ai G153 G hv.2) hS<|Aj 3 G (by kernel_rfl) (fun _ _ _ h => h) G (fun v _ => ms_ G v) hS<|AA 4 (by kernel_rfl) G ?_
   have hcv := Kd.C_string (src := 26) (dst := 9) (c := ca) U26 UI5 US9 (Kd.R_reads' hT1).2.2
   refine BH (v := .string (HQ (d.sig p x.1))) (w1 := U1) ?_ ?_
   ·simp only [Ru,execOp]
    show (do let v ← convert 26 9 (Value.slice A (DH (p.getD x.1 0 :: (row.take row.length).map fun y : Int => p.getD y.toNat 0)).length ca); pure (Next.value v) : Sem Next).run Tryz.prog U1 = _
    rw [List.take_length,← hsg]
    simp only [Sem.run_bind,hcv,Result.andThen_ok,Sem.run_pure]
    rfl
   refine ⟨hS,?_⟩
   refine AA 5 (by kernel_rfl) G<|cl (⟨_,Tryz.func155,by kernel_rfl,by kernel_rfl⟩ : Ag Tryz.prog 155) [.pointer (some ⟨b5,0,none⟩)] G ((visit155 HQ (d.foR p (pre.map (·.1))).1 (d.sig p x.1) b5 r U1 hI1.h5 hI1.map (D0 HQ (P := fun s => s ≠ []) (fun s t hs ht h => sigK_inj hs ht h) hsn (foR_ne d p _))).mono ?_)
   rintro e U2 ⟨rfl,hm2,hg2⟩
   have h72 := hI1.map.cells hg2 hI1.h7
   have h62 := hI1.map.cells hg2 hI1.h6
   have h52 := hI1.map.cells hg2 hI1.h5
   have h32 := hI1.map.cells hg2 hI1.h3
   have hn2 := hI1.map.row hg2 hI1.new
   have hS2 := (⟨(Ac h72 0).trans rfl,(Ac h62 0).trans rfl⟩ : U2.cell? ⟨b7,0,none⟩ = some (.slice (some ⟨g7,0,none⟩) d.next.length c7) ∧ U2.cell? ⟨b6,0,none⟩ = some (.func (.func 155) #[] #[.pointer (some ⟨b5,0,none⟩)]))
   refine ⟨_,rfl,hS2,?_⟩
   refine AA 6 (by kernel_rfl) G<|AD U22 Z3 G G x.2 ⟨hS2,?_⟩
   refine AA 7 (by kernel_rfl) G<|CG (enc := fun x => Value.int .i64 x) (h1 := fun _ => rfl) (k := x.1) (z := ((EL (BE (d.foR p (pre.map (·.1))).1 (d.sig p x.1)) (d.sig p x.1) : Nat) : Int)) S3 hn2 x.2 G G ?_
   intro U3 hn3 hg3
   obtain ⟨cells,hgc⟩ := Kd.R_typed hn2 g7 rfl
   have h73 := Ar h72 hg3 (fun e => An h72 hgc (by decide) (by injection e))
   have h63 := Ar h62 hg3 (fun e => An h62 hgc (by decide) (by injection e))
   have h53 := Ar h52 hg3 (fun e => An h52 hgc (by decide) (by injection e))
   have h33 := Ar h32 hg3 (fun e => An h32 hgc (by decide) (by injection e))
   have hm3 := hm2.keep hg3 hgc
   have hS3 := (⟨(Ac h73 0).trans rfl,(Ac h63 0).trans rfl⟩ : U3.cell? ⟨b7,0,none⟩ = some (.slice (some ⟨g7,0,none⟩) d.next.length c7) ∧ U3.cell? ⟨b6,0,none⟩ = some (.func (.func 155) #[] #[.pointer (some ⟨b5,0,none⟩)]))
   refine ⟨hS3,?_⟩
   refine AY (by kernel_rfl) ?_
   have hz1 := hB1.size
   have hz2 := hg2.size
   have hz3 := hg3.size
   have hlow2 := hI1.low.grown hg2 hI1.low.size (fun k e => by cases e; exact hrw)
   refine ⟨((KeepsFrom.of_grownBy (Ap hB1 none) (fun j e => by cases e)).trans (KeepsFrom.of_grownBy hg2 (fun j e => by cases e; exact hrr))).trans (KeepsFrom.of_grownBy hg3 (fun j e => by cases e; exact hg7l)),
    ((KpS.new (KpS.refl _ _ _) hB1 hsz).turn hg2 (by omega) (fun i e => by cases e; exact .inr (.inl rfl))).turn hg3 (by omega) (fun i e => by cases e; exact .inr (.inr rfl)),⟨by omega,hlow2.grown hg3 hlow2.size (fun k e => by cases e; exact hgw),h33,h53,h63,h73,?_,?_⟩⟩
   ·rw [List.map_append,List.map_singleton,GM]
    exact hm3
   ·rw [List.map_append,List.map_singleton,GM]
    exact hn3
 ·rintro D xs V hD hS h hK
  have hS : xs.map (·.1) = List.range d.next.length := hS
  rw [hS] at h
  have hc7 : V.cell? ⟨b7,0,none⟩ = some (.slice (some ⟨g7,0,none⟩) d.next.length c7) := (Ac h.h7 0).trans rfl
  have hR := h.new
  rw [foR_all] at hR
  refine AX _ (by repeat' (first | exact BB | exact BD | exact Bl | refine Bi ?_ ?_ | refine Bk ?_ | refine Bj ?_ | refine AX _ ?_)) _ _ V (BS [(7,.pointer (some ⟨b7,0,none⟩))] _ ⟨by kernel_rfl,rfl⟩) ?_
  refine old G22 G ‹_›<|asl G<|rtm1 G G G hK ⟨_,_,rfl,Kd.R_mono (Kd.R_grown hR (Cm V D) (fun k hk e => by injection e with e; omega)) (fun _ _ => trivial),h.low.grown (Cm V D) h.low.size (fun k e => by cases e; omega)⟩
 ·rintro D c pre V hD hS h hK
  exact h.elim
def Df.rnd (d : Df) : Nat → List Nat
 | 0 => d.begin
 | k + 1 => d.refine (d.rnd k)
theorem Cb (d : Df) : ∀ k,(d.rnd k).length = d.next.length
 | 0 => by simp [Df.rnd,Df.begin]
 | k + 1 => by simp [Df.rnd,Df.refine]
theorem rnd_lt (d : Df) : ∀ k,∀ x ∈ d.rnd k,x ≤ d.next.length
 | 0 => fun x hx => by
  obtain ⟨q,hq,rfl⟩ := List.mem_map.1 hx
  have := List.mem_range.1 hq
  unfold Df.cls0
  split <;> omega
 | k + 1 => fun x hx => by
  obtain ⟨q,hq,rfl⟩ := List.mem_map.1 hx
  have := List.mem_range.1 hq
  have := clsR_lt d (d.rnd k) q
  omega
theorem JA {d : Df} {k : Nat} (h : d.refine (d.rnd k) = d.rnd k) : ∀ m,d.rnd (k + m) = d.rnd k
 | 0 => rfl
 | m + 1 => by
  show d.refine (d.rnd (k + m)) = _
  rw [JA h m,h]
theorem Gz {l m : List Nat} (h : Bt l = Bt m) : l = m := by
 have h2 := congrArg (List.map Int.toNat) h
 unfold Bt at h2
 rw [List.map_map,List.map_map] at h2
 have h3 : (Int.toNat ∘ fun u : Nat => (u : Int)) = id := by funext u; simp
 rw [h3,List.map_id,List.map_id] at h2
 exact h2
theorem Gq (d : Df) (hd : d.Ok) (NA FA : Option Addr) (nc fc n : Nat) (hnn : n ≤ 4096) (w : World) (hr : DR d w NA FA) (hG : Glob w) :
  Calls Tryz.prog 76 #[.agg (d.vals NA FA nc fc).toArray,.int .i64 (n : Nat)] w fun e w' => ∃ A c,e = .returned (.tuple #[.slice A d.next.length c,.int .i64 0]) ∧ (Kd.int .i64).R 3 w' w.heap.size (fun _ => True) (.slice A d.next.length c) (Bt (d.rnd n)) ∧ Below w.heap.size w w' := by
 have hn := hd.n
 refine enter 28 Tryz.func76 G G _ (by simp) ?_
 refine obx (cs := d.vals NA FA nc fc) G G ?_
 intro b w1 hbe hbb hb1
 refine asl G<|ai G<|AV (vs := d.vals NA FA nc fc) G35 S35 G (Ak hbb)<|cl C43 [] G ((ED d hd NA FA nc fc w1 (hr.below hb1)).mono ?_)
 rintro e w2 ⟨rfl,hb2⟩
 refine ⟨_,rfl,?_⟩
 have hbb := Ab hbb hb2
 have hB := Ad hb1 hb2
 refine ai G<|mi G<|one G G<|isf (by omega)<|?_
 refine cdf G<|AV (vs := d.vals NA FA nc fc) G35 S35 G (Ak hbb)<|cl C117 [] G ((begin117 d hd NA FA nc fc w2 (hr.below hB)).mono ?_)
 rintro e w3 ⟨A,c,rfl,hR,hb3⟩
 refine ⟨_,rfl,?_⟩
 have hbb := Ab hbb hb3
 have hBz := hB.size
 have hB := Ad hB hb3
 have hR := Kd.R_lower hR hBz
 refine asl G<|mi G<|mi G<|cut (σ := Option Addr × Nat) (fun q => [(7,.slice q.1 d.next.length q.2)]) (fun q V => Below w.heap.size w V ∧ (Kd.int .i64).R 3 V w.heap.size (fun _ => True) (.slice q.1 d.next.length q.2) (Bt (d.rnd n))) (by repeat' (first | exact BB | exact BD | exact Bl | refine Bi ?_ ?_ | refine Bk ?_ | refine Bj ?_ | refine AX _ ?_)) ?_ ?_
 ·refine lp (σ := Nat × Option Addr × Nat) (fun q => [(2,.pointer (some ⟨b,0,none⟩)),(7,.slice q.2.1 d.next.length q.2.2),(16,.int .i64 (n : Nat)),(17,.int .i64 q.1)])
   (fun q V => q.1 ≤ n ∧ Below w.heap.size w V ∧ V.heap[b]? = some (.cells (d.vals NA FA nc fc).toArray 35 (0,0)) ∧ (Kd.int .i64).R 3 V w.heap.size (fun _ => True) (.slice q.2.1 d.next.length q.2.2) (Bt (d.rnd q.1))) (fun q => n - q.1) (0,A,c) ⟨rfl,rfl,rfl,rfl,rfl⟩ ⟨Nat.zero_le _,hB,hbb,hR⟩ ?_
  clear hR hB hbb
  rintro ⟨k,A,c⟩ f V ⟨hk,hB,hbb,hR⟩
  simp only at hk hR
  refine olt G G<|cdd G (fun hlt => ?_) (fun hge => ?_)
  ·have hkl : k < n := Int.ofNat_lt.1 hlt
   have hC := (Kd.R_reads' hR).2.2
   rw [Bp,Cb] at hC
   refine AV (vs := d.vals NA FA nc fc) G35 S35 G (Ak hbb)<|ms G<|cl C118 [] G ((refine118 d hd NA FA nc fc (d.rnd k) (Cb d k) (fun x hx => by have := rnd_lt d k x hx; omega) A c V (hr.below hB) hC (hG.below hB)).mono ?_)
   rintro e V1 ⟨A1,c1,rfl,hR1,hb1⟩
   refine ⟨_,rfl,?_⟩
   have hVz := hB.size
   have hR1 := Kd.R_lower hR1 hVz
   have hC1 := (Kd.R_reads' hR1).2.2
   have hlen1 : (Bt (d.refine (d.rnd k))).length = d.next.length := by rw [Bp]; exact Cb d (k + 1)
   have hlen0 : (Bt (d.rnd k)).length = d.next.length := by rw [Bp,Cb]
   have hB1 := Ad hB hb1
   have hbb1 := Ab hbb hb1
   have hRb := Kd.R_below hR hb1
   have hCb := (Kd.R_reads' hRb).2.2
   have heq := GP A1 A c1 c (Bt (d.refine (d.rnd k))) (Bt (d.rnd k)) V1 hC1 hCb (by omega)
   rw [hlen1,hlen0] at heq
   refine asl G<|ms G<|ms G<|cl LF [] G (heq.mono ?_)
   rintro e V2 ⟨rfl,hb2⟩
   refine ⟨_,rfl,?_⟩
   have hB2 := Ad hB1 hb2
   have hbb2 := Ab hbb1 hb2
   refine cdd G (fun h => ?_) (fun h => ?_)
   ·have hfix : d.refine (d.rnd k) = d.rnd k := Gz h
    have hrn : d.rnd n = d.rnd k := by
     have := JA hfix (n - k)
     rwa [show k + (n - k) = n by omega] at this
    exact ⟨(A,c),⟨rfl,rfl⟩,hB2,by rw [hrn]; exact Kd.R_below hRb hb2⟩
   ·refine ms G<|asl G<|oad G G (by first | assumption | omega)<|mi G<|?_
    exact ⟨(k + 1,A1,c1),⟨rfl,rfl,rfl,rfl,rfl⟩,⟨hkl,hB2,hbb2,Kd.R_below hR1 hb2⟩,by dsimp only; omega⟩
  ·have : k = n := by omega
   rw [this] at hR
   exact ⟨(A,c),⟨rfl,rfl⟩,hB,hR⟩
 ·rintro ⟨A,c⟩ f V ⟨hB,hR⟩
  refine ms G<|asl G<|ai G<|?_
  exact rt2 rfl rfl rfl ⟨A,c,rfl,hR,hB⟩
theorem classes38 (d : Df) (hd : d.Ok) (NA FA : Option Addr) (nc fc : Nat) (w : World) (hr : DR d w NA FA) (hG : Glob w) :
  Calls Tryz.prog 38 #[.agg (d.vals NA FA nc fc).toArray] w fun e w' => ∃ A c,e = .returned (.tuple #[.slice A d.next.length c,.int .i64 0]) ∧ (Kd.int .i64).R 3 w' w.heap.size (fun _ => True) (.slice A d.next.length c) (Bt (d.rnd d.next.length)) ∧ Below w.heap.size w w' := by
 have hn := hd.n
 refine enter 11 Tryz.func38 G G _ (by simp) ?_
 refine obx (cs := d.vals NA FA nc fc) G G ?_
 intro b w1 hbe hbb hb1
 have hz1 := hb1.size
 have hc2 : w1.cell? ⟨b,0 + 2,none⟩ = some (.slice NA d.next.length nc) := (Ac hbb 2).trans rfl
 refine asl G<|ai G<|AV (vs := d.vals NA FA nc fc) G35 S35 G (Ak hbb)<|ofa Bz G<|old G27 G ‹_›<|oln U27 G<|cl C76 [] G ((Gq d hd NA FA nc fc d.next.length hn w1 (hr.below hb1) (hG.below hb1)).mono ?_)
 rintro e w2 ⟨A,c,rfl,hR,hb2⟩
 refine ⟨_,rfl,?_⟩
 refine oex G G<|oex G G<|asl G<|ai G<|?_
 exact rt2 rfl rfl rfl ⟨A,c,rfl,Kd.R_lower hR hz1,Ad hb1 hb2⟩
theorem CF {α : Type} {d : Kd α} {e base n c : Nat} {w : World} {ok : Nat → Prop} {A : Option Addr} {xs : List α} (h : d.R e w base ok (.slice A n c) xs) : ReadsRow (d.M w base (fun k => ok k ∧ some k ≠ (Value.slice A n c).ownBlock)) d.sz w A xs.length xs := by
 obtain ⟨A',c',he,hl,hr⟩ := OwnRow.reads h.2
 injection he with h1 h2 h3
 subst h1
 exact hr
theorem Bb {α : Type} {d : Kd α} {e base g t : Nat} {V V' : World} {ok : Nat → Prop} {v : Value} {xs : List α} {cs : Array Value} (h : V.heap[g]? = some (.cells cs t (0,0))) (hR : d.R e V base ok v xs) (ht : t ≠ e) (hg : V.grownBy V' v.ownBlock) : V'.heap[g]? = some (.cells cs t (0,0)) :=
 (hg.block g (Am h) (fun e' => by
  obtain ⟨cells,hc⟩ := Kd.R_typed hR g e'.symm
  exact An h hc ht rfl)).trans h
def Df.rowC (d : Df) (p : List Nat) (q : Nat) : List Int := (d.next.getD q []).map fun x : Int => ((p.getD x.toNat 0 : Nat) : Int)
def Df.stQ (d : Df) (p : List Nat) (t : List (List Int) × List Bool) (q : Nat) : List (List Int) × List Bool := if p.getD q 0 < t.1.length then t else (t.1 ++ [d.rowC p q],t.2 ++ [d.finO q])
def Df.foQ (d : Df) (p : List Nat) (ks : List Nat) : List (List Int) × List Bool := ks.foldl (d.stQ p) ([],[])
def Df.quo (d : Df) (p : List Nat) : Df := ⟨d.vars,p.getD d.start 0,(d.foQ p (List.range d.next.length)).1,(d.foQ p (List.range d.next.length)).2⟩
theorem Ff (d : Df) (p : List Nat) (ks : List Nat) (k : Nat) : d.foQ p (ks ++ [k]) = d.stQ p (d.foQ p ks) k := by unfold Df.foQ; rw [List.foldl_append]; rfl
theorem foQ_ind {d : Df} {p : List Nat} {I : List (List Int) × List Bool → Prop} (h0 : I ([],[])) (hs : ∀ t q,I t → I (d.stQ p t q)) (ks : List Nat) : I (d.foQ p ks) := by
 have h : ∀ (ks : List Nat) (t : List (List Int) × List Bool),I t → I (ks.foldl (d.stQ p) t) := by
  intro ks
  induction ks with
  | nil => exact fun _ h => h
  | cons k ks ih => exact fun t ht => ih _ (hs t k ht)
 exact h ks _ h0
theorem Gd (d : Df) (p : List Nat) (ks : List Nat) : (d.foQ p ks).2.length = (d.foQ p ks).1.length := by
 refine foQ_ind (I := fun t => t.2.length = t.1.length) G (fun t q h => ?_) ks
 unfold Df.stQ
 split
 ·exact h
 ·simp [h]
theorem foQ_mem (d : Df) (p : List Nat) (ks : List Nat) : ∀ r ∈ (d.foQ p ks).1,∃ q ∈ ks,r = d.rowC p q := by
 have h : ∀ (ks ls : List Nat) (t : List (List Int) × List Bool),(∀ r ∈ t.1,∃ q ∈ ls,r = d.rowC p q) → ∀ r ∈ (ks.foldl (d.stQ p) t).1,∃ q ∈ ls ++ ks,r = d.rowC p q := by
  intro ks
  induction ks with
  | nil => intro ls t h; simpa using h
  | cons k ks ih =>
   intro ls t h r hr
   have := ih (ls ++ [k]) (d.stQ p t k) (fun r hr => by
    unfold Df.stQ at hr
    split at hr
    ·obtain ⟨q,h1,h2⟩ := h r hr
     exact ⟨q,List.mem_append.2 (.inl h1),h2⟩
    ·rcases List.mem_append.1 hr with h' | h'
     ·obtain ⟨q,h1,h2⟩ := h r h'
      exact ⟨q,List.mem_append.2 (.inl h1),h2⟩
     ·exact ⟨k,List.mem_append.2 (.inr (List.mem_singleton.2 rfl)),List.mem_singleton.1 h'⟩) r hr
   obtain ⟨q,h1,h2⟩ := this
   exact ⟨q,by simpa using h1,h2⟩
 intro r hr
 have := h ks [] ([],[]) (by simp) r hr
 simpa using this
def Df.cntQ (d : Df) (p : List Nat) (k : Nat) : Nat := (d.foQ p (List.range k)).1.length
theorem BU (d : Df) (p : List Nat) (k : Nat) : d.cntQ p (k + 1) = if p.getD k 0 < d.cntQ p k then d.cntQ p k else d.cntQ p k + 1 := by
 unfold Df.cntQ
 rw [List.range_succ,Ff]
 unfold Df.stQ
 split
 ·rfl
 ·simp
theorem FJ (d : Df) (p : List Nat) : ∀ {k m : Nat},k ≤ m → d.cntQ p k ≤ d.cntQ p m := by
 intro k m h
 obtain ⟨j,rfl⟩ : ∃ j,m = k + j := ⟨m - k,by omega⟩
 clear h
 induction j with
 | zero => exact Nat.le_refl _
 | succ j ih =>
  refine Nat.le_trans ih ?_
  rw [← Nat.add_assoc,BU]
  split <;> omega
theorem Dw (d : Df) (p : List Nat) : ∀ k,d.cntQ p k ≤ k
 | 0 => Nat.le_refl _
 | k + 1 => by
  rw [BU]
  have := Dw d p k
  split <;> omega
def Df.Canon (d : Df) (p : List Nat) : Prop := ∀ k,k < d.next.length → p.getD k 0 ≤ d.cntQ p k
theorem Df.Canon.lt {d : Df} {p : List Nat} (h : d.Canon p) {k : Nat} (hk : k < d.next.length) : p.getD k 0 < d.cntQ p d.next.length := by
 have h1 := h k hk
 have h2 := FJ d p (show k + 1 ≤ d.next.length from hk)
 rw [BU] at h2
 split at h2 <;> omega
theorem Gv {d : Df} (hd : d.Ok) {p : List Nat} (h : d.Canon p) : (d.quo p).Ok := by
 have hc := Dw d p d.next.length
 have hn := hd.n
 refine ⟨hd.v,?_,h.lt hd.s,Gd d p _,?_⟩
 ·show d.cntQ p d.next.length ≤ 4096
  omega
 ·intro r hr
  obtain ⟨q,hq,rfl⟩ := foQ_mem d p _ r hr
  have hq := List.mem_range.1 hq
  have hrow : d.next[q]? = some (d.next.getD q []) := by rw [gD,gE hq]; rfl
  obtain ⟨h1,h2⟩ := hd.rows _ (List.mem_of_getElem? hrow)
  refine ⟨by unfold Df.rowC; rw [List.length_map]; exact h1,fun x hx => ?_⟩
  obtain ⟨y,hy,rfl⟩ := List.mem_map.1 hx
  have h3 := h2 y hy
  have h4 := h.lt (k := y.toNat) (by omega)
  have h5 : (d.quo p).next.length = d.cntQ p d.next.length := rfl
  rw [h5]
  omega
theorem ET {d : Df} {k : Nat} (hk : k < d.next.length) : d.begin.getD k 0 = d.cls0 k := by
 unfold Df.begin
 rw [gD,List.getElem?_map,List.getElem?_range hk]
 rfl
theorem Cq {d : Df} {p : List Nat} {k : Nat} (hk : k < d.next.length) : (d.refine p).getD k 0 = d.clsR p k := by
 unfold Df.refine
 rw [gD,List.getElem?_map,List.getElem?_range hk]
 rfl
theorem begin_canon (d : Df) : d.Canon d.begin := by
 intro k hk
 rw [ET hk]
 rcases Nat.eq_zero_or_pos k with rfl | h
 ·unfold Df.cls0; rw [if_pos rfl]; exact Nat.zero_le _
 ·have h1 : d.cntQ d.begin 1 = 1 := by
   rw [BU]
   have : d.cntQ d.begin 0 = 0 := rfl
   rw [this,if_neg (Nat.not_lt_zero _)]
  have h2 := FJ d d.begin h
  rw [h1] at h2
  unfold Df.cls0
  split <;> omega
theorem Hu {κ : Type} [DecidableEq κ] {o : List κ} {t : κ} : EL (BE o t) t = if t ∈ o then EL o t else o.length := GI
theorem GG {κ : Type} [DecidableEq κ] {o : List κ} {t : κ} : (BE o t).length = if t ∈ o then o.length else o.length + 1 := by
 unfold BE
 split <;> simp
theorem EI (d : Df) (p : List Nat) : ∀ k,k ≤ d.next.length → d.cntQ (d.refine p) k = (d.ordS p k).length
 | 0,_ => rfl
 | k + 1,h => by
  rw [BU,Cq (by omega),EI d p k (by omega),BJ,GG]
  unfold Df.clsR
  rw [BJ,Hu]
  by_cases hm : d.sig p k ∈ d.ordS p k
  ·rw [if_pos hm,if_pos hm,if_pos (Gc hm)]
  ·rw [if_neg hm,if_neg hm,if_neg (Nat.lt_irrefl _)]
theorem refine_canon (d : Df) (p : List Nat) : d.Canon (d.refine p) := by
 intro k hk
 rw [Cq hk,EI d p k (by omega)]
 unfold Df.clsR
 rw [BJ,Hu]
 split
 ·exact Nat.le_of_lt (Gc ‹_›)
 ·exact Nat.le_refl _
theorem Cp (d : Df) : ∀ k,d.Canon (d.rnd k)
 | 0 => begin_canon d
 | k + 1 => refine_canon d (d.rnd k)
end
section
open Go
theorem idxV_get {κ : Type} [DecidableEq κ] {o : List κ} {t : κ} (h : EL o t < o.length) : o[EL o t] = t := List.getElem_idxOf h
section
variable {d : Df} {p : List Nat}
theorem GJ (d : Df) (p : List Nat) (k : Nat) : (d.sig p k).headD 0 = p.getD k 0 := rfl
theorem Hq (hc : d.Canon p) : ∀ k,k ≤ d.next.length → ∀ s ∈ d.ordS p k,s.headD 0 < d.cntQ p k
 | 0,_ => by simp [Df.ordS]
 | k + 1,h => fun s hs => by
  rw [BJ] at hs
  have hm := FJ d p (Nat.le_succ k)
  rcases mem_insV.1 hs with h1 | h1
  ·exact Nat.lt_of_lt_of_le (Hq hc k (by omega) s h1) hm
  ·rw [h1,GJ,BU]
   have := hc k (by omega)
   split <;> omega
theorem Hp (hc : d.Canon p) {k : Nat} (h : k < d.next.length) (hn : ¬ p.getD k 0 < d.cntQ p k) : d.sig p k ∉ d.ordS p k := fun hm => hn (by have := Hq hc k (by omega) _ hm; rwa [GJ] at this)
theorem FF (hc : d.Canon p) (k : Nat) : ∀ j,k + j ≤ d.next.length → d.cntQ p (k + j) + (d.ordS p k).length ≤ (d.ordS p (k + j)).length + d.cntQ p k
 | 0,_ => by rw [Nat.add_zero]; omega
 | j + 1,h => by
  have ih := FF hc k j (by omega)
  rw [← Nat.add_assoc,BU,BJ,GG]
  by_cases h1 : p.getD (k + j) 0 < d.cntQ p (k + j)
  ·rw [if_pos h1]; split <;> omega
  ·rw [if_neg h1,if_neg (Hp hc (by omega) h1)]; omega
theorem HU (hc : d.Canon p) (hle : (d.ordS p d.next.length).length ≤ d.cntQ p d.next.length) {k : Nat} (hk : k ≤ d.next.length) : (d.ordS p k).length = d.cntQ p k := by
 have h1 := FF hc 0 k (by omega)
 have h2 := FF hc k (d.next.length - k) (by omega)
 rw [Nat.zero_add] at h1
 rw [show k + (d.next.length - k) = d.next.length by omega] at h2
 have h3 : (d.ordS p 0).length = 0 := rfl
 have h4 : d.cntQ p 0 = 0 := rfl
 omega
theorem Gy (hc : d.Canon p) (hle : (d.ordS p d.next.length).length ≤ d.cntQ p d.next.length) : ∀ k,k ≤ d.next.length → (d.ordS p k).map (fun s => s.headD 0) = List.range (d.cntQ p k)
 | 0,_ => rfl
 | k + 1,h => by
  have ih := Gy hc hle k (by omega)
  have e1 := HU hc hle (k := k) (by omega)
  have e2 := HU hc hle (k := k + 1) h
  rw [BJ,GG] at e2
  rw [BJ]
  unfold BE
  by_cases h1 : p.getD k 0 < d.cntQ p k
  ·rw [BU,if_pos h1] at e2 ⊢
   split at e2
   ·rename_i hm; rw [if_pos hm]; exact ih
   ·omega
  ·have hm := Hp hc (by omega) h1
   have hk := hc k (by omega)
   rw [if_neg hm,BU,if_neg h1,List.map_append,ih,List.range_succ]
   congr 1
   rw [List.map_cons,List.map_nil,GJ]
   congr 1
   omega
theorem clsR_stab (hc : d.Canon p) (hle : (d.ordS p d.next.length).length ≤ d.cntQ p d.next.length) {k : Nat} (hk : k < d.next.length) : d.clsR p k = p.getD k 0 := by
 have hh := Gy hc hle (k + 1) hk
 have hm : d.sig p k ∈ d.ordS p (k + 1) := by rw [BJ]; exact mem_insV.2 (.inr rfl)
 unfold Df.clsR
 have hlt := Gc hm
 have hg : (d.ordS p (k + 1))[EL (d.ordS p (k + 1)) (d.sig p k)] = d.sig p k := idxV_get hlt
 have h2 : ((d.ordS p (k + 1)).map (fun s => s.headD 0))[EL (d.ordS p (k + 1)) (d.sig p k)]? = some (p.getD k 0) := by
  rw [List.getElem?_map,gE hlt,hg]
  rfl
 rw [hh,List.getElem?_range (by rw [← HU hc hle hk]; exact hlt)] at h2
 injection h2
theorem refine_stab (hc : d.Canon p) (hl : p.length = d.next.length) (hle : (d.ordS p d.next.length).length ≤ d.cntQ p d.next.length) : d.refine p = p := by
 apply List.ext_getElem
 ·simp [Df.refine,hl]
 ·intro k h1 h2
  have hk : k < d.next.length := by omega
  have := clsR_stab hc hle hk
  simp only [Df.refine,List.getElem_map,List.getElem_range,this]
  rw [gD,gE h2]
  rfl
theorem Gs (d : Df) (k : Nat) (h : d.rnd (k + 1) ≠ d.rnd k) : d.cntQ (d.rnd k) d.next.length < d.cntQ (d.rnd (k + 1)) d.next.length := by
 show _ < d.cntQ (d.refine (d.rnd k)) _
 rw [EI d _ _ (Nat.le_refl _)]
 refine Nat.lt_of_not_le fun hle => h ?_
 exact refine_stab (Cp d k) (Cb d k) hle
end
end
section
open Go Fm Go.RowKit Go.Proofs.YtmjllchdhcdinaaGreatDoorW.PrintWords
theorem rtmct {n : Nat} {P : Program} {f : Fm n} {W : World} {fn : Func} {R : Ending → World → Prop} {D : Nat} {ty : TypeId} {p u : Tmp} {g tt : Nat} {vs : List Value} {v : Value} (hr : fn.results = #[.cell p ty,.tmp u]) (hp : gt f p = .pointer (some ⟨g,0,none⟩)) (hu : gt f u = v) (hd : f.ds = [{ target := .collected D,args := #[] }]) (hD : W.heap[D]? = some (.deferred (some []))) (hb : W.heap[g]? = some (.cells vs.toArray tt (0,0))) (hag : ∀ w,(isAgg ty).run P w = .ok true w) (hsz : ∀ w,(sizeOf ty).run P w = .ok vs.length w)
  (h : R (.returned (.tuple #[.agg vs.toArray,v])) (W.putObj D (.deferred none))) : RT P fn R f W := by
 refine Lq hd hD ?_ h
 have hb' := EK hD hb
 have h3 : f.toL[p]?.getD undef = .pointer (some ⟨g,0,none⟩) := by rw [← hp,B5,gD]
 have h5 : f.toL[u]?.getD undef = v := by rw [← hu,B5,gD]
 have h6 := B9 (P := P) (W.putObj D (.deferred none)) ⟨g,0,none⟩ vs 0 #[] (fun j v hj => by simpa using Ak hb' j v hj)
 simp [results,hr,h3,h5,asAddr,hag,hsz,h6,go_sem]
structure QuoI (d : Df) (st : Nat) (w w4 : World) (bz : Nat) (t : List (List Int) × List Bool) (V : World) (NB : Option Addr) (nb : Nat) (FB : Option Addr) (fb : Nat) : Prop where
 sz : w4.heap.size ≤ V.heap.size
 low : Below w.heap.size w V
 kp : KpS w4.heap.size (fun i => i = bz) w4 V
 hz : V.heap[bz]? = some (.cells (dcs d.vars st NB FB t.1.length nb t.1.length fb).toArray 35 (0,0))
 hN : Kii.R 22 V w4.heap.size (fun _ => True) (.slice NB t.1.length nb) t.1
 hF : Kd.bool.R 4 V w4.heap.size (fun _ => True) (.slice FB t.1.length fb) t.2
theorem QuoI.own {d : Df} {st : Nat} {w w4 : World} {bz : Nat} {t : List (List Int) × List Bool} {V V1 : World} {NB : Option Addr} {nb : Nat} {FB : Option Addr} {fb : Nat} {row : Option Nat} (h : QuoI d st w w4 bz t V NB nb FB fb) (hw : w.heap.size ≤ w4.heap.size) (hg : V.grownBy V1 row) (hr : ∀ k,row = some k → w4.heap.size ≤ k ∧ ∃ o : Obj,V.heap[k]? = some o ∧ o.isCells = false) : QuoI d st w w4 bz t V1 NB nb FB fb :=
 ⟨Nat.le_trans h.sz hg.size,h.low.grown hg h.low.size (fun k e => Nat.le_trans hw (hr k e).1),h.kp.turn hg h.sz (fun i e => .inl (hr i e).1),BT (β := Unit) () V V1 row h.hz hg hr,HT (β := Unit) () V V1 row h.hN hg hr,HT (β := Unit) () V V1 row h.hF hg hr⟩
theorem foQ_len_le (d : Df) (p : List Nat) (ks : List Nat) : (d.foQ p ks).1.length ≤ ks.length := by
 have h2 : ∀ (ks : List Nat) (t : List (List Int) × List Bool),(ks.foldl (d.stQ p) t).1.length ≤ t.1.length + ks.length := by
  intro ks
  induction ks with
  | nil => intro t; simp
  | cons k ks ih =>
   intro t
   have h := ih (d.stQ p t k)
   have h3 : (d.stQ p t k).1.length ≤ t.1.length + 1 := by
    unfold Df.stQ
    split
    ·exact Nat.le_succ _
    ·simp
   rw [List.foldl_cons,List.length_cons]
   omega
 have := h2 ks ([],[])
 simpa [Df.foQ] using this
theorem min8 (d : Df) (hd : d.Ok) (NA FA : Option Addr) (nc fc : Nat) (w : World) (hr : DR d w NA FA) (hG : Glob w) :
  Calls Tryz.prog 8 #[.agg (d.vals NA FA nc fc).toArray] w fun e w' => ∃ NB nc' BA bc K,e = .returned (.tuple #[.agg (dcs d.vars 0 NB BA K nc' K bc).toArray,.int .i64 0]) ∧ ((d.quo (d.rnd d.next.length)).ord K).length = K ∧
   Kii.R 22 w' w.heap.size (fun _ => True) (.slice NB K nc') (Cg (d.quo (d.rnd d.next.length)).step (2 ^ d.vars) (d.quo (d.rnd d.next.length)).start K) ∧ Kd.bool.R 4 w' w.heap.size (fun _ => True) (.slice BA K bc) (((d.quo (d.rnd d.next.length)).ord K).map (d.quo (d.rnd d.next.length)).finO) ∧ Below w.heap.size w w' := by
 have hn := hd.n
 have hs := hd.s
 have hG2 := hG.lt
 have h64 : 2 ^ d.vars ≤ 64 := Nat.pow_le_pow_right (n := 2) (by decide) hd.v
 obtain ⟨sv,hsv⟩ := Ks hr
 refine enter 75 Tryz.func8 G G _ (by simp) ?_
 refine obx (cs := d.vals NA FA nc fc) G G ?_
 intro b w1 hbe hb hb1
 have hb1l0 := Am hb
 refine oal (v := .agg (dcs 0 0 none none 0 0 0 0).toArray) (cs := dcs 0 0 none none 0 0 0 0) (fun _ => by kernel_rfl) G ?_
 intro b2 w2 h2e h2 hb2
 have hb := Ab hb hb2
 have hB := Ad hb1 hb2
 have hz1 := hb1.size
 have hz2 := hb2.size
 have hb2l := Am h2
 refine ai G<|AV (vs := d.vals NA FA nc fc) G35 S35 G (Ak hb)<|cl C38 [] G ((classes38 d hd NA FA nc fc w2 (hr.below hB) (hG.below hB)).mono ?_)
 rintro e w3 ⟨PA,pc,rfl,hP,hb3⟩
 refine ⟨_,rfl,?_⟩
 obtain ⟨p,hpd⟩ : ∃ p,p = d.rnd d.next.length := ⟨_,rfl⟩
 rw [← hpd] at hP ⊢
 have hpl : p.length = d.next.length := by rw [hpd,Cb]
 have hcan : d.Canon p := by rw [hpd]; exact Cp d _
 clear hpd
 have hz3 := hb3.size
 have hb := Ab hb hb3
 have h2 := Ab h2 hb3
 have hB := Ad hB hb3
 refine mv G<|oex G G<|oex G G<|oal (v := .slice none 0 0) (cs := [.slice none 0 0]) (fun _ => by kernel_rfl) G ?_
 intro b4 w4 h4e h4 hb4
 have hb4l := Am h4
 refine Bc (v := .slice PA d.next.length pc) (cs := [.slice none 0 0]) (i := 0) S22 G G G h4 (by simp) ?_
 intro w5 h4' hg5
 have hz4 := hb4.size
 have hz5 := hg5.size
 have hb5 := hb4.grown hg5 hb4.size (fun k e => by cases e; omega)
 have hb := Ab hb hb5
 have h2 := Ab h2 hb5
 have hB := Ad hB hb5
 have hP := Kd.R_below hP hb5
 refine ai G<|mi G<|one G G<|isf (by omega)<|?_
 refine cdf G ?_
 have hsl : d.start < p.length := by omega
 have hPC := (Kd.R_reads' hP).2.2
 rw [Bp,hpl] at hPC
 obtain ⟨adp,rfl,hcp⟩ := Au hPC (Da hsl)
 refine Bu mixed (fun V => V.heap[b]? = some (.cells (d.vals NA FA nc fc).toArray 35 (0,0)) ∧ V.cell? ⟨b4,0,none⟩ = some (.slice (some adp) d.next.length pc) ∧ V.cell? (adp.add (d.start * 1)) = some (.int .i64 (p.getD d.start 0 : Nat))) ?_
 intro w6 hb6 _ _
 have h4 := Ab h4' hb6
 have hb := Ab hb hb6
 have h2 := Ab h2 hb6
 have hB := Ad hB hb6
 have hP := Kd.R_below hP hb6
 have hz6 := hb6.size
 have hS := (⟨hb,(Ac h4 0).trans rfl,Ae hb6 hcp⟩ : w6.heap[b]? = some (.cells (d.vals NA FA nc fc).toArray 35 (0,0)) ∧ w6.cell? ⟨b4,0,none⟩ = some (.slice (some adp) d.next.length pc) ∧ w6.cell? (adp.add (d.start * 1)) = some (.int .i64 (p.getD d.start 0 : Nat)))
 refine Aj 0 G (by kernel_rfl) (fun _ _ _ h => h) G (fun v _ => AQ CE G v) hS<|Aj 1 G (by kernel_rfl) (fun _ _ _ h => h) G (fun v hv => Ai G3 G ((Ac hv.1 _).trans G)) hS<|Aj 2 G (by kernel_rfl) (fun _ _ _ h => h) G (fun v hv => Ai G22 G hv.2.1) hS<|Aj 3 G (by kernel_rfl) (fun _ _ _ h => h) G (fun v _ => AQ CT G v) hS<|Aj 4 G (by kernel_rfl) (fun _ _ _ h => h) G (fun v hv => Ai G3 G ((Ac hv.1 _).trans G)) hS<|Aj 5 G (by kernel_rfl) (fun _ _ _ h => h) G (fun v _ => AU U22 Z3 G G (by first | assumption | omega) v) hS<|Aj 6 G (by kernel_rfl) (fun _ _ _ h => h) G (fun v hv => Ai G3 G hv.2.2) hS<|?_
 refine Aj 7 (v := .agg (dcs d.vars (p.getD d.start 0) none none 0 0 0 0).toArray) G (by kernel_rfl) (fun _ _ _ h => h) G (fun _ _ => by kernel_rfl) hS ?_
 refine AA 8 (by kernel_rfl) G<|oal (v := .agg (dcs 0 0 none none 0 0 0 0).toArray) (cs := dcs 0 0 none none 0 0 0 0) (fun _ => by kernel_rfl) G ?_
 intro bz w7 hze hz hb7
 have hz7 := hb7.size
 have h4 := Ab h4 hb7
 have hb := Ab hb hb7
 have h2 := Ab h2 hb7
 have hB := Ad hB hb7
 have hP := Kd.R_below hP hb7
 refine ⟨⟨hb,(Ac h4 0).trans rfl,Ae hb7 hS.2.2⟩,?_⟩
 refine AA 9 (by kernel_rfl) G<|Bo (vs := dcs d.vars (p.getD d.start 0) none none 0 0 0 0) (cs := dcs 0 0 none none 0 0 0 0) S35 rfl rfl rfl (by intro u hu; simp only [dcs,List.mem_cons,List.not_mem_nil,or_false] at hu; rcases hu with rfl | rfl | rfl | rfl <;> rfl) hz (by simp) ?_
 intro w8 hz' hg8
 have hz' : w8.heap[bz]? = some (.cells (dcs d.vars (p.getD d.start 0) none none 0 0 0 0).toArray 35 (0,0)) := hz'
 have hz8 := hg8.size
 have hzl := Am hz
 have hbl := Am hb
 have h4l := Am h4
 have h2l := Am h2
 have hb1l : b < w1.heap.size := hb1l0
 have hneb : b ≠ bz := by omega
 have hne4 : b4 ≠ bz := by omega
 have hne2 : b2 ≠ bz := by omega
 have hb := Ar hb hg8 (fun e => hneb (by injection e))
 have h4 := Ar h4 hg8 (fun e => hne4 (by injection e))
 have h2 := Ar h2 hg8 (fun e => hne2 (by injection e))
 have hP := Ah hP hz (by decide) hg8
 have hbzw : w.heap.size ≤ bz := by omega
 have hb2w : w.heap.size ≤ b2 := by omega
 have hB := hB.grown hg8 hB.size (fun k e => by cases e; exact hbzw)
 have hS8 : w8.cell? (adp.add (d.start * 1)) = some (.int .i64 (p.getD d.start 0 : Nat)) := by
  have hC := (Kd.R_reads' hP).2.2
  rw [Bp,hpl] at hC
  obtain ⟨ad,he,hc⟩ := Au hC (Da hsl)
  injection he with he
  subst he
  exact hc
 refine ⟨⟨hb,(Ac h4 0).trans rfl,hS8⟩,?_⟩
 refine AY (by kernel_rfl) ?_
 clear hS hS8 hcp hPC h4' hg5 hg8 hz hb1 hb3 hb4 hb5 hb6 hb7
 refine AV (vs := d.vals NA FA nc fc) G35 S35 G (Ak hb)<|cl C39 [] G ((Ku d NA FA nc fc w8).mono ?_)
 rintro e w9 ⟨c,rfl,hcl,hcb,hb9⟩
 refine ⟨_,rfl,?_⟩
 have hz9 := hb9.size
 have h4 := Ab h4 hb9
 have hb := Ab hb hb9
 have h2 := Ab h2 hb9
 have hz := Ab hz' hb9
 have hB := Ad hB hb9
 have hP := Kd.R_below hP hb9
 have hw9 := hB.size
 have hbl9 := Am hb
 have h4l9 := Am h4
 have h2l9 := Am h2
 have hzl9 := Am hz
 have hncz : ¬ c = bz := by omega
 have hI0 : QuoI d (p.getD d.start 0) w w9 bz (d.foQ p []) w9 none 0 none 0 := ⟨Nat.le_refl _,hB,KpS.refl _ _ _,hz,Kd.R_nil _ _ _ _ _,Kd.R_nil _ _ _ _ _⟩
 have hPof : ∀ V,KpS w9.heap.size (fun i => i = bz) w9 V → (Kd.int .i64).C V (some adp) d.next.length (Bt p) := fun V hV => by
  have h1 := Kd.R_step (w1 := V) (Kd.R_types hP hz (by decide)) (fun k hk hlt => hV.2 k hlt hk.2)
  have hC := (Kd.R_reads' h1).2.2
  rw [Bp,hpl] at hC
  exact hC
 clear hz' hz1 hz2 hz3 hz4 hz5 hz6 hz7 hz8 hzl hbl h4l h2l hbe h2e h4e hze
 refine Kv (α := Fin d.next.length) (gf := 77) (lb := #[.pointer (some ⟨c,0,none⟩)]) (w0 := w9) G (⟨_,Tryz.func77,by kernel_rfl,by kernel_rfl⟩ : Ag Tryz.prog 77) (by kernel_rfl) (by kernel_rfl)
  (fun mm => Kt d hn NA FA nc fc sv c (fun i => i = bz) w w9 hB hsv (fun i hi => by rw [hi]; exact hbzw) hcb hncz mm)
  (fun h k => h.trans k) (fun V l o o' hl ho hoc how => KpS.low (belowK_b (Nat.le_refl _) V l o o' hl ho hoc how)) (Below.refl _ _) (fun _ => rfl)
  (fun (pre : List (Fin d.next.length)) (V : World) => ∃ NB nb FB fb,QuoI d (p.getD d.start 0) w w9 bz (d.foQ p (pre.map (·.1))) V NB nb FB fb)
  (fun _ _ _ => False) ?_ ?_ ⟨none,0,none,0,hI0⟩
  (σ := Unit) (fun x _ => [(1,.pointer (some ⟨b,0,none⟩)),(2,.pointer (some ⟨b2,0,none⟩)),(4,.pointer (some ⟨b4,0,none⟩)),(6,.pointer (some ⟨bz,0,none⟩)),(7,.int .i64 (x.1 : Nat)),(8,sv x.1)]) (fun _ _ _ => True) (fun _ _ _ _ _ _ h _ _ => h) ?_ ?_ ?_ ?_
 ·rintro pre V V' row ⟨NB,nb,FB,fb,h⟩ hg hr
  exact ⟨NB,nb,FB,fb,h.own hw9 hg hr⟩
 ·intro c pre V V' row h hg hr
  exact h
 ·rintro l pre x V h
  obtain ⟨ad,RA,rc,_,hsx,_,_⟩ := hsv x.1 x.2
  refine ai G<|asl hsx ?_
  exact ⟨KeepsFrom.of_grownBy (B6 V none) (fun j e => by cases e),KpS.refl _ _ _,h,(),⟨by kernel_rfl,by kernel_rfl,by kernel_rfl,by kernel_rfl,rfl,hsx.symm,rfl⟩,trivial⟩
 ·rintro l pre x u g' V hl ⟨NB,nb,FB,fb,h⟩ _ hN
  obtain ⟨ad,RA,rc,rfl,hsx,_,hRow⟩ := hsv x.1 x.2
  rw [hsx]
  have hsg : d.rowC p x.1 = (d.next.getD x.1 []).map fun y : Int => ((p.getD y.toNat 0 : Nat) : Int) := rfl
  have hrl : (d.next.getD x.1 []).length = 2 ^ d.vars ∧ ∀ y ∈ d.next.getD x.1 [],0 ≤ y ∧ y < d.next.length := by
   have : d.next[x.1]? = some (d.next.getD x.1 []) := by rw [gD,gE x.2]; rfl
   exact hd.rows _ (List.mem_of_getElem? this)
  generalize hrow : d.next.getD x.1 [] = row at hRow hsx hsg hrl ⊢
  have hrl1 := hrl.1
  have hxl : x.1 < p.length := by rw [hpl]; exact x.2
  have hfo : d.foQ p ((pre ++ [x]).map (·.1)) = d.stQ p (d.foQ p (pre.map (·.1))) x.1 := by rw [List.map_append,List.map_singleton,Ff]
  have htwo := Gd d p (pre.map (·.1))
  have hcl : (d.foQ p (pre.map (·.1))).1.length ≤ pre.length := by
   have := foQ_len_le d p (pre.map (·.1))
   rwa [List.length_map] at this
  generalize ht : d.foQ p (pre.map (·.1)) = t at h hfo htwo hcl
  have hPC := hPof V h.kp
  obtain ⟨adp',he,hcp⟩ := Au hPC (Da hxl)
  injection he with he
  subst he
  have h4V := h.kp.cells h4 h4l9 hne4
  have hbV := h.kp.cells hb hbl9 hneb
  have hVz := h.sz
  refine FL (fun _ _ h => h) (by kernel_rfl) mixed (fun V => V.heap[bz]? = some (.cells (dcs d.vars (p.getD d.start 0) NB FB t.1.length nb t.1.length fb).toArray 35 (0,0)) ∧ V.cell? ⟨b4,0,none⟩ = some (.slice (some adp) d.next.length pc) ∧ V.cell? (adp.add (x.1 * 1)) = some (.int .i64 (p.getD x.1 0 : Nat))) ?_
  intro V1 hb1 _ _
  have hS := (⟨Ab h.hz hb1,Ae hb1 ((Ac h4V 0).trans rfl),Ae hb1 hcp⟩ : V1.heap[bz]? = some (.cells (dcs d.vars (p.getD d.start 0) NB FB t.1.length nb t.1.length fb).toArray 35 (0,0)) ∧ V1.cell? ⟨b4,0,none⟩ = some (.slice (some adp) d.next.length pc) ∧ V1.cell? (adp.add (x.1 * 1)) = some (.int .i64 (p.getD x.1 0 : Nat)))
  refine Aj 0 G (by kernel_rfl) (fun _ _ _ h => h) G (fun v hv => Ai G22 G hv.2.1) hS<|Aj 1 G (by kernel_rfl) (fun _ _ _ h => h) G (fun v _ => mi_ G v) hS<|Aj 2 G (by kernel_rfl) (fun _ _ _ h => h) G (fun v _ => AU U22 Z3 G G (by first | assumption | omega) v) hS<|Aj 3 G (by kernel_rfl) (fun _ _ _ h => h) G (fun v hv => Ai G3 G hv.2.2) hS<|Aj 4 G (by kernel_rfl) (fun _ _ _ h => h) G (fun v _ => AQ Bz G v) hS<|Aj 5 G (by kernel_rfl) (fun _ _ _ h => h) G (fun v hv => Ai G27 G ((Ac hv.1 _).trans G)) hS<|Aj 6 G (by kernel_rfl) (fun _ _ _ h => h) G (fun v _ => Ec U27 G v) hS<|Aj 7 G (by kernel_rfl) (fun _ _ _ h => h) G (fun v _ => Ha G G v) hS<|?_
  refine AY (by kernel_rfl) ?_
  have hKp := (KpS.refl w9.heap.size (fun i => i = bz) V).new hb1 hVz
  have hKf : KeepsFrom w9.heap.size V V1 := KeepsFrom.of_grownBy (Ap hb1 none) (fun j e => by cases e)
  refine cdd G (fun hlt => ?_) (fun hge => ?_)
  ·have hlt' : p.getD x.1 0 < t.1.length := Int.ofNat_lt.1 hlt
   have hst : d.stQ p t x.1 = t := by unfold Df.stQ; rw [if_pos hlt']
   rw [hst] at hfo
   refine ⟨hKf,hKp,NB,nb,FB,fb,?_⟩
   rw [hfo]
   exact ⟨Nat.le_trans hVz hb1.size,Ad h.low hb1,h.kp.trans hKp,hS.1,Kd.R_below h.hN hb1,Kd.R_below h.hF hb1⟩
  ·have hge' : ¬ p.getD x.1 0 < t.1.length := fun hc => hge (Int.ofNat_lt.2 hc)
   have hst : d.stQ p t x.1 = (t.1 ++ [d.rowC p x.1],t.2 ++ [d.finO x.1]) := by unfold Df.stQ; rw [if_neg hge']
   rw [hst] at hfo
   refine asl G<|ms G<|oln U22 G<|mi G<|lpi (fun _ _ h => h) (by kernel_rfl) (σ := Nat × Option Addr × Nat) (fun q => [(1,.pointer (some ⟨b,0,none⟩)),(2,.pointer (some ⟨b2,0,none⟩)),(4,.pointer (some ⟨b4,0,none⟩)),(6,.pointer (some ⟨bz,0,none⟩)),(7,.int .i64 (x.1 : Nat)),(9,.slice q.2.1 q.1 q.2.2),(41,.slice RA row.length rc),(42,.int .i64 row.length),(43,.int .i64 q.1)])
    (fun q U => q.1 ≤ row.length ∧ Below V.heap.size V U ∧ (Kd.int .i64).R 3 U V.heap.size (fun _ => True) (.slice q.2.1 q.1 q.2.2) ((row.take q.1).map fun y : Int => ((p.getD y.toNat 0 : Nat) : Int))) (fun q => row.length - q.1) (0,none,0) ⟨rfl,rfl,rfl,rfl,rfl,rfl,rfl,rfl,rfl,rfl⟩ ⟨Nat.zero_le _,hb1,Kd.R_nil _ _ _ _ _⟩ ?_
   clear hS hKp hKf hb1
   rintro ⟨j,AW,cW⟩ f U ⟨hj,hbU,hT⟩
   simp only at hj hT
   have hUz := hbU.size
   refine olt G G<|cdd G (fun hlt => ?_) (fun hge2 => ?_)
   ·have hjl : j < row.length := Int.ofNat_lt.1 hlt
    obtain ⟨y,hy⟩ : ∃ y,row[j]? = some y := ⟨_,gE hjl⟩
    have hyb := hrl.2 y (List.mem_of_getElem? hy)
    obtain ⟨z,rfl⟩ : ∃ z : Nat,y = z := ⟨y.toNat,by omega⟩
    obtain ⟨adr,rfl,hcr⟩ := Au (Kd.C_below (Kd.C_below hRow h.low) hbU) hy
    have hzp : z < p.length := by omega
    obtain ⟨adp',he,hcz⟩ := Au (Kd.C_below hPC hbU) (Da hzp)
    injection he with he
    subst he
    have hc4 : U.cell? ⟨b4,0,none⟩ = some (.slice (some adp) d.next.length pc) := (Ac (Ab h4V hbU) 0).trans rfl
    have htake : row.take (j + 1) = row.take j ++ [(z : Int)] := by rw [List.take_succ_eq_append_getElem hjl]; rw [gE hjl] at hy; injection hy with hy; rw [hy]
    have htl : ((row.take j).map fun y : Int => ((p.getD y.toNat 0 : Nat) : Int)).length = j := by rw [List.length_map,List.length_take]; omega
    refine AD U22 Z3 G G (by first | assumption | omega)<|old G3 G ‹_›<|ai G<|?_
    refine ms G<|old G22 G ‹_›<|mi G<|AD U22 Z3 G G (by first | assumption | omega)<|old G3 G ‹_›<|?_
    refine EJ (bytes := 8) (m := j) (c := cW) (A := AW) (Kd.int .i64) (p := ((p.getD z 0 : Nat) : Int)) (cs := [.int .i64 (p.getD z 0 : Nat)]) (okp := fun i => some i ≠ (Value.slice AW j cW).ownBlock) U22 I3 G (by decide) (by decide) G (by simp) G (AJ U22 I3 G G) hT G (fun i hi => ⟨trivial,hi⟩) (fun _ _ => trivial) hUz (by rw [htl]; omega) ?_
    intro A2 c2 U2 hR2 hg2
    have hl2 : (((row.take j).map fun y : Int => ((p.getD y.toNat 0 : Nat) : Int)) ++ [((p.getD z 0 : Nat) : Int)]).length = j + 1 := by rw [List.length_append,htl]; rfl
    have ht2 : ((row.take j).map fun y : Int => ((p.getD y.toNat 0 : Nat) : Int)) ++ [((p.getD z 0 : Nat) : Int)] = (row.take (j + 1)).map fun y : Int => ((p.getD y.toNat 0 : Nat) : Int) := by rw [htake,List.map_append]; rfl
    rw [hl2] at hR2 ⊢
    rw [ht2] at hR2
    refine asl G<|oad G G (by first | assumption | omega)<|mi G<|?_
    exact ⟨(j + 1,A2,c2),⟨rfl,rfl,rfl,rfl,rfl,rfl,rfl,rfl,rfl,rfl⟩,⟨hjl,hbU.grown hg2 hbU.size (fun k hk => Kd.R_base hT k hk),hR2⟩,by dsimp only; omega⟩
   ·have hjj : j = row.length := by omega
    subst hjj
    rw [List.take_length,← hsg] at hT
    have hlf2 : x.1 < d.fin.length := by rw [hd.f]; exact x.2
    have hzf := Ge hd x.2
    obtain ⟨adf,hFA,_⟩ := Au hr.fin hzf
    subst hFA
    have hcfOf : ∀ V',Below w.heap.size w V' → V'.cell? (adf.add (x.1 * 1)) = some (.bool (d.finO x.1)) := fun V' hV' => by
     obtain ⟨ad',he,hc⟩ := Au (Kd.C_below hr.fin hV') hzf
     injection he with he
     subst he
     exact hc
    have hk1 : (t.1 ++ [d.rowC p x.1]).length = t.1.length + 1 := by simp
    have hk2 : (t.2 ++ [d.finO x.1]).length = t.1.length + 1 := by simp [htwo]
    have htb : t.1.length ≤ 4097 := by omega
    have hwb := hw9
    refine aei_begin 15 (fun _ _ h => h) (by kernel_rfl) mixed (fun V => V.cell? ⟨bz,0 + 2,none⟩ = some (.slice NB t.1.length nb) ∧ V.cell? ⟨bz,0 + 3,none⟩ = some (.slice FB t.1.length fb) ∧ V.cell? ⟨b,0 + 3,none⟩ = some (.slice (some adf) d.fin.length fc) ∧ V.cell? (adf.add (x.1 * 1)) = some (.bool (d.finO x.1))) ?_
    intro V1 hb1 _ _
    have hb1 := Ad hbU hb1
    have hz := Ab h.hz hb1
    have hb := Ab hbV hb1
    have hB := Ad h.low hb1
    have hN := Kd.R_below h.hN hb1
    have hF := Kd.R_below h.hF hb1
    have hW : (Kd.int .i64).R 3 V1 w9.heap.size (fun _ => True) (.slice AW row.length cW) (d.rowC p x.1) := Kd.R_lower (Kd.R_below hT ‹_›) hVz
    have hZ := Nat.le_trans hVz hb1.size
    have hKp := (KpS.refl w9.heap.size (fun i => i = bz) V).new hb1 hVz
    have hKf : KeepsFrom w9.heap.size V V1 := KeepsFrom.of_grownBy (Ap hb1 none) (fun j e => by cases e)
    have hS := (⟨(Ac hz 2).trans rfl,(Ac hz 3).trans rfl,(Ac hb 3).trans rfl,hcfOf _ hB⟩ : V1.cell? ⟨bz,0 + 2,none⟩ = some (.slice NB t.1.length nb) ∧ V1.cell? ⟨bz,0 + 3,none⟩ = some (.slice FB t.1.length fb) ∧ V1.cell? ⟨b,0 + 3,none⟩ = some (.slice (some adf) d.fin.length fc) ∧ V1.cell? (adf.add (x.1 * 1)) = some (.bool (d.finO x.1)))
    have hcap := hb1.size
    refine AG 0 [15] G (by kernel_rfl) (fun _ _ _ h => h) G (fun v _ => AQ Bz G v) hS<|AG 1 [15] G (by kernel_rfl) (fun _ _ _ h => h) G (fun v hv => Ai G27 G hv.1) hS<|AG 2 [15] G (by kernel_rfl) (fun _ _ _ h => h) G (fun v _ => ms_ G v) hS<|AG 5 [15] G (by kernel_rfl) (fun _ _ _ h => h) G (fun v _ => AQ BP G v) hS<|AG 6 [15] G (by kernel_rfl) (fun _ _ _ h => h) G (fun v hv => Ai G33 G hv.2.1) hS<|AG 7 [8,10,11,12,13,15] G (by kernel_rfl) (fun _ _ _ h => h) G (fun v _ => AQ BP G v) hS<|AG 8 [10,11,12,13,15] G (by kernel_rfl) (fun _ _ _ h => h) G (fun v hv => Ai G33 G hv.2.2.1) hS<|AG 9 [10,11,12,13,15] G (by kernel_rfl) (fun _ _ _ h => h) G (fun v _ => mi_ G v) hS<|AG 10 [11,12,13,15] G (by kernel_rfl) (fun _ _ _ h => h) G (fun v _ => AU U33 Z4 G G (by first | assumption | omega) v) hS<|AG 11 [12,13,15] G (by kernel_rfl) (fun _ _ _ h => h) G (fun v hv => Ai G4 G hv.2.2.2) hS<|?_
    refine DE 3 12 (by kernel_rfl) G G ?_ ?_
    ·have := True.intro
     refine BV Kii w9.heap.size (p := (d.rowC p x.1)) (cs := [.slice AW row.length cW]) (okp := fun _ => True) (AJ (u := .slice AW row.length cW) U27 CY G G) (Kd.M_row (Kd.R_mono hW (fun _ _ => trivial))) G hZ ?_
     intro AL cL V2 hL hb2
     have hz := Ab hz hb2
     have hb := Ab hb hb2
     have hB := Ad hB hb2
     have hKp := hKp.new hb2 hZ
     have hKf := hKf.trans (KeepsFrom.of_grownBy (Ap hb2 none) (fun j e => by cases e))
     have hZ := Nat.le_trans hZ hb2.size
     have hN := Kd.R_below hN hb2
     have hF := Kd.R_below hF hb2
     have hW := Kd.R_below hW hb2
     refine ⟨fun _ => ⟨(Ac hz 2).trans rfl,(Ac hz 3).trans rfl,(Ac hb 3).trans rfl,hcfOf _ hB⟩,?_⟩
     refine DE 4 12 (by kernel_rfl) G G ?_ ?_
     ·have := True.intro
      refine BW Kii (Rr := Kii.M _ w9.heap.size (fun i => True ∧ some i ≠ (Value.slice AL 1 cL).ownBlock)) U27 CY G (by decide) (by decide) G G hN (CF hL) (okp := fun i => some i ≠ (Value.slice NB t.1.length nb).ownBlock) (fun _ _ h => Kii.M_mono (fun i hi => by
       obtain ⟨_,_,_,q,hq,cells,hc⟩ := hi
       intro e
       obtain ⟨cells2,hc2⟩ := Kd.R_typed hN i e.symm
       have hq3 : q = 3 := by simpa [Kii,Kd.slice,Kd.int,Kd.scalar] using hq
       subst hq3
       exact An hc hc2 (by decide) rfl) (Kii.M_bound h)) (fun _ h => ⟨trivial,h⟩) (fun _ _ => trivial) hZ (by first | omega | (rw [htwo]; omega)) ?_
      intro A4 c4 V4 hN4 hg4
      rw [hk1] at hN4 ⊢
      have hz := Bb hz hN (by decide) hg4
      have hb := Bb hb hN (by decide) hg4
      have hF := Kd.R_over hF hN (by decide) hg4
      have hB := hB.grown hg4 hB.size (fun k hk => Nat.le_trans hwb (Kd.R_base hN k hk))
      have hKp := hKp.turn hg4 hZ (fun i e => .inl (Kd.R_base hN i e))
      have hKf := hKf.trans (BO hN hg4)
      have hZ := Nat.le_trans hZ hg4.size
      have hN := hN4
      refine ⟨fun _ => ⟨(Ac hz 2).trans rfl,(Ac hz 3).trans rfl,(Ac hb 3).trans rfl,hcfOf _ hB⟩,?_⟩
      refine AG 14 [15] G (by kernel_rfl) (fun _ _ _ h => h) G (fun v _ => AQ Bz G v) ⟨(Ac hz 2).trans rfl,(Ac hz 3).trans rfl,(Ac hb 3).trans rfl,hcfOf _ hB⟩<|Aq 12 (by kernel_rfl) G<|BV Kd.bool w9.heap.size (p := (d.finO x.1)) (okp := fun _ => True) (AJ (u := .bool (d.finO x.1)) U33 I4 G G) G G hZ ?_
      intro Al cl_ V2 hl hb2
      have hz := Ab hz hb2
      have hb := Ab hb hb2
      have hB := Ad hB hb2
      have hKp := hKp.new hb2 hZ
      have hKf := hKf.trans (KeepsFrom.of_grownBy (Ap hb2 none) (fun j e => by cases e))
      have hZ := Nat.le_trans hZ hb2.size
      have hN := Kd.R_below hN hb2
      have hF := Kd.R_below hF hb2
      refine ⟨fun _ => ⟨(Ac hz 2).trans rfl,(Ac hz 3).trans rfl,(Ac hb 3).trans rfl,hcfOf _ hB⟩,?_⟩
      refine Aq 13 (by kernel_rfl) G<|BW Kd.bool (Rr := Kd.bool.K _) U33 I4 G (by decide) (by decide) G G hF (Kd.R_reads' hl).2.2 (okp := fun i => some i ≠ (Value.slice FB t.1.length fb).ownBlock) (fun _ _ h => h) (fun _ h => ⟨trivial,h⟩) (fun _ _ => trivial) hZ (by first | omega | (rw [htwo]; omega)) ?_
      intro A5 c5 V5 hF5 hg5
      rw [hk2] at hF5 ⊢
      have hz := Bb hz hF (by decide) hg5
      have hb := Bb hb hF (by decide) hg5
      have hN := Kd.R_over hN hF (by decide) hg5
      have hB := hB.grown hg5 hB.size (fun k hk => Nat.le_trans hwb (Kd.R_base hF k hk))
      have hKp := hKp.turn hg5 hZ (fun i e => .inl (Kd.R_base hF i e))
      have hKf := hKf.trans (BO hF hg5)
      have hZ := Nat.le_trans hZ hg5.size
      have hF := hF5
      refine ⟨fun _ => ⟨(Ac hz 2).trans rfl,(Ac hz 3).trans rfl,(Ac hb 3).trans rfl,hcfOf _ hB⟩,?_⟩
      refine Aq 15 (by kernel_rfl) G<|Bc (v := .slice A4 (t.1.length + 1) c4) (cs := dcs d.vars (p.getD d.start 0) NB FB t.1.length nb t.1.length fb) (i := 0 + 2) S27 G G G hz (by simp) ?_
      intro V6 hz6 hg6
      have hz6 : V6.heap[bz]? = some (.cells (dcs d.vars (p.getD d.start 0) A4 FB (t.1.length + 1) c4 t.1.length fb).toArray 35 (0,0)) := hz6
      refine ⟨fun h => absurd h (by decide),?_⟩
      refine CN (by kernel_rfl)<|Aj 16 G (by kernel_rfl) (fun _ _ _ h => h) G (fun v _ => AQ BP G v) trivial<|AA 17 (by kernel_rfl) G<|Bc (v := .slice A5 (t.1.length + 1) c5) (cs := dcs d.vars (p.getD d.start 0) A4 FB (t.1.length + 1) c4 t.1.length fb) (i := 0 + 3) S33 G G G hz6 (by simp) ?_
      intro V7 hz7 hg7
      have hz7 : V7.heap[bz]? = some (.cells (dcs d.vars (p.getD d.start 0) A4 A5 (t.1.length + 1) c4 (t.1.length + 1) c5).toArray 35 (0,0)) := hz7
      refine ⟨trivial,?_⟩
      refine AY (by kernel_rfl) ?_
      have hb6 := Ar hb hg6 (fun e => hneb (by injection e))
      have hb7 := Ar hb6 hg7 (fun e => hneb (by injection e))
      have hN7 := Ah (Ah hN hz (by decide) hg6) hz6 (by decide) hg7
      have hF7 := Ah (Ah hF hz (by decide) hg6) hz6 (by decide) hg7
      have hB6 := hB.grown hg6 hB.size (fun k e => by cases e; exact hbzw)
      have hB7 := hB6.grown hg7 hB6.size (fun k e => by cases e; exact hbzw)
      have hKp := (hKp.turn hg6 hZ (fun i e => by cases e; exact .inr rfl)).turn hg7 (Nat.le_trans hZ hg6.size) (fun i e => by cases e; exact .inr rfl)
      have hKf := (hKf.trans (BG hz hg6)).trans (BG hz6 hg7)
      have hZ := Nat.le_trans (Nat.le_trans hZ hg6.size) hg7.size
      refine ⟨hKf,hKp,A4,c4,A5,c5,?_⟩
      rw [hfo]
      exact ⟨hZ,hB7,h.kp.trans hKp,by rw [hk1]; exact hz7,by rw [hk1]; exact hN7,by rw [hk1]; exact hF7⟩
     ·have := True.intro
      refine BV Kd.bool w9.heap.size (p := (d.finO x.1)) (okp := fun _ => True) (AJ (u := .bool (d.finO x.1)) U33 I4 G G) G G hZ ?_
      intro Al cl_ V2 hl hb2
      have hz := Ab hz hb2
      have hb := Ab hb hb2
      have hB := Ad hB hb2
      have hKp := hKp.new hb2 hZ
      have hKf := hKf.trans (KeepsFrom.of_grownBy (Ap hb2 none) (fun j e => by cases e))
      have hZ := Nat.le_trans hZ hb2.size
      have hN := Kd.R_below hN hb2
      have hF := Kd.R_below hF hb2
      have hW := Kd.R_below hW hb2
      have hL := Kd.R_below hL hb2
      refine ⟨fun _ => ⟨(Ac hz 2).trans rfl,(Ac hz 3).trans rfl,(Ac hb 3).trans rfl,hcfOf _ hB⟩,?_⟩
      refine Aq 4 (by kernel_rfl) G<|BW Kii (Rr := Kii.M _ w9.heap.size (fun i => True ∧ some i ≠ (Value.slice AL 1 cL).ownBlock)) U27 CY G (by decide) (by decide) G G hN (CF hL) (okp := fun i => some i ≠ (Value.slice NB t.1.length nb).ownBlock) (fun _ _ h => Kii.M_mono (fun i hi => by
       obtain ⟨_,_,_,q,hq,cells,hc⟩ := hi
       intro e
       obtain ⟨cells2,hc2⟩ := Kd.R_typed hN i e.symm
       have hq3 : q = 3 := by simpa [Kii,Kd.slice,Kd.int,Kd.scalar] using hq
       subst hq3
       exact An hc hc2 (by decide) rfl) (Kii.M_bound h)) (fun _ h => ⟨trivial,h⟩) (fun _ _ => trivial) hZ (by first | omega | (rw [htwo]; omega)) ?_
      intro A4 c4 V4 hN4 hg4
      rw [hk1] at hN4 ⊢
      have hz := Bb hz hN (by decide) hg4
      have hb := Bb hb hN (by decide) hg4
      have hF := Kd.R_over hF hN (by decide) hg4
      have hl := Kd.R_over hl hN (by decide) hg4
      have hB := hB.grown hg4 hB.size (fun k hk => Nat.le_trans hwb (Kd.R_base hN k hk))
      have hKp := hKp.turn hg4 hZ (fun i e => .inl (Kd.R_base hN i e))
      have hKf := hKf.trans (BO hN hg4)
      have hZ := Nat.le_trans hZ hg4.size
      have hN := hN4
      refine ⟨fun _ => ⟨(Ac hz 2).trans rfl,(Ac hz 3).trans rfl,(Ac hb 3).trans rfl,hcfOf _ hB⟩,?_⟩
      refine AG 14 [15] G (by kernel_rfl) (fun _ _ _ h => h) G (fun v _ => AQ Bz G v) ⟨(Ac hz 2).trans rfl,(Ac hz 3).trans rfl,(Ac hb 3).trans rfl,hcfOf _ hB⟩<|Aq 13 (by kernel_rfl) G<|BW Kd.bool (Rr := Kd.bool.K _) U33 I4 G (by decide) (by decide) G G hF (Kd.R_reads' hl).2.2 (okp := fun i => some i ≠ (Value.slice FB t.1.length fb).ownBlock) (fun _ _ h => h) (fun _ h => ⟨trivial,h⟩) (fun _ _ => trivial) hZ (by first | omega | (rw [htwo]; omega)) ?_
      intro A5 c5 V5 hF5 hg5
      rw [hk2] at hF5 ⊢
      have hz := Bb hz hF (by decide) hg5
      have hb := Bb hb hF (by decide) hg5
      have hN := Kd.R_over hN hF (by decide) hg5
      have hB := hB.grown hg5 hB.size (fun k hk => Nat.le_trans hwb (Kd.R_base hF k hk))
      have hKp := hKp.turn hg5 hZ (fun i e => .inl (Kd.R_base hF i e))
      have hKf := hKf.trans (BO hF hg5)
      have hZ := Nat.le_trans hZ hg5.size
      have hF := hF5
      refine ⟨fun _ => ⟨(Ac hz 2).trans rfl,(Ac hz 3).trans rfl,(Ac hb 3).trans rfl,hcfOf _ hB⟩,?_⟩
      refine Aq 15 (by kernel_rfl) G<|Bc (v := .slice A4 (t.1.length + 1) c4) (cs := dcs d.vars (p.getD d.start 0) NB FB t.1.length nb t.1.length fb) (i := 0 + 2) S27 G G G hz (by simp) ?_
      intro V6 hz6 hg6
      have hz6 : V6.heap[bz]? = some (.cells (dcs d.vars (p.getD d.start 0) A4 FB (t.1.length + 1) c4 t.1.length fb).toArray 35 (0,0)) := hz6
      refine ⟨fun h => absurd h (by decide),?_⟩
      refine CN (by kernel_rfl)<|Aj 16 G (by kernel_rfl) (fun _ _ _ h => h) G (fun v _ => AQ BP G v) trivial<|AA 17 (by kernel_rfl) G<|Bc (v := .slice A5 (t.1.length + 1) c5) (cs := dcs d.vars (p.getD d.start 0) A4 FB (t.1.length + 1) c4 t.1.length fb) (i := 0 + 3) S33 G G G hz6 (by simp) ?_
      intro V7 hz7 hg7
      have hz7 : V7.heap[bz]? = some (.cells (dcs d.vars (p.getD d.start 0) A4 A5 (t.1.length + 1) c4 (t.1.length + 1) c5).toArray 35 (0,0)) := hz7
      refine ⟨trivial,?_⟩
      refine AY (by kernel_rfl) ?_
      have hb6 := Ar hb hg6 (fun e => hneb (by injection e))
      have hb7 := Ar hb6 hg7 (fun e => hneb (by injection e))
      have hN7 := Ah (Ah hN hz (by decide) hg6) hz6 (by decide) hg7
      have hF7 := Ah (Ah hF hz (by decide) hg6) hz6 (by decide) hg7
      have hB6 := hB.grown hg6 hB.size (fun k e => by cases e; exact hbzw)
      have hB7 := hB6.grown hg7 hB6.size (fun k e => by cases e; exact hbzw)
      have hKp := (hKp.turn hg6 hZ (fun i e => by cases e; exact .inr rfl)).turn hg7 (Nat.le_trans hZ hg6.size) (fun i e => by cases e; exact .inr rfl)
      have hKf := (hKf.trans (BG hz hg6)).trans (BG hz6 hg7)
      have hZ := Nat.le_trans (Nat.le_trans hZ hg6.size) hg7.size
      refine ⟨hKf,hKp,A4,c4,A5,c5,?_⟩
      rw [hfo]
      exact ⟨hZ,hB7,h.kp.trans hKp,by rw [hk1]; exact hz7,by rw [hk1]; exact hN7,by rw [hk1]; exact hF7⟩
    ·have := True.intro
     refine BV Kd.bool w9.heap.size (p := (d.finO x.1)) (okp := fun _ => True) (AJ (u := .bool (d.finO x.1)) U33 I4 G G) G G hZ ?_
     intro Al cl_ V2 hl hb2
     have hz := Ab hz hb2
     have hb := Ab hb hb2
     have hB := Ad hB hb2
     have hKp := hKp.new hb2 hZ
     have hKf := hKf.trans (KeepsFrom.of_grownBy (Ap hb2 none) (fun j e => by cases e))
     have hZ := Nat.le_trans hZ hb2.size
     have hN := Kd.R_below hN hb2
     have hF := Kd.R_below hF hb2
     have hW := Kd.R_below hW hb2
     refine ⟨fun _ => ⟨(Ac hz 2).trans rfl,(Ac hz 3).trans rfl,(Ac hb 3).trans rfl,hcfOf _ hB⟩,?_⟩
     refine Aq 3 (by kernel_rfl) G<|BV Kii w9.heap.size (p := (d.rowC p x.1)) (cs := [.slice AW row.length cW]) (okp := fun _ => True) (AJ (u := .slice AW row.length cW) U27 CY G G) (Kd.M_row (Kd.R_mono hW (fun _ _ => trivial))) G hZ ?_
     intro AL cL V2 hL hb2
     have hz := Ab hz hb2
     have hb := Ab hb hb2
     have hB := Ad hB hb2
     have hKp := hKp.new hb2 hZ
     have hKf := hKf.trans (KeepsFrom.of_grownBy (Ap hb2 none) (fun j e => by cases e))
     have hZ := Nat.le_trans hZ hb2.size
     have hN := Kd.R_below hN hb2
     have hF := Kd.R_below hF hb2
     have hW := Kd.R_below hW hb2
     have hl := Kd.R_below hl hb2
     refine ⟨fun _ => ⟨(Ac hz 2).trans rfl,(Ac hz 3).trans rfl,(Ac hb 3).trans rfl,hcfOf _ hB⟩,?_⟩
     refine Aq 4 (by kernel_rfl) G<|BW Kii (Rr := Kii.M _ w9.heap.size (fun i => True ∧ some i ≠ (Value.slice AL 1 cL).ownBlock)) U27 CY G (by decide) (by decide) G G hN (CF hL) (okp := fun i => some i ≠ (Value.slice NB t.1.length nb).ownBlock) (fun _ _ h => Kii.M_mono (fun i hi => by
      obtain ⟨_,_,_,q,hq,cells,hc⟩ := hi
      intro e
      obtain ⟨cells2,hc2⟩ := Kd.R_typed hN i e.symm
      have hq3 : q = 3 := by simpa [Kii,Kd.slice,Kd.int,Kd.scalar] using hq
      subst hq3
      exact An hc hc2 (by decide) rfl) (Kii.M_bound h)) (fun _ h => ⟨trivial,h⟩) (fun _ _ => trivial) hZ (by first | omega | (rw [htwo]; omega)) ?_
     intro A4 c4 V4 hN4 hg4
     rw [hk1] at hN4 ⊢
     have hz := Bb hz hN (by decide) hg4
     have hb := Bb hb hN (by decide) hg4
     have hF := Kd.R_over hF hN (by decide) hg4
     have hl := Kd.R_over hl hN (by decide) hg4
     have hB := hB.grown hg4 hB.size (fun k hk => Nat.le_trans hwb (Kd.R_base hN k hk))
     have hKp := hKp.turn hg4 hZ (fun i e => .inl (Kd.R_base hN i e))
     have hKf := hKf.trans (BO hN hg4)
     have hZ := Nat.le_trans hZ hg4.size
     have hN := hN4
     refine ⟨fun _ => ⟨(Ac hz 2).trans rfl,(Ac hz 3).trans rfl,(Ac hb 3).trans rfl,hcfOf _ hB⟩,?_⟩
     refine AG 14 [15] G (by kernel_rfl) (fun _ _ _ h => h) G (fun v _ => AQ Bz G v) ⟨(Ac hz 2).trans rfl,(Ac hz 3).trans rfl,(Ac hb 3).trans rfl,hcfOf _ hB⟩<|Aq 13 (by kernel_rfl) G<|BW Kd.bool (Rr := Kd.bool.K _) U33 I4 G (by decide) (by decide) G G hF (Kd.R_reads' hl).2.2 (okp := fun i => some i ≠ (Value.slice FB t.1.length fb).ownBlock) (fun _ _ h => h) (fun _ h => ⟨trivial,h⟩) (fun _ _ => trivial) hZ (by first | omega | (rw [htwo]; omega)) ?_
     intro A5 c5 V5 hF5 hg5
     rw [hk2] at hF5 ⊢
     have hz := Bb hz hF (by decide) hg5
     have hb := Bb hb hF (by decide) hg5
     have hN := Kd.R_over hN hF (by decide) hg5
     have hB := hB.grown hg5 hB.size (fun k hk => Nat.le_trans hwb (Kd.R_base hF k hk))
     have hKp := hKp.turn hg5 hZ (fun i e => .inl (Kd.R_base hF i e))
     have hKf := hKf.trans (BO hF hg5)
     have hZ := Nat.le_trans hZ hg5.size
     have hF := hF5
     refine ⟨fun _ => ⟨(Ac hz 2).trans rfl,(Ac hz 3).trans rfl,(Ac hb 3).trans rfl,hcfOf _ hB⟩,?_⟩
     refine Aq 15 (by kernel_rfl) G<|Bc (v := .slice A4 (t.1.length + 1) c4) (cs := dcs d.vars (p.getD d.start 0) NB FB t.1.length nb t.1.length fb) (i := 0 + 2) S27 G G G hz (by simp) ?_
     intro V6 hz6 hg6
     have hz6 : V6.heap[bz]? = some (.cells (dcs d.vars (p.getD d.start 0) A4 FB (t.1.length + 1) c4 t.1.length fb).toArray 35 (0,0)) := hz6
     refine ⟨fun h => absurd h (by decide),?_⟩
     refine CN (by kernel_rfl)<|Aj 16 G (by kernel_rfl) (fun _ _ _ h => h) G (fun v _ => AQ BP G v) trivial<|AA 17 (by kernel_rfl) G<|Bc (v := .slice A5 (t.1.length + 1) c5) (cs := dcs d.vars (p.getD d.start 0) A4 FB (t.1.length + 1) c4 t.1.length fb) (i := 0 + 3) S33 G G G hz6 (by simp) ?_
     intro V7 hz7 hg7
     have hz7 : V7.heap[bz]? = some (.cells (dcs d.vars (p.getD d.start 0) A4 A5 (t.1.length + 1) c4 (t.1.length + 1) c5).toArray 35 (0,0)) := hz7
     refine ⟨trivial,?_⟩
     refine AY (by kernel_rfl) ?_
     have hb6 := Ar hb hg6 (fun e => hneb (by injection e))
     have hb7 := Ar hb6 hg7 (fun e => hneb (by injection e))
     have hN7 := Ah (Ah hN hz (by decide) hg6) hz6 (by decide) hg7
     have hF7 := Ah (Ah hF hz (by decide) hg6) hz6 (by decide) hg7
     have hB6 := hB.grown hg6 hB.size (fun k e => by cases e; exact hbzw)
     have hB7 := hB6.grown hg7 hB6.size (fun k e => by cases e; exact hbzw)
     have hKp := (hKp.turn hg6 hZ (fun i e => by cases e; exact .inr rfl)).turn hg7 (Nat.le_trans hZ hg6.size) (fun i e => by cases e; exact .inr rfl)
     have hKf := (hKf.trans (BG hz hg6)).trans (BG hz6 hg7)
     have hZ := Nat.le_trans (Nat.le_trans hZ hg6.size) hg7.size
     refine ⟨hKf,hKp,A4,c4,A5,c5,?_⟩
     rw [hfo]
     exact ⟨hZ,hB7,h.kp.trans hKp,by rw [hk1]; exact hz7,by rw [hk1]; exact hN7,by rw [hk1]; exact hF7⟩
 ·rintro D xs V hD hS ⟨NB,nb,FB,fb,h⟩ hK
  have hS : xs.map (·.1) = List.range d.next.length := hS
  rw [hS] at h
  have hq : d.foQ p (List.range d.next.length) = ((d.quo p).next,(d.quo p).fin) := rfl
  have hqo := Gv hd hcan
  have hlf : (d.quo p).next.length = (d.quo p).fin.length := hqo.f.symm
  have hzq : V.heap[bz]? = some (.cells ((d.quo p).vals NB FB nb fb).toArray 35 (0,0)) := by
   rw [h.hz,hq]
   simp only [Df.vals]
   rw [← hlf]
   rfl
  have hDR : DR (d.quo p) V NB FB := by
   have h1 := (Kd.R_reads' h.hN).2.2
   have h3 := (Kd.R_reads' h.hF).2.2
   exact ⟨h1,h3⟩
  refine AX _ (by repeat' (first | exact BB | exact BD | exact Bl | refine Bi ?_ ?_ | refine Bk ?_ | refine Bj ?_ | refine AX _ ?_)) _ _ V (BS [(2,.pointer (some ⟨b2,0,none⟩)),(6,.pointer (some ⟨bz,0,none⟩))] _ ⟨by kernel_rfl,by kernel_rfl,rfl⟩) ?_
  refine AV (vs := (d.quo p).vals NB FB nb fb) G35 S35 G (Ak hzq)<|cl C28 [] G ((JD (d.quo p) hqo NB FB nb fb V hDR (hG.below h.low)).mono ?_)
  rintro e V1 ⟨NC,nc',BC,bc,K,rfl,hK',hRn,hRb,hb1⟩
  refine ⟨_,rfl,?_⟩
  refine oex G G<|oex G G<|?_
  have h2V := Ab (h.kp.cells h2 h2l9 hne2) hb1
  refine Bo (vs := dcs d.vars 0 NC BC K nc' K bc) (cs := dcs 0 0 none none 0 0 0 0) S35 rfl rfl rfl (by intro u hu; simp only [dcs,List.mem_cons,List.not_mem_nil,or_false] at hu; rcases hu with rfl | rfl | rfl | rfl <;> rfl) h2V (by simp) ?_
  intro V2 h22 hg2
  have h22 : V2.heap[b2]? = some (.cells (dcs d.vars 0 NC BC K nc' K bc).toArray 35 (0,0)) := h22
  refine ai G<|?_
  have hKD : V2.heap[D]? = some (.deferred (some [])) := by
   have h1 : V1.heap[D]? = some (.deferred (some [])) := (hb1.block D (Array.getElem?_eq_some_iff.1 hK).1).trans hK
   exact (hg2.block D (Array.getElem?_eq_some_iff.1 h1).1 (fun e => by cases e; rw [h1] at h2V; cases h2V)).trans h1
  have hVw := h.low.size
  have hBV := Ad h.low hb1
  refine rtmct G G G G hKD h22 G35 S35 ⟨NC,nc',BC,bc,K,rfl,hK',Kd.R_lower (Jn (Ah hRn h2V (by decide) hg2) hKD) hVw,Kd.R_lower (Jn (Ah hRb h2V (by decide) hg2) hKD) hVw,?_⟩
  exact (hBV.grown hg2 hBV.size (fun k e => by cases e; exact hb2w)).grown (Cm V2 D) (Nat.le_trans hBV.size hg2.size) (fun k e => by cases e; omega)
 ·rintro D c pre V hD hS h hK
  exact h.elim
theorem equal58 (A B : Option Addr) (ca cb : Nat) (l m : List Int) (w : World) (hl : (Kd.int .i64).C w A l.length l) (hm : (Kd.int .i64).C w B m.length m) (hb : l.length ≤ 1000000) :
  Calls Tryz.prog 58 #[.slice A l.length ca,.slice B m.length cb] w fun e w' => e = .returned (.bool (decide (l = m))) ∧ Below w.heap.size w w' := by
 refine enter 26 Tryz.func58 G G _ (by simp) ?_
 refine ab G<|ms G<|oln U22 G<|ms G<|oln U22 G<|one G G<|cdd G (fun h => ?_) (fun h => ?_)
 ·have hne : ¬ l = m := fun e => h (by rw [e])
  rw [decide_eq_false hne]
  refine ab G<|?_
  exact rt1 rfl rfl ⟨rfl,Below.refl _ _⟩
 ·have hlm : l.length = m.length := by
   by_cases e : l.length = m.length
   ·exact e
   ·exact absurd (fun e' : (l.length : Int) = m.length => e (by omega)) h
  refine ai G<|lp (σ := Nat) (fun k => [(0,.slice A l.length ca),(1,.slice B m.length cb),(5,.int .i64 k)])
   (fun k V => k ≤ l.length ∧ Below w.heap.size w V ∧ l.take k = m.take k) (fun k => l.length - k) 0 ⟨rfl,rfl,rfl,rfl⟩ ⟨Nat.zero_le _,Below.refl _ _,rfl⟩ ?_
  rintro k f V ⟨hk,hB,heq⟩
  refine mi G<|ms G<|oln U22 G<|olt G G<|cdd G (fun hlt => ?_) (fun hge => ?_)
  ·have hkl : k < l.length := Int.ofNat_lt.1 hlt
   have hkm : k < m.length := by omega
   obtain ⟨x,hx⟩ : ∃ x,l[k]? = some x := ⟨_,gE hkl⟩
   obtain ⟨y,hy⟩ : ∃ y,m[k]? = some y := ⟨_,gE hkm⟩
   obtain ⟨ada,rfl,hca⟩ := Au hl hx
   obtain ⟨adb,rfl,hcb⟩ := Au hm hy
   have hca := Ae hB hca
   have hcb := Ae hB hcb
   have htl : l.take (k + 1) = l.take k ++ [x] := by rw [List.take_succ_eq_append_getElem hkl]; rw [gE hkl] at hx; injection hx with hx; rw [hx]
   have htm : m.take (k + 1) = m.take k ++ [y] := by rw [List.take_succ_eq_append_getElem hkm]; rw [gE hkm] at hy; injection hy with hy; rw [hy]
   refine drt mixed 8 (by kernel_rfl) ?_
   intro V1 hb1 _ _
   have hB1 := Ad hB hb1
   have hca := Ae hb1 hca
   have hcb := Ae hb1 hcb
   refine spu (ms_ G)<|spu (mi_ G)<|spu (AU U22 Z3 G G (by first | assumption | omega))<|sru (Ai G3 G ‹_›)<|spu (ms_ G)<|spu (mi_ G)<|spu (AU U22 Z3 G G (by first | assumption | omega))<|sru (Ai G3 G ‹_›)<|?_
   refine one G G<|cdd G (fun hne => ?_) (fun hne => ?_)
   ·have h2 : ¬ l = m := fun e => by subst e; rw [hx] at hy; injection hy with hy; exact hne hy
    rw [decide_eq_false h2]
    refine ab G<|?_
    exact rt1 rfl rfl ⟨rfl,hB1⟩
   ·have hxy : x = y := Decidable.not_not.1 hne
    refine mi G<|oad G G (by first | assumption | omega)<|ai G<|?_
    exact ⟨k + 1,⟨rfl,rfl,rfl,rfl⟩,⟨hkl,hB1,by rw [htl,htm,heq,hxy]⟩,by omega⟩
  ·have hkk : k = l.length := by omega
   have : l = m := by rw [hkk,List.take_length,hlm,List.take_length] at heq; exact heq
   rw [decide_eq_true this]
   refine ab G<|?_
   exact rt1 rfl rfl ⟨rfl,hB⟩
theorem equal20 (A B : Option Addr) (ca cb : Nat) (l m : List Int) (w : World) (hl : (Kd.int .u8).C w A l.length l) (hm : (Kd.int .u8).C w B m.length m) (hb : l.length ≤ 1000000) :
  Calls Tryz.prog 20 #[.slice A l.length ca,.slice B m.length cb] w fun e w' => e = .returned (.bool (decide (l = m))) ∧ Below w.heap.size w w' := by
 refine enter 26 Tryz.func20 G G _ (by simp) ?_
 refine ab G<|ms G<|oln U26 G<|ms G<|oln U26 G<|one G G<|cdd G (fun h => ?_) (fun h => ?_)
 ·have hne : ¬ l = m := fun e => h (by rw [e])
  rw [decide_eq_false hne]
  refine ab G<|?_
  exact rt1 rfl rfl ⟨rfl,Below.refl _ _⟩
 ·have hlm : l.length = m.length := by
   by_cases e : l.length = m.length
   ·exact e
   ·exact absurd (fun e' : (l.length : Int) = m.length => e (by omega)) h
  refine ai G<|lp (σ := Nat) (fun k => [(0,.slice A l.length ca),(1,.slice B m.length cb),(5,.int .i64 k)])
   (fun k V => k ≤ l.length ∧ Below w.heap.size w V ∧ l.take k = m.take k) (fun k => l.length - k) 0 ⟨rfl,rfl,rfl,rfl⟩ ⟨Nat.zero_le _,Below.refl _ _,rfl⟩ ?_
  rintro k f V ⟨hk,hB,heq⟩
  refine mi G<|ms G<|oln U26 G<|olt G G<|cdd G (fun hlt => ?_) (fun hge => ?_)
  ·have hkl : k < l.length := Int.ofNat_lt.1 hlt
   have hkm : k < m.length := by omega
   obtain ⟨x,hx⟩ : ∃ x,l[k]? = some x := ⟨_,gE hkl⟩
   obtain ⟨y,hy⟩ : ∃ y,m[k]? = some y := ⟨_,gE hkm⟩
   obtain ⟨ada,rfl,hca⟩ := Au hl hx
   obtain ⟨adb,rfl,hcb⟩ := Au hm hy
   have hca := Ae hB hca
   have hcb := Ae hB hcb
   have htl : l.take (k + 1) = l.take k ++ [x] := by rw [List.take_succ_eq_append_getElem hkl]; rw [gE hkl] at hx; injection hx with hx; rw [hx]
   have htm : m.take (k + 1) = m.take k ++ [y] := by rw [List.take_succ_eq_append_getElem hkm]; rw [gE hkm] at hy; injection hy with hy; rw [hy]
   refine drt mixed 8 (by kernel_rfl) ?_
   intro V1 hb1 _ _
   have hB1 := Ad hB hb1
   have hca := Ae hb1 hca
   have hcb := Ae hb1 hcb
   refine spu (ms_ G)<|spu (mi_ G)<|spu (AU U26 Z5 G G (by first | assumption | omega))<|sru (Ai G5 G ‹_›)<|spu (ms_ G)<|spu (mi_ G)<|spu (AU U26 Z5 G G (by first | assumption | omega))<|sru (Ai G5 G ‹_›)<|?_
   refine one G G<|cdd G (fun hne => ?_) (fun hne => ?_)
   ·have h2 : ¬ l = m := fun e => by subst e; rw [hx] at hy; injection hy with hy; exact hne hy
    rw [decide_eq_false h2]
    refine ab G<|?_
    exact rt1 rfl rfl ⟨rfl,hB1⟩
   ·have hxy : x = y := Decidable.not_not.1 hne
    refine mi G<|oad G G (by first | assumption | omega)<|ai G<|?_
    exact ⟨k + 1,⟨rfl,rfl,rfl,rfl⟩,⟨hkl,hB1,by rw [htl,htm,heq,hxy]⟩,by omega⟩
  ·have hkk : k = l.length := by omega
   have : l = m := by rw [hkk,List.take_length,hlm,List.take_length] at heq; exact heq
   rw [decide_eq_true this]
   refine ab G<|?_
   exact rt1 rfl rfl ⟨rfl,hB⟩
theorem equal40 (A B : Option Addr) (ca cb : Nat) (l m : List Bool) (w : World) (hl : (Kd.bool).C w A l.length l) (hm : (Kd.bool).C w B m.length m) (hb : l.length ≤ 1000000) :
  Calls Tryz.prog 40 #[.slice A l.length ca,.slice B m.length cb] w fun e w' => e = .returned (.bool (decide (l = m))) ∧ Below w.heap.size w w' := by
 refine enter 26 Tryz.func40 G G _ (by simp) ?_
 refine ab G<|ms G<|oln U33 G<|ms G<|oln U33 G<|one G G<|cdd G (fun h => ?_) (fun h => ?_)
 ·have hne : ¬ l = m := fun e => h (by rw [e])
  rw [decide_eq_false hne]
  refine ab G<|?_
  exact rt1 rfl rfl ⟨rfl,Below.refl _ _⟩
 ·have hlm : l.length = m.length := by
   by_cases e : l.length = m.length
   ·exact e
   ·exact absurd (fun e' : (l.length : Int) = m.length => e (by omega)) h
  refine ai G<|lp (σ := Nat) (fun k => [(0,.slice A l.length ca),(1,.slice B m.length cb),(5,.int .i64 k)])
   (fun k V => k ≤ l.length ∧ Below w.heap.size w V ∧ l.take k = m.take k) (fun k => l.length - k) 0 ⟨rfl,rfl,rfl,rfl⟩ ⟨Nat.zero_le _,Below.refl _ _,rfl⟩ ?_
  rintro k f V ⟨hk,hB,heq⟩
  refine mi G<|ms G<|oln U33 G<|olt G G<|cdd G (fun hlt => ?_) (fun hge => ?_)
  ·have hkl : k < l.length := Int.ofNat_lt.1 hlt
   have hkm : k < m.length := by omega
   obtain ⟨x,hx⟩ : ∃ x,l[k]? = some x := ⟨_,gE hkl⟩
   obtain ⟨y,hy⟩ : ∃ y,m[k]? = some y := ⟨_,gE hkm⟩
   obtain ⟨ada,rfl,hca⟩ := Au hl hx
   obtain ⟨adb,rfl,hcb⟩ := Au hm hy
   have hca := Ae hB hca
   have hcb := Ae hB hcb
   have htl : l.take (k + 1) = l.take k ++ [x] := by rw [List.take_succ_eq_append_getElem hkl]; rw [gE hkl] at hx; injection hx with hx; rw [hx]
   have htm : m.take (k + 1) = m.take k ++ [y] := by rw [List.take_succ_eq_append_getElem hkm]; rw [gE hkm] at hy; injection hy with hy; rw [hy]
   refine drt mixed 8 (by kernel_rfl) ?_
   intro V1 hb1 _ _
   have hB1 := Ad hB hb1
   have hca := Ae hb1 hca
   have hcb := Ae hb1 hcb
   refine spu (ms_ G)<|spu (mi_ G)<|spu (AU U33 Z4 G G (by first | assumption | omega))<|sru (Ai G4 G ‹_›)<|spu (ms_ G)<|spu (mi_ G)<|spu (AU U33 Z4 G G (by first | assumption | omega))<|sru (Ai G4 G ‹_›)<|?_
   refine obn (by kernel_rfl) G G ?_
   cases hne : (x != y) with
   | true =>
    refine cdt G ?_
    have h2 : ¬ l = m := fun e => by subst e; rw [hx] at hy; injection hy with hy; subst hy; simp at hne
    rw [decide_eq_false h2]
    refine ab G<|?_
    exact rt1 rfl rfl ⟨rfl,hB1⟩
   | false =>
    refine cdf G ?_
    have hxy : x = y := by simpa using hne
    refine mi G<|oad G G (by first | assumption | omega)<|ai G<|?_
    exact ⟨k + 1,⟨rfl,rfl,rfl,rfl⟩,⟨hkl,hB1,by rw [htl,htm,heq,hxy]⟩,by omega⟩
  ·have hkk : k = l.length := by omega
   have : l = m := by rw [hkk,List.take_length,hlm,List.take_length] at heq; exact heq
   rw [decide_eq_true this]
   refine ab G<|?_
   exact rt1 rfl rfl ⟨rfl,hB⟩
theorem JR (A B : Option Addr) (ca cb : Nat) (l m : List (List Int)) (w : World) (hl : (Kii).C w A l.length l) (hm : (Kii).C w B m.length m) (hb : l.length ≤ 1000000) (hb2 : ∀ x ∈ l,x.length ≤ 1000000) :
  Calls Tryz.prog 26 #[.slice A l.length ca,.slice B m.length cb] w fun e w' => e = .returned (.bool (decide (l = m))) ∧ Below w.heap.size w w' := by
 refine enter 27 Tryz.func26 G G _ (by simp) ?_
 refine ab G<|ms G<|oln U27 G<|ms G<|oln U27 G<|one G G<|cdd G (fun h => ?_) (fun h => ?_)
 ·have hne : ¬ l = m := fun e => h (by rw [e])
  rw [decide_eq_false hne]
  refine ab G<|?_
  exact rt1 rfl rfl ⟨rfl,Below.refl _ _⟩
 ·have hlm : l.length = m.length := by
   by_cases e : l.length = m.length
   ·exact e
   ·exact absurd (fun e' : (l.length : Int) = m.length => e (by omega)) h
  refine ai G<|lp (σ := Nat) (fun k => [(0,.slice A l.length ca),(1,.slice B m.length cb),(5,.int .i64 k)])
   (fun k V => k ≤ l.length ∧ Below w.heap.size w V ∧ l.take k = m.take k) (fun k => l.length - k) 0 ⟨rfl,rfl,rfl,rfl⟩ ⟨Nat.zero_le _,Below.refl _ _,rfl⟩ ?_
  rintro k f V ⟨hk,hB,heq⟩
  refine mi G<|ms G<|oln U27 G<|olt G G<|cdd G (fun hlt => ?_) (fun hge => ?_)
  ·have hkl : k < l.length := Int.ofNat_lt.1 hlt
   have hkm : k < m.length := by omega
   obtain ⟨x,hx⟩ : ∃ x,l[k]? = some x := ⟨_,gE hkl⟩
   obtain ⟨y,hy⟩ : ∃ y,m[k]? = some y := ⟨_,gE hkm⟩
   obtain ⟨ada,cc,rfl,_,⟨RA,ra,rfl,_,hRowA⟩,hca⟩ := DG hl hx
   obtain ⟨adb,cc',rfl,_,⟨RB,rb,rfl,_,hRowB⟩,hcb⟩ := DG hm hy
   have hca : V.cell? (ada.add (k * 1)) = some (.slice RA x.length ra) := Ae hB (hca 0 _ rfl)
   have hcb : V.cell? (adb.add (k * 1)) = some (.slice RB y.length rb) := Ae hB (hcb 0 _ rfl)
   have htl : l.take (k + 1) = l.take k ++ [x] := by rw [List.take_succ_eq_append_getElem hkl]; rw [gE hkl] at hx; injection hx with hx; rw [hx]
   have htm : m.take (k + 1) = m.take k ++ [y] := by rw [List.take_succ_eq_append_getElem hkm]; rw [gE hkm] at hy; injection hy with hy; rw [hy]
   refine drt mixed 8 (by kernel_rfl) ?_
   intro V1 hb1 _ _
   have hB1 := Ad hB hb1
   have hca := Ae hb1 hca
   have hcb := Ae hb1 hcb
   refine spu (ms_ G)<|spu (mi_ G)<|spu (AU U27 Z22 G G (by first | assumption | omega))<|sru (Ai G22 G ‹_›)<|spu (ms_ G)<|spu (mi_ G)<|spu (AU U27 Z22 G G (by first | assumption | omega))<|sru (Ai G22 G ‹_›)<|?_
   refine cl C58 [] G ((equal58 RA RB ra rb x y V1 (Kd.C_below hRowA hB1) (Kd.C_below hRowB hB1) (hb2 x (List.mem_of_getElem? hx))).mono ?_)
   rintro e V2 ⟨rfl,hb2'⟩
   refine ⟨_,rfl,?_⟩
   have hB2 := Ad hB1 hb2'
   by_cases hxy : x = y
   ·rw [decide_eq_true hxy]
    refine ont G<|cdf G<|mi G<|oad G G (by first | assumption | omega)<|ai G<|?_
    exact ⟨k + 1,⟨rfl,rfl,rfl,rfl⟩,⟨hkl,hB2,by rw [htl,htm,heq,hxy]⟩,by omega⟩
   ·have h2 : ¬ l = m := fun e => by subst e; rw [hx] at hy; injection hy with hy; exact hxy hy
    rw [decide_eq_false h2,decide_eq_false hxy]
    refine ont G<|cdt G<|ab G<|?_
    exact rt1 rfl rfl ⟨rfl,hB2⟩
  ·have hkk : k = l.length := by omega
   have : l = m := by rw [hkk,List.take_length,hlm,List.take_length] at heq; exact heq
   rw [decide_eq_true this]
   refine ab G<|?_
   exact rt1 rfl rfl ⟨rfl,hB⟩
theorem KJ (d g : Df) (hd : d.next.length ≤ 4096) (hd2 : ∀ r ∈ d.next,r.length ≤ 64) (hd3 : d.fin.length ≤ 4096) (NA FA NB FB : Option Addr) (nc fc nc' fc' : Nat) (w : World) (hr : DR d w NA FA) (hr' : DR g w NB FB) :
  Calls Tryz.prog 9 #[.agg (d.vals NA FA nc fc).toArray,.agg (g.vals NB FB nc' fc').toArray] w fun e w' => e = .returned (.bool (decide (d.vars = g.vars ∧ d.start = g.start ∧ d.next = g.next ∧ d.fin = g.fin))) ∧ Below w.heap.size w w' := by
 refine enter 31 Tryz.func9 G G _ (by simp) ?_
 refine obx (cs := d.vals NA FA nc fc) G G ?_
 intro b w1 hbe hbb hb1
 refine obx (cs := g.vals NB FB nc' fc') G G ?_
 intro b' w2 hbe' hbb' hb2
 have hbb := Ab hbb hb2
 have hB := Ad hb1 hb2
 have c0 : w2.cell? ⟨b,0 + 0,none⟩ = some (.int .i64 (d.vars : Nat)) := (Ac hbb 0).trans rfl
 have d0 : w2.cell? ⟨b',0 + 0,none⟩ = some (.int .i64 (g.vars : Nat)) := (Ac hbb' 0).trans rfl
 have c1 : w2.cell? ⟨b,0 + 1,none⟩ = some (.int .i64 (d.start : Nat)) := (Ac hbb 1).trans rfl
 have d1 : w2.cell? ⟨b',0 + 1,none⟩ = some (.int .i64 (g.start : Nat)) := (Ac hbb' 1).trans rfl
 have c2 : w2.cell? ⟨b,0 + 2,none⟩ = some (.slice NA d.next.length nc) := (Ac hbb 2).trans rfl
 have d2 : w2.cell? ⟨b',0 + 2,none⟩ = some (.slice NB g.next.length nc') := (Ac hbb' 2).trans rfl
 refine ab G<|?_
 by_cases h0 : d.vars = g.vars
 ·by_cases h1 : d.start = g.start
  ·refine ofa CE G<|old G3 G ‹_›<|ofa CE G<|old G3 G ‹_›<|oeq G G<|ist (by rw [h0]) ?_
   refine mb G<|gon G<|ofa CT G<|gon G<|old G3 G ‹_›<|gon G<|ofa CT G<|gon G<|old G3 G ‹_›<|gon G<|oeq G G<|ist (by rw [h1]) ?_
   refine ptb G G<|mb G<|gon G<|ofa Bz G<|gon G<|old G27 G ‹_›<|gon G<|ofa Bz G<|gon G<|old G27 G ‹_›<|gon G<|cl C26 [] G ((JR NA NB nc nc' d.next g.next w2 (Kd.C_below hr.next hB) (Kd.C_below hr'.next hB) (by omega) (fun x hx => by have := hd2 x hx; omega)).mono ?_)
   rintro e w3 ⟨rfl,hb3⟩
   refine ⟨_,rfl,?_⟩
   have hB3 := Ad hB hb3
   have c3 : w3.cell? ⟨b,0 + 3,none⟩ = some (.slice FA d.fin.length fc) := (Ac (Ab hbb hb3) 3).trans rfl
   have d3 : w3.cell? ⟨b',0 + 3,none⟩ = some (.slice FB g.fin.length fc') := (Ac (Ab hbb' hb3) 3).trans rfl
   by_cases h2 : d.next = g.next
   ·rw [decide_eq_true h2]
    refine ptb G G<|mb G<|gon G<|ofa BP G<|gon G<|old G33 G ‹_›<|gon G<|ofa BP G<|gon G<|old G33 G ‹_›<|gon G<|cl C40 [] G ((equal40 FA FB fc fc' d.fin g.fin w3 (Kd.C_below hr.fin hB3) (Kd.C_below hr'.fin hB3) (by omega)).mono ?_)
    rintro e w4 ⟨rfl,hb4⟩
    refine ⟨_,rfl,?_⟩
    refine ptb G G<|ab G<|?_
    rw [show decide (d.vars = g.vars ∧ d.start = g.start ∧ d.next = g.next ∧ d.fin = g.fin) = decide (d.fin = g.fin) from decide_eq_decide.2 ⟨fun h => h.2.2.2,fun h => ⟨h0,h1,h2,h⟩⟩]
    exact rt1 rfl rfl ⟨rfl,Ad hB3 hb4⟩
   ·rw [decide_eq_false h2]
    refine ptb G G<|mb G<|gof G<|gof G<|gof G<|gof G<|gof G<|pfb G G<|ab G<|?_
    rw [show decide (d.vars = g.vars ∧ d.start = g.start ∧ d.next = g.next ∧ d.fin = g.fin) = false from decide_eq_false (fun h => h2 h.2.2.1)]
    exact rt1 rfl rfl ⟨rfl,hB3⟩
  ·refine ofa CE G<|old G3 G ‹_›<|ofa CE G<|old G3 G ‹_›<|oeq G G<|ist (by rw [h0]) ?_
   refine mb G<|gon G<|ofa CT G<|gon G<|old G3 G ‹_›<|gon G<|ofa CT G<|gon G<|old G3 G ‹_›<|gon G<|oeq G G<|isf (by omega) ?_
   refine ptb G G<|mb G<|gof G<|gof G<|gof G<|gof G<|gof G<|pfb G G<|mb G<|gof G<|gof G<|gof G<|gof G<|gof G<|pfb G G<|ab G<|?_
   rw [show decide (d.vars = g.vars ∧ d.start = g.start ∧ d.next = g.next ∧ d.fin = g.fin) = false from decide_eq_false (fun h => h1 h.2.1)]
   exact rt1 rfl rfl ⟨rfl,hB⟩
 ·refine ofa CE G<|old G3 G ‹_›<|ofa CE G<|old G3 G ‹_›<|oeq G G<|isf (by omega) ?_
  refine mb G<|gof G<|gof G<|gof G<|gof G<|gof G<|pfb G G<|mb G<|gof G<|gof G<|gof G<|gof G<|gof G<|pfb G G<|mb G<|gof G<|gof G<|gof G<|gof G<|gof G<|pfb G G<|ab G<|?_
  rw [show decide (d.vars = g.vars ∧ d.start = g.start ∧ d.next = g.next ∧ d.fin = g.fin) = false from decide_eq_false (fun h => h0 h.1)]
  exact rt1 rfl rfl ⟨rfl,hB⟩
end
end Go.Proofs.YtmjllchdhcdinaaGreatDoor

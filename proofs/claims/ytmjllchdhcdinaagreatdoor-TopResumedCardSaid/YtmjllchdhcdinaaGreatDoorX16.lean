/- Part of the proof: Y1 Y2 Y3 Y4 Y5 Y6. -/
import Derived.Test.YtmjllchdhcdinaaGreatDoorX15
set_option linter.unusedVariables false
set_option linter.unusedSimpArgs false
set_option maxRecDepth 100000
set_option maxHeartbeats 8000000
namespace Go.Proofs.YtmjllchdhcdinaaGreatDoor
section
open Go Fm Go.RowKit Go.Proofs.YtmjllchdhcdinaaGreatDoorW.PrintWords
theorem setOf_snoc (l : List Int) (j : Int) : AR (l ++ [j]) = AR l ||| 2 ^ j.toNat := by simp [AR,List.foldl_append]
theorem ru_set {n : Nat} {f : Fm n} {W : World} {x : Operand} {ty : Nat} {s : Nat} (hx : ex f x = .int .u64 (s : Nat)) : Ru Tryz.prog (.buildSlice 82 1 #[(0,x)]) ty f W = .ok (.value (.slice (some ⟨W.heap.size,0,none⟩) 1 1)) (W.alloc (.cells #[.int .u64 (s : Nat)] 49)) := AJ U82 I49 hx rfl
theorem set104 (A : Option Addr) (c : Nat) (l : List Int) (w : World) (hl : (Kd.int .i64).C w A l.length l) (h : ∀ k ∈ l,0 ≤ k ∧ k < 62) :
  Calls Tryz.prog 104 #[.slice A l.length c] w fun e w' => ∃ r,e = .returned r ∧ SetB w' w.heap.size r (AR l) ∧ Below w.heap.size w w' := by
 have hmax := Kd.C_max hl
 refine enter 21 Tryz.func104 G G _ (by simp) ?_
 refine asl G<|ai G<|ms G<|oln U22 G<|mi G<|lp (σ := Nat) (fun k => [(3,.int .u64 (AR (l.take k) : Nat)),(6,.slice A l.length c),(7,.int .i64 l.length),(8,.int .i64 (k : Nat))])
  (fun k V => k ≤ l.length ∧ V = w) (fun k => l.length - k) 0 ⟨rfl,rfl,rfl,rfl,rfl⟩ ⟨Nat.zero_le _,rfl⟩ ?_
 rintro k f V ⟨hk,rfl⟩
 have hlt2 : AR (l.take k) < 4611686018427387904 := D9 (fun x hx => h x (List.mem_of_mem_take hx))
 refine olt G G<|cdd G (fun hlt => ?_) (fun hge => ?_)
 ·have hkl : k < l.length := Int.ofNat_lt.1 hlt
  obtain ⟨m,hm⟩ : ∃ m,l[k]? = some m := ⟨_,gE hkl⟩
  obtain ⟨ad,rfl,hcell⟩ := Au hl hm
  have hmr := h m (List.mem_of_getElem? hm)
  obtain ⟨j,rfl⟩ : ∃ j : Nat,m = j := ⟨m.toNat,by omega⟩
  have hj : j ≤ 61 := by omega
  have hp : 2 ^ j ≤ 2 ^ 61 := Nat.pow_le_pow_right (by decide) hj
  have hsh : 1 * 2 ^ j < 2 ^ (IntKind.bits .u64 - 1) := by rw [Nat.one_mul]; exact Nat.lt_of_le_of_lt hp (by decide)
  refine AD U22 Z3 G G (by first | assumption | omega)<|old G3 G ‹_›<|ai G<|?_
  refine mi G<|mi G<|I8 (a := 1) (b := j) G G (by show j < 64; omega) hsh ?_
  refine oor (a := AR (l.take k)) (b := 1 * 2 ^ j) G G (Nat.lt_trans hlt2 (by decide)) hsh<|ai G<|oad G G (by first | assumption | omega)<|mi G<|?_
  have e : l.take (k + 1) = l.take k ++ [(j : Int)] := by rw [List.take_succ_eq_append_getElem hkl]; rw [gE hkl] at hm; injection hm with e; rw [e]
  refine ⟨k + 1,⟨?_,rfl,rfl,rfl,rfl⟩,⟨hkl,rfl⟩,by omega⟩
  exact congrArg (fun s : Nat => Value.int .u64 (s : Int)) (by rw [e,setOf_snoc,Nat.one_mul]; rfl)
 ·have hkn : k = l.length := by omega
  subst hkn
  rw [List.take_length] at hlt2 ⊢
  by_cases hz : AR l = 0
  ·refine mi G<|oeq G G<|ist (by rw [hz]; rfl) ?_
   refine cdt G<|asl G<|?_
   exact rt1 rfl rfl ⟨_,rfl,by rw [hz]; exact SetB.nil _ _,Below.refl _ _⟩
  ·refine mi G<|oeq G G<|isf (by omega) ?_
   refine cdf G<|mi G<|BH (ru_set (s := AR l) G)<|asl G<|rt1 G G ⟨_,rfl,⟨_,1,1,rfl,Nat.le_refl _,.inr ⟨hz,rfl,_,[Value.int .u64 (AR l : Nat)].toArray,rfl,Nat.le_refl _,World.alloc_heap_new _ _,rfl⟩⟩,AP (Below.refl _ _) _⟩
def DL (s : Nat) : List Int := if s = 0 then [] else [(dgt s : Nat),32]
abbrev HC (s : Nat) : ByteArray := strOfNums [(dgt s : Nat)]
theorem bits150b (s : Nat) (w : World) (hs : s < 36) :
  Calls Tryz.prog 150 #[.slice none 0 0,.int .u64 (s : Nat),.int .i64 (36 : Nat),.bool false,.bool false] w fun e w' => e = .returned (.tuple #[.slice none 0 0,.string (HC s)]) ∧ Below w.heap.size w w' := by
 refine enter 102 Tryz.func150 G G _ (by simp) ?_
 refine asl G<|ast G<|mi G<|olt G G<|isf (by omega)<|mb G<|gon G<|mi G<|gon G<|oeq G G<|isf (by omega)<|pfb G G<|mb G<|gon G<|mi G<|gon G<|ogt G G<|isf (by omega)<|pfb G G<|?_
 refine cdf G<|oal (v := .agg zs65.toArray) (cs := zs65) (fun _ => by kernel_rfl) G ?_
 intro b w1 hbe hbb hb1
 refine ai G<|mb G<|cdf G<|mi G<|cl L5 [] G ((Ky 36 w1 (.inr G)).mono ?_)
 rintro e w2 ⟨rfl,rfl⟩
 refine ⟨_,rfl,?_⟩
 refine cdf G<|mi G<|CU (a := 36) UI3 KU G (by decide)<|ai G<|lp (σ := Unit) (fun _ => [(0,.slice none 0 0),(1,.int .u64 (s : Nat)),(3,.bool false),(4,.bool false),(10,.slice none 0 0),(12,.pointer (some ⟨b,0,none⟩)),(13,.int .i64 (65 : Nat)),(17,.int .u64 (36 : Nat))])
  (fun _ V => V = w2) (fun _ => 0) () ⟨rfl,rfl,rfl,rfl,rfl,rfl,rfl,rfl,rfl⟩ rfl ?_
 rintro _ f V rfl
 obtain ⟨by_,hby,hbe2⟩ := H4 s hs
 refine mi G<|mi G<|oge G G<|cdd G (fun h => absurd h (by omega)) (fun _ => ?_)
 refine mi G<|osb G G (by first | assumption | omega)<|ai G<|?_
 refine mi G<|mi G<|Lx (i := s) (b := by_) US9 G G hby<|Ee (i := 65 - 1) IY ZB5 G G (by decide)<|Bc (v := .int .u8 (by_.toNat : Nat)) (cs := zs65) (i := 64) S5 G G G hbb (by simp) ?_
 intro V1 hbb1 hg1
 refine mb G<|cdf G<|mb G<|cdf G<|mi G<|LK (l := 64) IY ZB5 G G (by decide) ?_
 have hC := Lk hbb1 (xs := [(dgt s : Nat)]) (i := 64) (by simp) (fun j x hj => by
  rcases j with _ | j
  ·injection hj with hj; subst hj; rw [hbe2]; rfl
  ·cases hj)
 have hcv : (convert 26 9 (Value.slice (some ((⟨b,0,none⟩ : Addr).add (64 * 1))) 1 1)).run Tryz.prog V1 = .ok (.string (HC s)) V1 := Kd.C_string (src := 26) (dst := 9) (c := 1) U26 UI5 US9 hC
 refine BH (v := .string (HC s)) (w1 := V1) ?_ ?_
 ·simp only [Ru,execOp]
  show (do let v ← convert 26 9 (Value.slice (some ((⟨b,0,none⟩ : Addr).add (64 * 1))) 1 1); pure (Next.value v) : Sem Next).run Tryz.prog V1 = _
  simp only [Sem.run_bind,hcv,Result.andThen_ok,Sem.run_pure]
 refine ast G<|?_
 exact rt2 rfl rfl rfl ⟨rfl,hb1.grown hg1 hb1.size (fun k e => by cases e; omega)⟩
theorem fmt166 (s : Nat) (w : World) (hs : s < 36) :
  Calls Tryz.prog 166 #[.int .u64 (s : Nat),.int .i64 (36 : Nat)] w fun e w' => e = .returned (.string (HC s)) ∧ Below w.heap.size w w' := by
 refine enter 32 Tryz.func166 G G _ (by simp) ?_
 refine ast G<|mi G<|oeq G G<|isf (by omega)<|?_
 refine cdf G<|mi G<|mi G<|cl Ma [] G ((bits150b s w hs).mono ?_)
 rintro e w1 ⟨rfl,hb1⟩
 refine ⟨_,rfl,?_⟩
 refine mv G<|oex G G<|oex G G<|asl G<|ast G<|mt G<|ast G<|?_
 exact rt1 rfl rfl ⟨rfl,hb1⟩
theorem fmt142 (s : Nat) (w : World) (hs : s < 36) :
  Calls Tryz.prog 142 #[.int .u64 (s : Nat),.int .i64 (36 : Nat)] w fun e w' => e = .returned (.string (HC s)) ∧ Below w.heap.size w w' := by
 refine enter 8 Tryz.func142 G G _ (by simp) ?_
 refine ast G<|mi G<|mi G<|cl L6 [] G ((fmt166 s w hs).mono ?_)
 rintro e w1 ⟨rfl,hb1⟩
 refine ⟨_,rfl,?_⟩
 refine ast G<|?_
 exact rt1 rfl rfl ⟨rfl,hb1⟩
theorem write124 (B b : Nat) (bs : List Value) (s : ByteArray) (w : World) (h : Lib.IsBuilder 207 5 B b bs w) (hlen : bs.length + s.size ≤ 140737488355328) (hBw : B ≤ w.heap.size) :
  Calls Tryz.prog 124 #[.pointer (some ⟨b,0,none⟩),.string s] w fun e w' => e = .returned (.tuple #[.int .i64 s.size,.nilIface]) ∧ (Lib.BuilderAt 207 5 B b (.pointer (some ⟨b,0,none⟩)) (bs ++ Lib.strCells s) w' ∧ Below B w w') :=
 Any.Builder_WriteString { Tryz.lays156 with } Tryz.Builder_Extra_156 B b bs s w h hlen hBw
theorem string125 (B b : Nat) (l : List UInt8) (w : World) (h : Lib.IsBuilder 207 5 B b (Lib.byteCells l) w) (hBw : B ≤ w.heap.size) :
  Calls Tryz.prog 125 #[.pointer (some ⟨b,0,none⟩)] w fun e w' => e = .returned (.string ⟨l.toArray⟩) ∧ Below B w w' :=
 Any.Builder_String_any { Tryz.lays156 with } Tryz.Builder_Extra_156 B b l w h hBw
section
variable {n : Nat} {P : Program} {ops : Array Oper} {rest : List Oper} {Q : Bd n} {W : World} {f : Fm n} {d ty t t' : Nat} {x y : Operand} {pos : String} {aft : Array Edge} {a b : ByteArray}
theorem oas_ (hx : ex f x = .string a) (hy : ex f y = .string b) (h : a.size + b.size ≤ 9223372036854775807) : Pv P (.binOp .add t x y t') ty f (.string (a ++ b)) := fun W => by
 simp [Ru,execOp,hx,hy,go_sem]
 exact h
theorem oas (hx : ex f x = .string a) (hy : ex f y = .string b) (h : a.size + b.size ≤ 9223372036854775807) (r : RL P ops Q rest (up f d (.string (a ++ b))) W) : LS P ops Q ⟨some d,.binOp .add t x y t',ty,pos,aft,none⟩ rest f W := Bq (oas_ hx hy h) r
end
theorem strOfNums_append (l m : List Int) : strOfNums l ++ strOfNums m = strOfNums (l ++ m) := by
 apply ByteArray.ext
 apply Array.toList_inj.1
 rw [strOfNums_data]
 simp [ByteArray.data_append,strOfNums_data]
theorem isB_below {B b : Nat} {bs : List Value} {w w1 : World} (h : Lib.IsBuilder 207 5 B b bs w) (hb : Below w.heap.size w w1) : Lib.IsBuilder 207 5 B b bs w1 := by
 rcases h with ⟨h0,v,h1,h2,h3⟩ | ⟨h0,v,h1,h2,h3⟩
 ·exact .inl ⟨h0,v,Ab h1 hb,E6 h2 hb,h3⟩
 ·exact .inr ⟨h0,v,Ab h1 hb,E6 h2 hb,h3⟩
theorem Jb (u : Value) (x bx : Nat) (w : World) (hu : SetB w bx u x) (hx : x < 36) :
  Calls Tryz.prog 105 #[u] w fun e w' => e = .returned (.string (strOfNums (DL x))) ∧ Below w.heap.size w w' := by
 obtain ⟨A,n,c,rfl,hnc,hor⟩ := id hu
 have hn1 : n ≤ 1 := by rcases hor with h | h <;> omega
 refine enter 18 Tryz.func105 G G _ (by simp) ?_
 refine ast G<|oal (v := .agg #[.pointer none,.slice none 0 0]) (cs := [.pointer none,.slice none 0 0]) (fun _ => by kernel_rfl) G ?_
 intro b w1 hbe hbb hb1
 have hbu : Lib.IsBuilder 207 5 w.heap.size b (Lib.byteCells (strOfNums []).data.toList) w1 := .inl ⟨by omega,_,hbb,JH _ _ _ _,by simp [Value.ownBlock]⟩
 refine ms G<|oln U82 G<|mi G<|lp (σ := Nat) (fun k => [(3,.pointer (some ⟨b,0,none⟩)),(6,.slice A n c),(7,.int .i64 (n : Nat)),(8,.int .i64 (k : Nat))])
  (fun k V => k ≤ n ∧ Below w.heap.size w V ∧ Lib.IsBuilder 207 5 w.heap.size b (Lib.byteCells (strOfNums (if k = 0 then [] else DL x)).data.toList) V) (fun k => n - k) 0 ⟨rfl,rfl,rfl,rfl,rfl⟩ ⟨Nat.zero_le _,hb1,hbu⟩ ?_
 clear hbb hb1 hbu hor
 rintro k f V ⟨hk,hB,hbu⟩
 refine olt G G<|cdd G (fun hlt => ?_) (fun hge => ?_)
 ·have hkl : k < n := Int.ofNat_lt.1 hlt
  have hk0 : k = 0 := by omega
  subst hk0
  obtain ⟨A',n',c',he,_,hor⟩ := hu.below hB
  injection he with he1 he2 he3
  subst he1 he2 he3
  rcases hor with ⟨_,h0⟩ | ⟨hx0,hn0,g,cs,rfl,hgb,hg,h1⟩
  ·omega
  ·have hcell : V.cell? ((⟨g,0,none⟩ : Addr).add (0 * 1)) = some (.int .u64 (x : Nat)) := by rw [Nat.zero_mul,BF,Ac hg]; exact h1
   refine AD U82 Z49 G G (by first | assumption | omega)<|old G49 G ‹_›<|ai G<|?_
   refine mi G<|cl Mb [] G ((fmt142 x V hx).mono ?_)
   rintro e V1 ⟨rfl,hb2⟩
   refine ⟨_,rfl,?_⟩
   refine oas (a := HC x) (b := strOfNums [32]) G (by kernel_rfl) (by rw [strOfNums_size,strOfNums_size]; simp) ?_
   have hbu1 := isB_below hbu hb2
   rw [strOfNums_append]
   have hkey : DL x = [((dgt x : Nat) : Int)] ++ [32] := by unfold DL; rw [if_neg hx0]; rfl
   rw [← hkey]
   refine cl C124 [] G ((write124 w.heap.size b _ _ V1 hbu1 (by rw [strOfNums_size,hkey]; simp [strOfNums_data,Lib.byteCells]) (Nat.le_trans hB.size hb2.size)).mono ?_)
   rintro e V2 ⟨rfl,hbu2,hb3⟩
   refine ⟨_,rfl,?_⟩
   refine oad G G (by first | assumption | omega)<|mi G<|?_
   refine ⟨1,⟨rfl,rfl,rfl,rfl,rfl⟩,⟨hkl,(Ad hB hb2).trans hb3,.inr ?_⟩,by omega⟩
   exact hbu2
 ·have hke : (if k = 0 then [] else DL x) = DL x := by
   obtain ⟨A',n',c',he,_,hor⟩ := hu
   injection he with he1 he2 he3
   subst he1 he2 he3
   split
   ·rcases hor with ⟨h0,_⟩ | ⟨_,h1,_⟩
    ·rw [h0]; rfl
    ·omega
   ·rfl
  rw [hke] at hbu
  refine cl C125 [] G ((string125 w.heap.size b _ V hbu hB.size).mono ?_)
  rintro e V2 ⟨rfl,hb3⟩
  refine ⟨_,rfl,?_⟩
  refine ast G<|?_
  exact rt1 rfl rfl ⟨rfl,hB.trans hb3⟩
theorem index235 (A : Option Addr) (c : Nat) (l : List Int) (x : Int) (w : World) (hl : (Kd.int .i64).C w A l.length l) :
  Calls Tryz.prog 235 #[.slice A l.length c,.int .i64 x] w fun e w' => ∃ r : Int,e = .returned (.int .i64 r) ∧ (0 ≤ r ↔ x ∈ l) ∧ w' = w := by
 have hmax := Kd.C_max hl
 refine enter 19 Tryz.func235 G G _ (by simp) ?_
 refine ai G<|ms G<|oln U22 G<|mi G<|lp (σ := Nat) (fun k => [(0,.slice A l.length c),(1,.int .i64 x),(7,.int .i64 l.length),(8,.int .i64 (k : Nat))])
  (fun k V => k ≤ l.length ∧ V = w ∧ x ∉ l.take k) (fun k => l.length - k) 0 ⟨rfl,rfl,rfl,rfl,rfl⟩ ⟨Nat.zero_le _,rfl,by simp⟩ ?_
 rintro k f V ⟨hk,rfl,hno⟩
 refine olt G G<|cdd G (fun hlt => ?_) (fun hge => ?_)
 ·have hkl : k < l.length := Int.ofNat_lt.1 hlt
  obtain ⟨m,hm⟩ : ∃ m,l[k]? = some m := ⟨_,gE hkl⟩
  obtain ⟨ad,rfl,hcell⟩ := Au hl hm
  refine mi G<|ai G<|?_
  by_cases he : x = m
  ·refine mi G<|ms G<|mi G<|AD U22 Z3 G G (by first | assumption | omega)<|old G3 G ‹_›<|oeq G G<|ist (by omega)<|?_
   refine cdt G<|mi G<|ai G<|?_
   exact rt1 rfl rfl ⟨_,rfl,by rw [he]; exact ⟨fun _ => List.mem_of_getElem? hm,fun _ => by omega⟩,rfl⟩
  ·refine mi G<|ms G<|mi G<|AD U22 Z3 G G (by first | assumption | omega)<|old G3 G ‹_›<|oeq G G<|isf (by omega)<|?_
   refine cdf G<|oad G G (by first | assumption | omega)<|mi G<|?_
   refine ⟨k + 1,⟨rfl,rfl,rfl,rfl,rfl⟩,⟨hkl,rfl,?_⟩,by omega⟩
   rw [List.take_succ_eq_append_getElem hkl]
   rw [gE hkl] at hm
   injection hm with hm
   rw [hm]
   simp [hno,he]
 ·have hkn : k = l.length := by omega
  subst hkn
  rw [List.take_length] at hno
  refine ai G<|?_
  exact rt1 rfl rfl ⟨-1,rfl,⟨fun h => absurd h (by decide),fun h => absurd h hno⟩,rfl⟩
theorem contains234 (A : Option Addr) (c : Nat) (l : List Int) (x : Int) (w : World) (hl : (Kd.int .i64).C w A l.length l) :
  Calls Tryz.prog 234 #[.slice A l.length c,.int .i64 x] w fun e w' => (∃ b,e = .returned (.bool b) ∧ (b = true ↔ x ∈ l)) ∧ w' = w := by
 refine enter 9 Tryz.func234 G G _ (by simp) ?_
 refine ab G<|ms G<|mi G<|cl C235 [] G ((index235 A c l x w hl).mono ?_)
 rintro e w1 ⟨r,rfl,hr,rfl⟩
 refine ⟨_,rfl,?_⟩
 by_cases h : 0 ≤ r
 ·refine oge G G<|ist h<|ab G<|?_
  exact rt1 rfl rfl ⟨⟨true,rfl,⟨fun _ => hr.1 h,fun _ => rfl⟩⟩,rfl⟩
 ·refine oge G G<|isf h<|ab G<|?_
  exact rt1 rfl rfl ⟨⟨false,rfl,⟨(fun e => by cases e),fun e => absurd (hr.2 e) h⟩⟩,rfl⟩
theorem in233 (A : Option Addr) (c b : Nat) (l : List Int) (x : Int) (w : World) (hl : (Kd.int .i64).C w A l.length l) (hb : w.heap[b]? = some (.cells [.slice A l.length c].toArray 22 (0,0))) :
  Calls Tryz.prog 233 #[.int .i64 x,.pointer (some ⟨b,0,none⟩)] w fun e w' => (∃ b,e = .returned (.bool b) ∧ (b = true ↔ x ∈ l)) ∧ w' = w := by
 have hc : w.cell? ⟨b,0,none⟩ = some (.slice A l.length c) := (Ac hb 0).trans rfl
 refine enter 7 Tryz.func233 G G _ (by simp) ?_
 refine ab G<|old G22 G ‹_›<|mi G<|cl C234 [] G ((contains234 A c l x w hl).mono ?_)
 rintro e w1 ⟨⟨b1,rfl,hb1⟩,rfl⟩
 refine ⟨_,rfl,?_⟩
 refine ab G<|?_
 exact rt1 rfl rfl ⟨⟨b1,rfl,hb1⟩,rfl⟩
theorem index99g (k : Nat) (caps : List Value) (hC : Ag Tryz.prog k) (p : Int → Prop) (RA : Option Addr) (rc : Nat) (l : List Int) (w : World) (hl : (Kd.int .i64).C w RA l.length l)
  (hp : ∀ x ∈ l,Calls Tryz.prog k (Value.int .i64 x :: caps).toArray w fun e w' => (∃ b,e = .returned (.bool b) ∧ (b = true ↔ p x)) ∧ w' = w) :
  Calls Tryz.prog 99 #[.slice RA l.length rc,.func (.func k) #[] caps.toArray] w fun e w' => ∃ r : Int,e = .returned (.int .i64 r) ∧ (0 ≤ r ↔ ∃ x ∈ l,p x) ∧ w' = w := by
 have hmax := Kd.C_max hl
 refine enter 19 Tryz.func99 G G _ (by simp) ?_
 refine ai G<|ms G<|oln U22 G<|mi G<|lp (σ := Nat) (fun j => [(0,.slice RA l.length rc),(1,.func (.func k) #[] caps.toArray),(7,.int .i64 l.length),(8,.int .i64 (j : Nat))])
  (fun j V => j ≤ l.length ∧ V = w ∧ ∀ x ∈ l.take j,¬ p x) (fun j => l.length - j) 0 ⟨rfl,rfl,rfl,rfl,rfl⟩ ⟨Nat.zero_le _,rfl,by simp⟩ ?_
 rintro j f V ⟨hj,rfl,hno⟩
 refine olt G G<|cdd G (fun hlt => ?_) (fun hge => ?_)
 ·have hkl : j < l.length := Int.ofNat_lt.1 hlt
  obtain ⟨m,hm⟩ : ∃ m,l[j]? = some m := ⟨_,gE hkl⟩
  obtain ⟨ad,rfl,hcell⟩ := Au hl hm
  refine mi G<|ai G<|mf G<|ms G<|mi G<|AD U22 Z3 G G (by first | assumption | omega)<|old G3 G ‹_›<|?_
  refine cl hC caps G ((hp m (List.mem_of_getElem? hm)).mono ?_)
  rintro e w1 ⟨⟨b,rfl,hb⟩,rfl⟩
  refine ⟨_,rfl,?_⟩
  cases b with
  | true =>
   refine cdt G<|mi G<|ai G<|?_
   exact rt1 rfl rfl ⟨_,rfl,⟨fun _ => ⟨m,List.mem_of_getElem? hm,hb.1 rfl⟩,fun _ => by omega⟩,rfl⟩
  | false =>
   refine cdf G<|oad G G (by first | assumption | omega)<|mi G<|?_
   refine ⟨j + 1,⟨rfl,rfl,rfl,rfl,rfl⟩,⟨hkl,rfl,fun x hx hpx => ?_⟩,by omega⟩
   rw [List.take_succ_eq_append_getElem hkl] at hx
   rw [gE hkl] at hm
   injection hm with hm
   rcases List.mem_append.1 hx with hx | hx
   ·exact hno x hx hpx
   ·rw [List.mem_singleton.1 hx,hm] at hpx
    have := hb.2 hpx
    cases this
 ·have hkn : j = l.length := by omega
  subst hkn
  rw [List.take_length] at hno
  refine ai G<|?_
  exact rt1 rfl rfl ⟨-1,rfl,⟨fun h => absurd h (by decide),fun ⟨x,h1,h2⟩ => absurd h2 (hno x h1)⟩,rfl⟩
theorem containsf232 (k : Nat) (caps : List Value) (hC : Ag Tryz.prog k) (p : Int → Prop) (RA : Option Addr) (rc : Nat) (l : List Int) (w : World) (hl : (Kd.int .i64).C w RA l.length l)
  (hp : ∀ x ∈ l,Calls Tryz.prog k (Value.int .i64 x :: caps).toArray w fun e w' => (∃ b,e = .returned (.bool b) ∧ (b = true ↔ p x)) ∧ w' = w) :
  Calls Tryz.prog 232 #[.slice RA l.length rc,.func (.func k) #[] caps.toArray] w fun e w' => (∃ b,e = .returned (.bool b) ∧ (b = true ↔ ∃ x ∈ l,p x)) ∧ w' = w := by
 refine enter 9 Tryz.func232 G G _ (by simp) ?_
 refine ab G<|ms G<|mf G<|cl C99 [] G ((index99g k caps hC p RA rc l w hl hp).mono ?_)
 rintro e w1 ⟨r,rfl,hr,rfl⟩
 refine ⟨_,rfl,?_⟩
 by_cases h : 0 ≤ r
 ·refine oge G G<|ist h<|ab G<|?_
  exact rt1 rfl rfl ⟨⟨true,rfl,⟨fun _ => hr.1 h,fun _ => rfl⟩⟩,rfl⟩
 ·refine oge G G<|isf h<|ab G<|?_
  exact rt1 rfl rfl ⟨⟨false,rfl,⟨(fun e => by cases e),fun e => absurd (hr.2 e) h⟩⟩,rfl⟩
def CC (s k : Nat) : List Int := ((List.range k).filter fun i => s / 2 ^ i % 2 == 1).map fun i : Nat => (i : Int)
def J1 : Nat → Nat → List Int
 | 0,_ => []
 | n + 1,w => if w = 0 then [] else ((Lib.ctz 64 w : Nat) : Int) :: J1 n (w &&& (w - 1))
theorem J0 : ∀ (n w : Nat),w ≤ n → bitsW w = J1 n w
 | 0,w,h => by rw [show w = 0 by omega,CL]; rfl
 | n + 1,w,h => by
  unfold J1
  split
  ·rename_i h0; rw [h0,CL]
  ·rename_i h0
   rw [EQ h0,J0 n _ (by have := CR h0; omega)]
theorem H9 : ∀ s,s < 32 → CC s 64 = bitsW s := by
 have h : ∀ s : Fin 32,CC s.1 64 = J1 32 s.1 := by decide
 intro s hs
 rw [J0 32 s (by omega)]
 exact h ⟨s,hs⟩
theorem ER (s k : Nat) : CC s (k + 1) = if s / 2 ^ k % 2 = 1 then CC s k ++ [(k : Int)] else CC s k := by
 unfold CC
 rw [List.range_succ,List.filter_append,List.map_append]
 split
 ·rename_i h; simp [h]
 ·rename_i h; simp [h]
theorem bitsL_len (s k : Nat) : (CC s k).length ≤ k := by
 unfold CC
 rw [List.length_map]
 exact Nat.le_trans (List.length_filter_le _ _) (by simp)
theorem JK (u : Value) (s bx : Nat) (w : World) (hu : SetB w bx u s) (hs : s < 32) :
  Calls Tryz.prog 231 #[u] w fun e w' => ∃ A c,e = .returned (.slice A (bitsW s).length c) ∧ (Kd.int .i64).R 3 w' w.heap.size (fun _ => True) (.slice A (bitsW s).length c) (bitsW s) ∧ Below w.heap.size w w' := by
 obtain ⟨A,n,c,rfl,hnc,hor⟩ := id hu
 have hn1 : n ≤ 1 := by rcases hor with h | h <;> omega
 refine enter 25 Tryz.func231 G G _ (by simp) ?_
 refine asl G<|mi G<|lp (σ := Nat × Option Addr × Nat) (fun q => [(0,.slice A n c),(2,.slice q.2.1 (CC s q.1).length q.2.2),(4,.int .i64 (q.1 : Nat))])
  (fun q V => q.1 ≤ 64 ∧ Below w.heap.size w V ∧ (Kd.int .i64).R 3 V w.heap.size (fun _ => True) (.slice q.2.1 (CC s q.1).length q.2.2) (CC s q.1)) (fun q => 64 - q.1) (0,none,0) ⟨rfl,rfl,rfl,rfl⟩ ⟨Nat.zero_le _,Below.refl _ _,Kd.R_nil _ _ _ _ _⟩ ?_
 rintro ⟨k,A2,c2⟩ f V ⟨hk,hB,hR⟩
 simp only at hk hR
 refine olt G G<|cdd G (fun hlt => ?_) (fun hge => ?_)
 ·have hkl : k < 64 := Int.ofNat_lt.1 hlt
  have hbl := bitsL_len s k
  refine mi G<|ai G<|?_
  have hoff : s / 2 ^ k % 2 ≠ 1 → CC s k = CC s (k + 1) := fun h => by rw [ER,if_neg h]
  rcases hor with ⟨h0,h1⟩ | ⟨hx0,hn,g,cs,rfl,hgb,hg,h1⟩
  ·subst h0 h1
   refine ms G<|oln U82 G<|ogt G G<|isf (by omega)<|mb G<|gof G<|gof G<|gof G<|gof G<|gof G<|gof G<|gof G<|pfb G G<|?_
   refine cdf G<|oad G G (by first | assumption | omega)<|mi G<|?_
   have e := hoff (by simp)
   refine ⟨(k + 1,A2,c2),⟨rfl,?_,rfl,rfl⟩,⟨hkl,hB,?_⟩,by dsimp only; omega⟩
   ·exact congrArg (fun l : List Int => Value.slice A2 l.length c2) e
   ·dsimp only; rw [← e]; exact hR
  ·subst hn
   have hcell : V.cell? ((⟨g,0,none⟩ : Addr).add (0 * 1)) = some (.int .u64 (s : Nat)) := by rw [Nat.zero_mul,BF]; exact Ae hB ((Ac hg 0).trans h1)
   have hsl : s / 2 ^ k < 2 ^ (IntKind.bits .u64 - 1) := Nat.lt_of_le_of_lt (Nat.div_le_self _ _) (Nat.lt_trans hs (by decide))
   have hand : s / 2 ^ k &&& 1 = s / 2 ^ k % 2 := Nat.and_one_is_mod _
   refine ms G<|oln U82 G<|ogt G G<|ist (by omega)<|mb G<|?_
   refine gon G<|ms G<|gon G<|oix (i := 0) U82 Z49 G G (by decide)<|gon G<|old G49 G ‹_›<|gon G<|mi G<|gon G<|LL (a := s) (b := k) G G (by show k < 64; omega) ?_
   refine gon G<|oan (a := s / 2 ^ k) (b := 1) G G hsl (by decide) ?_
   by_cases hb : s / 2 ^ k % 2 = 1
   ·refine gon G<|one G G<|ist (by rw [hand,hb]; decide) ?_
    refine ptb G G<|cdt G ?_
    have e : CC s (k + 1) = CC s k ++ [(k : Int)] := by rw [ER,if_pos hb]
    refine ms G<|mi G<|EJ (bytes := 8) (Kd.int .i64) (p := (k : Int)) (cs := [.int .i64 (k : Int)]) (okp := fun _ => False) U22 I3 G (by decide) (by decide) G (by simp) G (AJ U22 I3 G G) hR G (fun i hi => hi.elim) (fun _ _ => trivial) hB.size (by omega) ?_
    intro A3 c3 V3 hw3 hg3
    refine asl G<|oad G G (by first | assumption | omega)<|mi G<|?_
    refine ⟨(k + 1,A3,c3),⟨rfl,?_,rfl,rfl⟩,⟨hkl,hB.grown hg3 hB.size (fun b hb => Kd.R_base hR b hb),?_⟩,by dsimp only; omega⟩
    ·exact congrArg (fun l : List Int => Value.slice A3 l.length c3) e.symm
    ·dsimp only; rw [e]; exact hw3
   ·refine gon G<|one G G<|isf (by rw [hand]; omega) ?_
    refine ptb G G<|cdf G<|oad G G (by first | assumption | omega)<|mi G<|?_
    have e := hoff hb
    refine ⟨(k + 1,A2,c2),⟨rfl,?_,rfl,rfl⟩,⟨hkl,hB,?_⟩,by dsimp only; omega⟩
    ·exact congrArg (fun l : List Int => Value.slice A2 l.length c2) e
    ·dsimp only; rw [← e]; exact hR
 ·have hk64 : k = 64 := by omega
  subst hk64
  rw [H9 s hs] at hR ⊢
  refine ms G<|asl G<|?_
  exact rt1 rfl rfl ⟨_,_,rfl,hR,hB⟩
theorem Es (l : List Int) (h : ∀ k ∈ l,0 ≤ k) (j : Nat) : (AR l).testBit j = true ↔ (j : Int) ∈ l := by
 unfold AR
 suffices ∀ (l : List Int) (s : Nat),(∀ k ∈ l,0 ≤ k) → ((l.foldl (fun s k => s ||| 2 ^ k.toNat) s).testBit j = true ↔ s.testBit j = true ∨ (j : Int) ∈ l) by
  have := this l 0 h
  simpa using this
 intro l
 induction l with
 | nil => simp
 | cons k l ih =>
  intro s h
  have hk := h k (List.mem_cons_self ..)
  rw [List.foldl_cons,ih _ (fun x hx => h x (List.mem_cons_of_mem _ hx))]
  rw [Nat.testBit_or,Bool.or_eq_true,Nat.testBit_two_pow,decide_eq_true_eq,List.mem_cons]
  constructor
  ·rintro ((h1 | h1) | h1)
   ·exact .inl h1
   ·exact .inr (.inl (by omega))
   ·exact .inr (.inr h1)
  ·rintro (h1 | h1 | h1)
   ·exact .inl (.inl h1)
   ·exact .inl (.inr (by omega))
   ·exact .inr h1
theorem Fs {l : List Int} {s : Nat} (h : ∀ k ∈ l,0 ≤ k ∧ k < s) : AR l < 2 ^ s := by
 unfold AR
 suffices ∀ (l : List Int) (t : Nat),(∀ k ∈ l,0 ≤ k ∧ k < s) → t < 2 ^ s → l.foldl (fun s k => s ||| 2 ^ k.toNat) t < 2 ^ s from this _ _ h (Nat.two_pow_pos _)
 intro l
 induction l with
 | nil => exact fun s _ hs => hs
 | cons k l ih =>
  intro t hl hs
  refine ih _ (fun x hx => hl x (List.mem_cons_of_mem _ hx)) (Nat.or_lt_two_pow hs ?_)
  have := hl k (List.mem_cons_self ..)
  exact Nat.pow_lt_pow_right (by decide) (by omega)
theorem Hi : ∀ (a b : List Int),a.Pairwise (· < ·) → b.Pairwise (· < ·) → (∀ x,x ∈ a ↔ x ∈ b) → a = b
 | [],b,_,_,h => by
  cases b with
  | nil => rfl
  | cons y b => exact absurd ((h y).2 (List.mem_cons_self ..)) (by simp)
 | x :: a,[],_,_,h => absurd ((h x).1 (List.mem_cons_self ..)) (by simp)
 | x :: a,y :: b,ha,hb,h => by
  rw [List.pairwise_cons] at ha hb
  have hxy : x = y := by
   rcases List.mem_cons.1 ((h x).1 (List.mem_cons_self ..)) with e | h1
   ·exact e
   ·rcases List.mem_cons.1 ((h y).2 (List.mem_cons_self ..)) with e | h2
    ·exact e.symm
    ·have := ha.1 y h2; have := hb.1 x h1; omega
  subst hxy
  rw [Hi a b ha.2 hb.2 (fun z => ?_)]
  have := h z
  simp only [List.mem_cons] at this
  constructor
  ·intro hz
   rcases this.1 (.inr hz) with e | h1
   ·have := ha.1 z hz; omega
   ·exact h1
  ·intro hz
   rcases this.2 (.inr hz) with e | h1
   ·have := hb.1 z hz; omega
   ·exact h1
theorem Asc.pair {s : Nat} {l : List Int} (h : Asc s l) : l.Pairwise (· < ·) := by
 rw [List.pairwise_iff_getElem]
 intro i j hi hj hij
 induction j with
 | zero => omega
 | succ j ih =>
  have h1 := h.lt j l[j] l[j + 1] (gE (by omega)) (gE hj)
  by_cases e : i = j
  ·subst e; exact h1
  ·exact Int.lt_trans (ih (by omega) (by omega)) h1
theorem Ev (s k : Nat) (x : Int) : x ∈ CC s k ↔ ∃ j : Nat,x = j ∧ j < k ∧ s.testBit j = true := by
 unfold CC
 simp only [List.mem_map,List.mem_filter,List.mem_range,beq_iff_eq,Nat.testBit_eq_decide_div_mod_eq,decide_eq_true_eq]
 constructor
 ·rintro ⟨j,⟨h1,h2⟩,rfl⟩; exact ⟨j,rfl,h1,h2⟩
 ·rintro ⟨j,rfl,h1,h2⟩; exact ⟨j,⟨h1,h2⟩,rfl⟩
theorem ES (s : Nat) : ∀ k,(CC s k).Pairwise (· < ·)
 | 0 => List.Pairwise.nil
 | k + 1 => by
  rw [ER]
  split
  ·rw [List.pairwise_append]
   refine ⟨ES s k,List.pairwise_singleton _ _,fun a ha b hb => ?_⟩
   obtain ⟨j,rfl,hj,_⟩ := (Ev s k a).1 ha
   rw [List.mem_singleton.1 hb]
   omega
  ·exact ES s k
theorem bitsW_setOf {s : Nat} {l : List Int} (h : Asc s l) (hs : s ≤ 5) : bitsW (AR l) = l := by
 have hlt : AR l < 32 := Nat.lt_of_lt_of_le (Fs h.bnd) (Nat.pow_le_pow_right (n := 2) (by decide) hs)
 rw [← H9 _ hlt]
 refine Hi _ _ (ES _ _) h.pair (fun x => ?_)
 rw [Ev]
 constructor
 ·rintro ⟨j,rfl,_,h1⟩; exact (Es l (fun k hk => (h.bnd k hk).1) j).1 h1
 ·intro hx
  have := h.bnd x hx
  exact ⟨x.toNat,by omega,by omega,(Es l (fun k hk => (h.bnd k hk).1) _).2 (by rw [show ((x.toNat : Nat) : Int) = x by omega]; exact hx)⟩
theorem meets_iff {s : Nat} (hs : s < 32) {t : Nat} {l : List Int} (h : Asc t l) : (∃ x ∈ l,x ∈ bitsW s) ↔ s &&& AR l ≠ 0 := by
 rw [← H9 s hs]
 constructor
 ·rintro ⟨x,hx,hb⟩ h0
  obtain ⟨j,rfl,_,hj⟩ := (Ev _ _ _).1 hb
  have h1 := (Es l (fun k hk => (h.bnd k hk).1) j).2 hx
  have := congrArg (fun n => Nat.testBit n j) h0
  simp [Nat.testBit_and,hj,h1] at this
 ·intro h0
  obtain ⟨j,hj⟩ := Nat.exists_testBit_of_ne_zero h0
  rw [Nat.testBit_and,Bool.and_eq_true] at hj
  have hx := (Es l (fun k hk => (h.bnd k hk).1) j).1 hj.2
  refine ⟨(j : Int),hx,(Ev _ _ _).2 ⟨j,rfl,?_,hj.1⟩⟩
  refine Nat.lt_of_not_le fun hge => ?_
  have : s.testBit j = false := Nat.testBit_lt_two_pow (Nat.lt_of_lt_of_le hs (Nat.le_trans (by decide : 32 ≤ 2 ^ 64) (Nat.pow_le_pow_right (by decide) hge)))
  rw [this] at hj; cases hj.1
abbrev DY (s : Nat) : ByteArray := strOfNums (DL s)
theorem GD : ∀ s t : Nat,s < 32 → t < 32 → DY s = DY t → s = t := by
 have h : ∀ s t : Fin 32,(DL s.1).map (fun n => UInt8.ofNat n.toNat) = (DL t.1).map (fun n => UInt8.ofNat n.toNat) → s = t := by decide
 intro s t hs ht e
 have e2 : (strOfNums (DL s)).data.toList = (strOfNums (DL t)).data.toList := by rw [show strOfNums (DL s) = strOfNums (DL t) from e]
 rw [strOfNums_data,strOfNums_data] at e2
 have := h ⟨s,hs⟩ ⟨t,ht⟩ e2
 injection this
structure Dl where
 SA : Option Addr
 FA : Option Addr
 EA : Option Addr
 sA : Option Addr
 lA : Option Addr
 nA : Option Addr
 bA : Option Addr
 cs : Nat
 cf : Nat
 ce : Nat
 c1 : Nat
 c2 : Nat
 c3 : Nat
 c4 : Nat
 m : Nat
abbrev Dl.cells (D : Dl) (n : Na) (o k : Nat) : List Value := [.int .i64 (n.vars : Nat),.int .i64 (n.states : Nat),.slice D.SA n.start.length D.cs,.slice D.FA n.fin.length D.cf,.slice D.EA n.edges.length D.ce,.slice D.sA o D.c1,.slice D.lA o D.c2,.map (some D.m),.slice D.nA k D.c3,.slice D.bA k D.c4]
structure DS (n : Na) (base p : Nat) (D : Dl) (o : List Nat) (nx : List (List Int)) (fb : List Bool) (W : World) : Prop where
 blk : W.heap[p]? = some (.cells (D.cells n o.length nx.length).toArray 120 (0,0))
 st : (Kd.int .i64).R 3 W base (fun _ => True) (.slice D.SA n.start.length D.cs) n.start
 fi : (Kd.int .i64).R 3 W base (fun _ => True) (.slice D.FA n.fin.length D.cf) n.fin
 ed : Ed.kd.R 71 W base (fun _ => True) (.slice D.EA n.edges.length D.ce) n.edges
 sets : kset.R 82 W base (fun _ => True) (.slice D.sA o.length D.c1) o
 rows : ∃ L1 L2 : Nat → Prop,(∀ i,L1 i → ¬ L2 i) ∧ Kii.R 22 W base L1 (.slice D.lA o.length D.c2) (o.map bitsW) ∧ Kii.R 22 W base L2 (.slice D.nA nx.length D.c3) nx
 map : MapIs W D.m (nums DY o)
 fin : Kd.bool.R 4 W base (fun _ => True) (.slice D.bA nx.length D.c4) fb
 hp : base ≤ p
 hm : base ≤ D.m
 hb : fb.length = nx.length
section
variable {n : Na} {base p : Nat} {D : Dl} {o : List Nat} {nx : List (List Int)} {fb : List Bool} {W W1 : World}
theorem DS.nr (h : DS n base p D o nx fb W) : NR n W D.SA D.FA D.EA := ⟨(Kd.R_reads' h.st).2.2,(Kd.R_reads' h.fi).2.2,(Kd.R_reads' h.ed).2.2⟩
theorem DS.below (h : DS n base p D o nx fb W) (hb : Below W.heap.size W W1) : DS n base p D o nx fb W1 := by
 obtain ⟨L1,L2,h1,h2,h3⟩ := h.rows
 exact ⟨Ab h.blk hb,Kd.R_below h.st hb,Kd.R_below h.fi hb,Kd.R_below h.ed hb,Kd.R_below h.sets hb,⟨L1,L2,h1,Kd.R_below h2 hb,Kd.R_below h3 hb⟩,h.map.below hb,Kd.R_below h.fin hb,h.hp,h.hm,h.hb⟩
theorem DS.lt (h : DS n base p D o nx fb W) : base ≤ W.heap.size := Nat.le_trans h.hp (Nat.le_of_lt (Am h.blk))
theorem DS.turn {j : Nat} {cs : Array Value} (h : DS n base p D o nx fb W) (hj : W.heap[j]? = some (.cells cs 113 (0,0))) (hg : W.grownBy W1 (some j)) : DS n base p D o nx fb W1 := by
 obtain ⟨L1,L2,h1,h2,h3⟩ := h.rows
 exact ⟨(hg.block p (Am h.blk) (fun e => An h.blk hj (by decide) (by injection e))).trans h.blk,Ah h.st hj (by decide) hg,Ah h.fi hj (by decide) hg,Ah h.ed hj (by decide) hg,Ah h.sets hj (by decide) hg,⟨L1,L2,h1,Ah h2 hj (by decide) hg,Ah h3 hj (by decide) hg⟩,h.map.keep hg hj,Ah h.fin hj (by decide) hg,h.hp,h.hm,h.hb⟩
end
theorem JN (n : Na) (base p : Nat) (D : Dl) (o : List Nat) (nx : List (List Int)) (fb : List Bool) (w : World) (h : DS n base p D o nx fb w) :
  Calls Tryz.prog 229 #[.pointer (some ⟨p,0,none⟩)] w fun e w' => e = .returned (.bool (decide (nx.length < o.length))) ∧ Below w.heap.size w w' := by
 refine enter 14 Tryz.func229 G G _ (by simp) ?_
 refine ab G<|drt mixed 10 (by kernel_rfl) ?_
 intro w1 hb1 _ _
 have hb := Ab h.blk hb1
 have hc8 : w1.cell? ⟨p,0 + 8,none⟩ = some (.slice D.nA nx.length D.c3) := (Ac hb 8).trans rfl
 have hc5 : w1.cell? ⟨p,0 + 5,none⟩ = some (.slice D.sA o.length D.c1) := (Ac hb 5).trans rfl
 by_cases hlt : nx.length < o.length
 ·refine spu (mp_ G)<|spu (BN G)<|spu (AQ FQ G)<|sru (Ai G27 G ‹_›)<|spu (Ec U27 G)<|spu (mp_ G)<|spu (BN G)<|spu (AQ En G)<|sru (Ai G84 G ‹_›)<|spu (Ec U84 G)<|olt G G<|ist (by omega)<|ab G<|?_
  exact rt1 rfl rfl ⟨by rw [decide_eq_true hlt]; rfl,hb1⟩
 ·refine spu (mp_ G)<|spu (BN G)<|spu (AQ FQ G)<|sru (Ai G27 G ‹_›)<|spu (Ec U27 G)<|spu (mp_ G)<|spu (BN G)<|spu (AQ En G)<|sru (Ai G84 G ‹_›)<|spu (Ec U84 G)<|olt G G<|isf (by omega)<|ab G<|?_
  exact rt1 rfl rfl ⟨by rw [decide_eq_false hlt]; rfl,hb1⟩
def FT (i : Nat) (fr : List Nat) : List (ByteArray × Value) := (fr.zipIdx i).map fun p => (DY p.1,Value.int .i64 (p.2 : Nat))
theorem numsI_snoc (i : Nat) (fr : List Nat) (t : Nat) : FT i (fr ++ [t]) = FT i fr ++ [(DY t,.int .i64 (i + fr.length : Nat))] := by
 simp [FT,List.zipIdx_append]
theorem find_numsI (i : Nat) {fr : List Nat} (h : ∀ u ∈ fr,u < 32) {t : Nat} (ht : t < 32) : BK (FT i fr) (DY t) = if t ∈ fr then some (.int .i64 ((fr.idxOf t + i : Nat) : Int)) else none := FD DY (fun s => s < 32) GD t ht fr i h
theorem JB.row {base base' e : Nat} {A B C : World} {α : Type} {d : Kd α} {ok : Nat → Prop} {v : Value} {xs : List α} (h : JB base A B) (hr : d.R e B base' ok v xs) (ht : 113 ≠ e) (hg : B.grownBy C v.ownBlock) (hb : base ≤ base') : JB base A C := by
 cases ho : v.ownBlock with
 | none => rw [ho] at hg; exact h.new ((Below.refl _ _).grown hg (Nat.le_refl _) (fun k e => by cases e))
 | some g =>
  obtain ⟨cells,hc⟩ := Kd.R_typed hr g ho
  rw [ho] at hg
  exact h.turn hg hc ht (Nat.le_trans hb (Kd.R_base hr g ho))
theorem JB.map {base r : Nat} {A B C : World} {ks : List (ByteArray × Value)} (h : JB base A B) (hm : MapIs B r ks) (hg : B.grownBy C (some r)) (hb : base ≤ r) : JB base A C :=
 ⟨h.low.grown hg h.lt' (fun k e => by cases e; exact hb),h.keep.trans (fun _ _ hi => hm.cells hg hi),h.lt⟩
def OKs (N0 N1 : Nat) (V1 : World) (i : Nat) : Prop := (i < N0 ∨ N1 ≤ i) ∨ ∃ cs,V1.heap[i]? = some (.cells cs 49 (0,0))
structure DU (n : Na) (base p N0 N1 : Nat) (V1 w : World) (D : Dl) (nx : List (List Int)) (fb : List Bool) (L1 L2 : Nat → Prop) (sv : Value) (s : Nat) (bc : List Value) (vS : Value) (oS : List Nat) (vL : Value) (oL : List (List Int)) (oM : List Nat) (W : World) : Prop where
 blk : W.heap[p]? = some (.cells bc.toArray 120 (0,0))
 st : (Kd.int .i64).R 3 W base (fun _ => True) (.slice D.SA n.start.length D.cs) n.start
 fi : (Kd.int .i64).R 3 W base (fun _ => True) (.slice D.FA n.fin.length D.cf) n.fin
 ed : Ed.kd.R 71 W base (fun _ => True) (.slice D.EA n.edges.length D.ce) n.edges
 sets : kset.R 82 W base (OKs N0 N1 V1) vS oS
 lists : Kii.R 22 W base (fun i => (L1 i ∧ i < N0) ∨ N1 ≤ i) vL oL
 next : Kii.R 22 W base (fun i => L2 i ∧ i < N0) (.slice D.nA nx.length D.c3) nx
 map : MapIs W D.m (nums DY oM)
 fin : Kd.bool.R 4 W base (fun _ => True) (.slice D.bA nx.length D.c4) fb
 reg : ∀ i,N0 ≤ i → i < N1 → W.heap[i]? = V1.heap[i]?
 sz : N1 ≤ W.heap.size
 jb : JB base w W
 sv : SetB W 0 sv s
 hp : base ≤ p
 hm : base ≤ D.m
 pN : p < N0
 mN : D.m < N0
 nn : N0 ≤ N1
 dis : ∀ i,L1 i → ¬ L2 i
section
variable {n : Na} {base p N0 N1 : Nat} {V1 w : World} {D : Dl} {nx : List (List Int)} {fb : List Bool} {L1 L2 : Nat → Prop} {sv : Value} {s : Nat} {bc bc' : List Value} {vS vS' : Value} {oS oS' : List Nat} {vL vL' : Value} {oL oL' : List (List Int)} {oM oM' : List Nat} {W W1 : World}
theorem DU.below (h : DU n base p N0 N1 V1 w D nx fb L1 L2 sv s bc vS oS vL oL oM W) (hb : Below W.heap.size W W1) : DU n base p N0 N1 V1 w D nx fb L1 L2 sv s bc vS oS vL oL oM W1 :=
 ⟨Ab h.blk hb,Kd.R_below h.st hb,Kd.R_below h.fi hb,Kd.R_below h.ed hb,Kd.R_below h.sets hb,Kd.R_below h.lists hb,Kd.R_below h.next hb,h.map.below hb,Kd.R_below h.fin hb,fun i h0 h1 => (hb.block i (Nat.lt_of_lt_of_le h1 h.sz)).trans (h.reg i h0 h1),Nat.le_trans h.sz hb.size,h.jb.new hb,h.sv.below hb,h.hp,h.hm,h.pN,h.mN,h.nn,h.dis⟩
theorem DU.putMap (h : DU n base p N0 N1 V1 w D nx fb L1 L2 sv s bc vS oS vL oL oM W) (hg : W.grownBy W1 (some D.m)) (hm : MapIs W1 D.m (nums DY oM')) : DU n base p N0 N1 V1 w D nx fb L1 L2 sv s bc vS oS vL oL oM' W1 :=
 ⟨h.map.cells hg h.blk,h.map.row hg h.st,h.map.row hg h.fi,h.map.row hg h.ed,h.map.row hg h.sets,h.map.row hg h.lists,h.map.row hg h.next,hm,h.map.row hg h.fin,
  fun i h0 h1 => (hg.block i (Nat.lt_of_lt_of_le h1 h.sz) (fun e => by injection e with e; have := h.mN; omega)).trans (h.reg i h0 h1),Nat.le_trans h.sz hg.size,h.jb.map h.map hg h.hm,h.map.set hg h.sv,h.hp,h.hm,h.pN,h.mN,h.nn,h.dis⟩
theorem Ew {v : Value} {e r b' : Nat} {α : Type} {d : Kd α} {ok : Nat → Prop} {xs : List α} {ks : List (ByteArray × Value)} (h : MapIs W r ks) (hr : d.R e W b' ok v xs) (hg : W.grownBy W1 v.ownBlock) : MapIs W1 r ks :=
 h.grown hg (fun he => by obtain ⟨_,hc⟩ := Kd.R_typed hr _ he.symm; exact h.ne hc rfl)
theorem DU.putSets (h : DU n base p N0 N1 V1 w D nx fb L1 L2 sv s bc vS oS vL oL oM W) (hg : W.grownBy W1 vS.ownBlock) (hr : kset.R 82 W1 base (OKs N0 N1 V1) vS' oS') : DU n base p N0 N1 V1 w D nx fb L1 L2 sv s bc vS' oS' vL oL oM W1 :=
 ⟨Br h.blk (Kd.R_typed h.sets) hg (by decide),Kd.R_over' h.st (Kd.R_typed h.sets) (by decide) hg,Kd.R_over' h.fi (Kd.R_typed h.sets) (by decide) hg,Kd.R_over' h.ed (Kd.R_typed h.sets) (by decide) hg,hr,Kd.R_over' h.lists (Kd.R_typed h.sets) (by decide) hg,Kd.R_over' h.next (Kd.R_typed h.sets) (by decide) hg,Ew h.map h.sets hg,Kd.R_over' h.fin (Kd.R_typed h.sets) (by decide) hg,
  fun i h0 h1 => (hg.block i (Nat.lt_of_lt_of_le h1 h.sz) (fun e => by
   obtain ⟨_,hc⟩ := Kd.R_typed h.sets i e.symm
   rcases h.sets.1 i e.symm with ho | ⟨cs,hcs⟩
   ·omega
   ·rw [← h.reg i h0 h1] at hcs; exact An hc hcs (by decide) rfl)).trans (h.reg i h0 h1),Nat.le_trans h.sz hg.size,h.jb.row h.sets (by decide) hg (Nat.le_refl _),h.sv.own h.sets (by decide) hg,h.hp,h.hm,h.pN,h.mN,h.nn,h.dis⟩
theorem DU.putLists (h : DU n base p N0 N1 V1 w D nx fb L1 L2 sv s bc vS oS vL oL oM W) (hg : W.grownBy W1 vL.ownBlock) (hr : Kii.R 22 W1 base (fun i => (L1 i ∧ i < N0) ∨ N1 ≤ i) vL' oL') : DU n base p N0 N1 V1 w D nx fb L1 L2 sv s bc vS oS vL' oL' oM W1 :=
 ⟨Br h.blk (Kd.R_typed h.lists) hg (by decide),Kd.R_over' h.st (Kd.R_typed h.lists) (by decide) hg,Kd.R_over' h.fi (Kd.R_typed h.lists) (by decide) hg,Kd.R_over' h.ed (Kd.R_typed h.lists) (by decide) hg,Kd.R_over' h.sets (Kd.R_typed h.lists) (by decide) hg,hr,
  Kd.R_grown h.next hg (fun k hk e => by rcases h.lists.1 k e.symm with ho | ho; exact h.dis k ho.1 hk.1; have := hk.2; have := h.nn; exact absurd ho (by omega)),Ew h.map h.lists hg,Kd.R_over' h.fin (Kd.R_typed h.lists) (by decide) hg,
  fun i h0 h1 => (hg.block i (Nat.lt_of_lt_of_le h1 h.sz) (fun e => by rcases h.lists.1 i e.symm with ho | ho <;> omega)).trans (h.reg i h0 h1),Nat.le_trans h.sz hg.size,h.jb.row h.lists (by decide) hg (Nat.le_refl _),h.sv.own h.lists (by decide) hg,h.hp,h.hm,h.pN,h.mN,h.nn,h.dis⟩
theorem DU.putBlk (h : DU n base p N0 N1 V1 w D nx fb L1 L2 sv s bc vS oS vL oL oM W) (hg : W.grownBy W1 (some p)) (hb : W1.heap[p]? = some (.cells bc'.toArray 120 (0,0))) : DU n base p N0 N1 V1 w D nx fb L1 L2 sv s bc' vS oS vL oL oM W1 :=
 ⟨hb,Ah h.st h.blk (by decide) hg,Ah h.fi h.blk (by decide) hg,Ah h.ed h.blk (by decide) hg,Ah h.sets h.blk (by decide) hg,Ah h.lists h.blk (by decide) hg,Ah h.next h.blk (by decide) hg,h.map.keep hg h.blk,Ah h.fin h.blk (by decide) hg,
  fun i h0 h1 => (hg.block i (Nat.lt_of_lt_of_le h1 h.sz) (fun e => by injection e with e; have := h.pN; omega)).trans (h.reg i h0 h1),Nat.le_trans h.sz hg.size,h.jb.turn hg h.blk (by decide) h.hp,h.sv.block h.blk (by decide) hg,h.hp,h.hm,h.pN,h.mN,h.nn,h.dis⟩
end
theorem unit230 (n : Na) (hn : n.Ok) (hn5 : n.states ≤ 5) (base p : Nat) (D : Dl) (o : List Nat) (nx : List (List Int)) (fb : List Bool) (w : World) (h : DS n base p D o nx fb w) (ho : ∀ u ∈ o,u < 32) (hod : o.Nodup) (hnl : nx.length ≤ o.length) :
  Calls Tryz.prog 230 #[.pointer (some ⟨p,0,none⟩)] w fun e w' => JB base w w' ∧ ((nx.length = o.length ∧ e = .returned (.tuple #[.bool false,.int .i64 0]) ∧ DS n base p D o nx fb w') ∨
   (∃ s D',o[nx.length]? = some s ∧ e = .returned (.tuple #[.bool true,.int .i64 0]) ∧ DS n base p D' (BX n.step o s (2 ^ n.vars)) (nx ++ [Ca n.step o s (2 ^ n.vars)]) (fb ++ [decide (s &&& AR n.fin ≠ 0)]) w')) := by
 have hv6 := hn.v
 have h64 : 2 ^ n.vars ≤ 64 := Nat.pow_le_pow_right (n := 2) (by decide) hn.v
 have hsh : 1 * 2 ^ n.vars < 2 ^ (IntKind.bits .i64 - 1) := by rw [Nat.one_mul]; exact Nat.lt_of_le_of_lt h64 (by decide)
 have hstep : ∀ s x,n.step s x < 32 := fun s x => Nat.lt_of_lt_of_le (Na.step_lt hn s x) (Nat.pow_le_pow_right (n := 2) (by decide) hn5)
 have hmany : ∀ l : List Nat,l.Nodup → (∀ u ∈ l,u < 32) → l.length ≤ 32 := fun l hd hl => Cw 32 l hd hl
 have hol := hmany o hod ho
 refine enter 169 Tryz.func230 G G _ (by simp) ?_
 refine ab G<|ai G<|mp G<|cl C229 [] G ((JN n base p D o nx fb w h).mono ?_)
 rintro e w1 ⟨rfl,hb1⟩
 refine ⟨_,rfl,?_⟩
 have hJ := (JB.refl h.lt).new hb1
 have h := h.below hb1
 by_cases hlt : nx.length < o.length
 rotate_left
 ·rw [decide_eq_false hlt]
  refine ont G<|cdt G<|ab G<|ai G<|?_
  exact rt2 rfl rfl rfl ⟨hJ,.inl ⟨by omega,rfl,h⟩⟩
 rw [decide_eq_true hlt]
 refine ont G<|cdf G ?_
 obtain ⟨s,hs⟩ : ∃ s,o[nx.length]? = some s := ⟨_,gE hlt⟩
 have hs32 := ho s (List.mem_of_getElem? hs)
 refine cut (σ := Option Addr × Nat × Nat) (fun q => [(0,.pointer (some ⟨p,0,none⟩)),(4,.slice q.1 q.2.1 q.2.2)])
  (fun q V => Below w1.heap.size w1 V ∧ SetB V 0 (.slice q.1 q.2.1 q.2.2) s) (by repeat' (first | exact BB | exact BD | exact Bl | refine Bi ?_ ?_ | refine Bk ?_ | refine Bj ?_ | refine AX _ ?_)) ?_ ?_
 ·refine drt mixed 11 (by kernel_rfl) ?_
  intro w2 hb2 _ _
  have h := h.below hb2
  obtain ⟨ad,v,hA,hsv,hcell⟩ := Fd (Kd.R_reads' h.sets).2.2 hs
  obtain ⟨As,mq,cs_,rfl,_,_⟩ := id hsv
  have hc5 : w2.cell? ⟨p,0 + 5,none⟩ = some (.slice (some ad) o.length D.c1) := by rw [← hA]; exact (Ac h.blk 5).trans rfl
  have hc8 : w2.cell? ⟨p,0 + 8,none⟩ = some (.slice D.nA nx.length D.c3) := (Ac h.blk 8).trans rfl
  refine spu (mp_ G)<|spu (BN G)<|spu (AQ En G)<|sru (Ai G84 G ‹_›)<|spu (mp_ G)<|spu (BN G)<|spu (AQ FQ G)<|sru (Ai G27 G ‹_›)<|spu (Ec U27 G)<|spu (AU U84 Z82 G G (by first | assumption | omega))<|sru (Ai G82 G ‹_›)<|?_
  refine asl G<|?_
  exact ⟨(As,mq,cs_),⟨rfl,rfl,rfl⟩,hb2,hsv⟩
 ·rintro ⟨As,mq,cs_⟩ f w2 ⟨hb2,hsv⟩
  simp only at hsv
  have h := h.below hb2
  refine asl G<|asl G<|Kh ?_
  intro w3 hm3 hb3
  have h2 := h
  have hsv2 := hsv
  have h := h.below hb3
  have hsv := hsv.below hb3
  refine am G<|?_
  have hc0 : w3.cell? ⟨p,0 + 0 + 0,none⟩ = some (.int .i64 (n.vars : Nat)) := (Ac h.blk 0).trans rfl
  refine mp G<|onc G<|ofa DF G<|ofa DQ G<|old G3 G ‹_›<|I8 (a := 1) (b := n.vars) G G (by show n.vars < 64; omega) hsh ?_
  refine mi G<|?_
  rw [Nat.one_mul]
  generalize hL : 2 ^ n.vars = L at *
  refine cut (σ := List Nat × Option Addr × Nat × Option Addr × Nat) (fun q => [(0,.pointer (some ⟨p,0,none⟩)),(4,.slice As mq cs_),(5,.slice q.2.1 L q.2.2.1),(6,.slice q.2.2.2.1 q.1.length q.2.2.2.2)])
   (fun q V => Below w2.heap.size w2 V ∧ BX n.step o s L = o ++ q.1 ∧ (Kd.int .i64).R 3 V w2.heap.size (fun _ => True) (.slice q.2.1 L q.2.2.1) (Ca n.step o s L) ∧ kset.R 82 V w2.heap.size (fun _ => True) (.slice q.2.2.2.1 q.1.length q.2.2.2.2) q.1) (by repeat' (first | exact BB | exact BD | exact Bl | refine Bi ?_ ?_ | refine Bk ?_ | refine Bj ?_ | refine AX _ ?_)) ?_ ?_
  ·have hz3 := hb3.size
   refine lp (σ := Nat × List Nat × Option Addr × Nat × Option Addr × Nat) (fun q => [(0,.pointer (some ⟨p,0,none⟩)),(4,.slice As mq cs_),(5,.slice q.2.2.1 q.1 q.2.2.2.1),(6,.slice q.2.2.2.2.1 q.2.1.length q.2.2.2.2.2),(7,.map (some w2.heap.size)),(37,.int .i64 (L : Nat)),(38,.int .i64 (q.1 : Nat))])
    (fun q V => q.1 ≤ L ∧ Below w2.heap.size w2 V ∧ BX n.step o s q.1 = o ++ q.2.1 ∧ (Kd.int .i64).R 3 V w2.heap.size (fun _ => True) (.slice q.2.2.1 q.1 q.2.2.2.1) (Ca n.step o s q.1) ∧ kset.R 82 V w2.heap.size (fun _ => True) (.slice q.2.2.2.2.1 q.2.1.length q.2.2.2.2.2) q.2.1 ∧ MapIs V w2.heap.size (FT o.length q.2.1))
    (fun q => L - q.1) (0,[],none,0,none,0) ⟨rfl,rfl,rfl,rfl,rfl,rfl,rfl,rfl⟩ ⟨Nat.zero_le _,hb3,by simp [BX],Kd.R_nil _ _ _ _ _,Kd.R_nil _ _ _ _ _,hm3⟩ ?_
   clear hm3 hb3 hc0 h hsv hz3
   rintro ⟨x,fr,A5,c5,A6,c6⟩ f V ⟨hx,hB,hfr,hrow,hfs,hmap⟩
   simp only at hx hfr hrow hfs hmap
   have h := h2.below hB
   have hsv := hsv2.below hB
   have hfrO : ∀ u ∈ o ++ fr,u < 32 := by rw [← hfr]; exact El n.step ho (fun y _ => hstep s y) (L := L) x hx
   have hfrN : (o ++ fr).Nodup := by rw [← hfr]; exact Dj n.step hod s x
   have hfl := hmany _ hfrN hfrO
   rw [List.length_append] at hfl
   have hfr32 : ∀ u ∈ fr,u < 32 := fun u hu => hfrO u (List.mem_append_right _ hu)
   refine olt G G<|cdd G (fun hlt => ?_) (fun hge => ?_)
   ·have hxl : x < L := Int.ofNat_lt.1 hlt
    refine mi G<|ai G<|mp G<|onc G<|ofa DF G<|AV (vs := n.vals D.SA D.FA D.EA D.cs D.cf D.ce) G25 S25 rfl (Dx h.blk (fun j hj => by rcases j with _ | _ | _ | _ | _ | j <;> first | rfl | (simp at hj; omega))) ?_
    refine ms G<|mi G<|CU UI3 UI5 G (by show x < 128; omega) ?_
    refine cl C34 [] G ((J5 n hn D.SA D.FA D.EA D.cs D.cf D.ce x s 0 _ V h.nr (by omega) (by omega) hsv).mono ?_)
    rintro e V1 ⟨r,rfl,hr1,hb1'⟩
    obtain ⟨A9,m9,c9,rfl,_,_⟩ := id hr1
    refine ⟨_,rfl,?_⟩
    have h32 := hstep s x
    refine mv G<|oex G G<|oex G G<|asl G<|ai G<|ms G<|cl LG [] G ((Jb _ (n.step s x) V.heap.size V1 hr1 (by omega)).mono ?_)
    rintro e V2 ⟨rfl,hb2'⟩
    refine ⟨_,rfl,?_⟩
    have hfo : ∀ k,(Value.slice A6 fr.length c6).ownBlock = some k → k < V.heap.size := fun k hk => by obtain ⟨_,hc⟩ := Kd.R_typed hfs k hk; exact Am hc
    have hb12 := Ad hb1' hb2'
    have hr2 := hr1.below hb2'
    have h := h.below hb12
    have hrow := Kd.R_below hrow hb12
    have hfs := Kd.R_below hfs hb12
    have hmap := hmap.below hb12
    have hz := hB.size
    have hzz := hb12.size
    have hB := Ad hB hb12
    clear hb1' hb2' hr1 hb12
    refine ast G<|?_
    have hc7 : V2.cell? ⟨p,0 + 7,none⟩ = some (.map (some D.m)) := (Ac h.blk 7).trans rfl
    have hc5 : V2.cell? ⟨p,0 + 5,none⟩ = some (.slice D.sA o.length D.c1) := (Ac h.blk 5).trans rfl
    have hf1 := D0 DY (P := fun s => s < 32) GD h32 ho
    have hf2 := find_numsI o.length hfr32 h32
    generalize ht : n.step s x = t at *
    refine mp G<|onc G<|ofa KQ G<|old G7 G ‹_›<|mt G<|olk US9 Ds G G h.map (zv3 _) ?_
    have hv1 : (BK (nums DY o) (DY t)).getD (.int .i64 0) = .int .i64 ((if t ∈ o then o.idxOf t else 0 : Nat) : Int) := by rw [hf1]; split <;> rfl
    have hv2 : (BK (nums DY o) (DY t)).isSome = decide (t ∈ o) := by
     rw [hf1]; by_cases hh : t ∈ o
     ·rw [if_pos hh,decide_eq_true hh]; rfl
     ·rw [if_neg hh,decide_eq_false hh]; rfl
    rw [hv1,hv2]
    refine mv G<|oex G G<|oex G G<|ai G<|ab G<|mb G<|ont G<|cut (σ := Nat × List Nat × Option Addr × Nat) (fun q => [(0,.pointer (some ⟨p,0,none⟩)),(4,.slice As mq cs_),(5,.slice A5 x c5),(6,.slice q.2.2.1 q.2.1.length q.2.2.2),(7,.map (some w2.heap.size)),(12,.int .i64 (q.1 : Nat)),(37,.int .i64 (L : Nat)),(38,.int .i64 (x : Nat))])
     (fun q V' => Below w2.heap.size w2 V' ∧ BE (o ++ fr) t = o ++ q.2.1 ∧ q.1 = (BE (o ++ fr) t).idxOf t ∧ (Kd.int .i64).R 3 V' w2.heap.size (fun _ => True) (.slice A5 x c5) (Ca n.step o s x) ∧ kset.R 82 V' w2.heap.size (fun _ => True) (.slice q.2.2.1 q.2.1.length q.2.2.2) q.2.1 ∧ MapIs V' w2.heap.size (FT o.length q.2.1)) (by repeat' (first | exact BB | exact BD | exact Bl | refine Bi ?_ ?_ | refine Bk ?_ | refine Bj ?_ | refine AX _ ?_)) ?_ ?_
    ·by_cases hto : t ∈ o
     ·rw [if_pos hto,decide_eq_true hto]
      refine cdf G ?_
      have hmem : t ∈ o ++ fr := List.mem_append_left _ hto
      have hi : BE (o ++ fr) t = o ++ fr := by unfold BE; rw [if_pos hmem]
      exact ⟨(o.idxOf t,fr,A6,c6),⟨rfl,rfl,rfl,rfl,rfl,rfl,rfl,rfl,rfl⟩,hB,hi,by rw [hi,List.idxOf_append,if_pos hto],hrow,hfs,hmap⟩
     ·rw [if_neg hto,decide_eq_false hto]
      refine cdt G<|mm G<|mt G<|olk US9 Ds G G hmap (zv3 _) ?_
      have hv1 : (BK (FT o.length fr) (DY t)).getD (.int .i64 0) = .int .i64 ((if t ∈ fr then fr.idxOf t + o.length else 0 : Nat) : Int) := by rw [hf2]; split <;> rfl
      have hv2 : (BK (FT o.length fr) (DY t)).isSome = decide (t ∈ fr) := by
       rw [hf2]; by_cases hh : t ∈ fr
       ·rw [if_pos hh,decide_eq_true hh]; rfl
       ·rw [if_neg hh,decide_eq_false hh]; rfl
      rw [hv1,hv2]
      refine mv G<|oex G G<|oex G G<|ai G<|ab G<|mb G<|ont G<|?_
      by_cases htf : t ∈ fr
      ·rw [if_pos htf,decide_eq_true htf]
       refine cdf G ?_
       have hmem : t ∈ o ++ fr := List.mem_append_right _ htf
       have hi : BE (o ++ fr) t = o ++ fr := by unfold BE; rw [if_pos hmem]
       refine ⟨(fr.idxOf t + o.length,fr,A6,c6),⟨rfl,rfl,rfl,rfl,rfl,rfl,rfl,rfl,rfl⟩,hB,hi,?_,hrow,hfs,hmap⟩
       rw [hi,List.idxOf_append,if_neg hto]
      ·rw [if_neg htf,decide_eq_false htf]
       refine cdt G ?_
       have hmem : t ∉ o ++ fr := fun hm => (List.mem_append.1 hm).elim hto htf
       have hi : BE (o ++ fr) t = o ++ (fr ++ [t]) := by unfold BE; rw [if_neg hmem,List.append_assoc]
       have hsum : -9223372036854775808 ≤ (o.length : Int) + (fr.length : Int) ∧ (o.length : Int) + (fr.length : Int) ≤ 9223372036854775807 := by omega
       refine mp G<|onc G<|ofa En G<|old G84 G ‹_›<|oln U84 G<|ms G<|oln U84 G<|oad G G (by first | assumption | omega)<|ai G<|?_
       refine mm G<|mt G<|mi G<|opm (v := .int .i64 ((o.length + fr.length : Nat) : Int)) US9 Ds G G (by show Value.int .i64 _ = _; push_cast; rfl) hmap (by rw [hf2,if_neg htf]) ?_
       intro V3 hm3 hg3
       have hB3 := hB.grown hg3 hB.size (fun k e => by cases e; exact Nat.le_refl _)
       have hrow3 := hmap.row hg3 hrow
       have hfs3 := hmap.row hg3 hfs
       have hr3 := hmap.set hg3 hr2
       rw [← numsI_snoc] at hm3
       have hz3 := hg3.size
       refine ms G<|ms G<|EJ (bytes := 24) (m := fr.length) (c := c6) (A := A6) kset (p := t) (cs := [.slice A9 m9 c9]) (okp := fun i => V.heap.size ≤ i) U84 I82 G (by decide) (by decide) G (by simp) G (AJ U84 I82 G G) hfs3 (kset.M_lower hz ⟨_,rfl,hr3.setM (fun g hg _ => hg)⟩) (fun i hi => ⟨trivial,fun e => by have := hfo i e.symm; omega⟩) (fun _ _ => trivial) (by omega) (by omega) ?_
       intro A7 c7 V4 hfs4 hg4
       refine asl G<|⟨(o.length + fr.length,fr ++ [t],A7,c7),⟨rfl,rfl,rfl,rfl,rfl,?_,rfl,rfl,rfl⟩,hB3.grown hg4 hB3.size (fun k hk => Kd.R_base hfs3 k hk),hi,?_,Kd.R_over' hrow3 (Kd.R_typed hfs3) (by decide) hg4,hfs4,hm3.grown hg4 (fun e => ?_)⟩
       ·show Value.int .i64 ((o.length : Int) + (fr.length : Int)) = _; push_cast; rfl
       ·rw [hi,← List.append_assoc,List.idxOf_append,if_neg hmem]; simp
       ·obtain ⟨_,hc⟩ := Kd.R_typed hfs3 _ e.symm
        exact hm3.ne hc rfl
    ·rintro ⟨at_,fr',A7,c7⟩ f V' ⟨hB,hi,hat,hrow,hfs,hmap⟩
     simp only at hi hat hfs hmap
     have hrl : (Ca n.step o s x).length = x := BY _ _ _ _
     refine ms G<|mi G<|EJ (bytes := 8) (m := x) (c := c5) (A := A5) (Kd.int .i64) (p := (at_ : Int)) (cs := [.int .i64 (at_ : Int)]) (okp := fun _ => False) U22 I3 G (by decide) (by decide) G (by simp) G (AJ U22 I3 G G) hrow G (fun i hi => hi.elim) (fun _ _ => trivial) hB.size (by omega) ?_
     intro A8 c8 V4 hrow4 hg4
     have hsucc : Ca n.step o s (x + 1) = Ca n.step o s x ++ [(at_ : Int)] := by rw [Hk,hfr,ht,hat]
     rw [← hsucc,BY] at hrow4
     rw [← hsucc,BY]
     refine asl G<|oad G G (by first | assumption | omega)<|mi G<|?_
     refine ⟨(x + 1,fr',A8,c8,A7,c7),⟨rfl,rfl,rfl,rfl,rfl,rfl,rfl,rfl⟩,⟨hxl,hB.grown hg4 hB.size (fun k hk => Kd.R_base hrow k hk),?_,hrow4,Kd.R_over' hfs (Kd.R_typed hrow) (by decide) hg4,hmap.grown hg4 (fun e => ?_)⟩,by dsimp only; omega⟩
     ·show BE (BX n.step o s x) (n.step s x) = _
      rw [hfr,ht]; exact hi
     ·obtain ⟨_,hc⟩ := Kd.R_typed hrow _ e.symm
      exact hmap.ne hc rfl
   ·have hxL : x = L := by omega
    subst hxL
    exact ⟨(fr,A5,c5,A6,c6),⟨rfl,rfl,rfl,rfl,rfl⟩,hB,hfr,hrow,hfs⟩
  ·rintro ⟨fr,A5,c5,A6,c6⟩ f V1 ⟨hB1,hfr,hrow,hfs⟩
   simp only at hfr hrow hfs
   have hN := hB1.size
   have h := h2.below hB1
   have hsv := hsv2.below hB1
   have hfrO : ∀ u ∈ o ++ fr,u < 32 := by rw [← hfr]; exact El n.step ho (fun y _ => hstep s y) (L := L) L (Nat.le_refl _)
   have hfrN : (o ++ fr).Nodup := by rw [← hfr]; exact Dj n.step hod s L
   have hfl := hmany _ hfrN hfrO
   rw [List.length_append] at hfl
   have hpN := Am h2.blk
   have hmN := h2.map.lt
   obtain ⟨L1,L2,hdis,hl1,hl2⟩ := h2.rows
   have hD : DU n base p w2.heap.size V1.heap.size V1 w D nx fb L1 L2 (.slice As mq cs_) s (D.cells n o.length nx.length) (.slice D.sA o.length D.c1) o (.slice D.lA o.length D.c2) (o.map bitsW) o V1 :=
    ⟨h.blk,h.st,h.fi,h.ed,Kd.R_below (Kd.R_mono (Kd.R_bound h2.sets) (fun k hk => .inl (.inl hk.2.2.1))) hB1,Kd.R_below (Kd.R_mono (Kd.R_bound hl1) (fun k hk => .inl ⟨hk.1,hk.2.2.1⟩)) hB1,Kd.R_below (Kd.R_mono (Kd.R_bound hl2) (fun k hk => ⟨hk.1,hk.2.2.1⟩)) hB1,h.map,h.fin,fun _ _ _ => rfl,Nat.le_refl _,(hJ.new hb2).new hB1,hsv,h.hp,h.hm,hpN,hmN,hN,hdis⟩
   have hfsR := Kd.R_bound hfs
   have hrowR := Kd.R_bound hrow
   have hfb := h2.hb
   clear h hsv hl1 hl2 h2 hsv2 hB1
   have hc5 : V1.cell? ⟨p,0 + 5,none⟩ = some (.slice D.sA o.length D.c1) := (Ac hD.blk 5).trans rfl
   refine mp G<|onc G<|ofa En G<|old G84 G ‹_›<|oln U84 G<|ms G<|oln U84 G<|oad (i := (o.length : Nat)) (j := (fr.length : Nat)) G G (by omega) ?_
   refine ogt G G<|isf (by omega) ?_
   refine cdf G<|ms G<|oln U84 G<|mi G<|?_
   generalize hN0 : w2.heap.size = N0 at *
   generalize hN1 : V1.heap.size = N1 at *
   refine lp (σ := Nat × Option Addr × Nat × Option Addr × Nat) (fun q => [(0,.pointer (some ⟨p,0,none⟩)),(4,.slice As mq cs_),(5,.slice A5 L c5),(102,.slice A6 fr.length c6),(103,.int .i64 fr.length),(104,.int .i64 (q.1 : Nat))])
    (fun q W => q.1 ≤ fr.length ∧ DU n base p N0 N1 V1 w D nx fb L1 L2 (.slice As mq cs_) s (Dl.cells { D with sA := q.2.1,c1 := q.2.2.1,lA := q.2.2.2.1,c2 := q.2.2.2.2 } n (o.length + q.1) nx.length) (.slice q.2.1 (o.length + q.1) q.2.2.1) (o ++ fr.take q.1) (.slice q.2.2.2.1 (o.length + q.1) q.2.2.2.2) ((o ++ fr.take q.1).map bitsW) (o ++ fr.take q.1) W)
    (fun q => fr.length - q.1) (0,D.sA,D.c1,D.lA,D.c2) ⟨rfl,rfl,rfl,rfl,rfl,rfl,rfl⟩ ⟨Nat.zero_le _,by simpa using hD⟩ ?_
   clear hD hc5
   rintro ⟨j,sA,c1,lA,c2⟩ f W ⟨hj,hD⟩
   simp only at hj hD
   refine olt G G<|cdd G (fun hlt => ?_) (fun hge => ?_)
   ·have hjl : j < fr.length := Int.ofNat_lt.1 hlt
    obtain ⟨t,ht⟩ : ∃ t,fr[j]? = some t := ⟨_,gE hjl⟩
    have htk : fr.take (j + 1) = fr.take j ++ [t] := by rw [List.take_succ_eq_append_getElem hjl]; rw [gE hjl] at ht; injection ht with e; rw [e]
    have ht32 := hfrO t (List.mem_append_right _ (List.mem_of_getElem? ht))
    have hnot : t ∉ o ++ fr.take j := fun hm => by
     have e : o ++ fr = (o ++ fr.take j) ++ (t :: fr.drop (j + 1)) := by
      rw [List.append_assoc]
      congr 1
      rw [gE hjl] at ht; injection ht with e
      rw [← e,← List.drop_eq_getElem_cons hjl,List.take_append_drop]
     rw [e,List.nodup_append] at hfrN
     exact hfrN.2.2 t hm t (List.mem_cons_self ..) rfl
    have hlj : (o ++ fr.take j).length = o.length + j := by rw [List.length_append,List.length_take]; omega
    have hbN : base ≤ N0 := by have := hD.hp; have := hD.pN; omega
    have hfsW := Kd.R_move hfsR (fun k hk => hD.reg k hk.2.1 (hk.2.2.1))
    obtain ⟨ad,cells,hA,hcl,hM,hcell⟩ := Jo (Kd.Q_of_R hfsW) ht
    have hMn : kset.M W base (fun k => N0 ≤ k ∧ k < N1 ∧ ∃ cs,V1.heap[k]? = some (.cells cs 49 (0,0))) t cells := kset.M_lower hbN (kset.M_mono (fun k hk => ⟨hk.1.1.2.1,hk.1.1.2.2.1,by
     obtain ⟨q,hq,cs,hc⟩ := hk.2.2.2
     have hq : q = 49 := by simpa [kset] using hq
     subst hq
     rw [hD.reg k hk.1.1.2.1 (hk.1.1.2.2.1)] at hc
     exact ⟨cs,hc⟩⟩) (kset.M_bound hM))
    subst hA
    obtain ⟨v,rfl,hsm⟩ := hMn
    have hsv := hsm.setB
    obtain ⟨At,mt,ct,rfl,_,_⟩ := id hsm
    have hcell : W.cell? (ad.add (j * 1)) = some (.slice At mt ct) := hcell 0 _ rfl
    refine AD U84 Z82 G G (by first | assumption | omega)<|old G82 G ‹_›<|asl G<|?_
    refine cut (σ := Unit) (fun _ => [(0,.pointer (some ⟨p,0,none⟩)),(4,.slice As mq cs_),(5,.slice A5 L c5),(15,.slice At mt ct),(102,.slice (some ad) fr.length c6),(103,.int .i64 fr.length),(104,.int .i64 (j : Nat))])
     (fun _ W' => KeepT 49 W W' ∧ W.heap.size ≤ W'.heap.size ∧ DU n base p N0 N1 V1 w D nx fb L1 L2 (.slice As mq cs_) s (Dl.cells { D with sA := sA,c1 := c1,lA := lA,c2 := c2 } n (o.length + j) nx.length) (.slice sA (o.length + j) c1) (o ++ fr.take j) (.slice lA (o.length + j) c2) ((o ++ fr.take j).map bitsW) (o ++ fr.take j ++ [t]) W') (by repeat' (first | exact BB | exact BD | exact Bl | refine Bi ?_ ?_ | refine Bk ?_ | refine Bj ?_ | refine AX _ ?_)) ?_ ?_
    ·refine Bu mixed (fun V => V.heap[p]? = some (.cells (Dl.cells { D with sA := sA,c1 := c1,lA := lA,c2 := c2 } n (o.length + j) nx.length).toArray 120 (0,0))) ?_
     intro W1 hb1 _ _
     have hD := hD.below hb1
     have hS := hD.blk
     refine Aj 0 G (by kernel_rfl) (fun _ _ _ h => h) G (fun v _ => mp_ G v) hS<|Aj 1 G (by kernel_rfl) (fun _ _ _ h => h) G (fun v _ => BN G v) hS<|Aj 2 G (by kernel_rfl) (fun _ _ _ h => h) G (fun v _ => AQ KQ G v) hS<|Aj 3 G (by kernel_rfl) (fun _ _ _ h => h) G (fun v hv => Ai G7 G ((Ac hv _).trans G)) hS<|Aj 4 G (by kernel_rfl) (fun _ _ _ h => h) G (fun v _ => ms_ G v) hS<|Aj 6 G (by kernel_rfl) (fun _ _ _ h => h) G (fun v _ => mp_ G v) hS<|Aj 7 G (by kernel_rfl) (fun _ _ _ h => h) G (fun v _ => BN G v) hS<|Aj 8 G (by kernel_rfl) (fun _ _ _ h => h) G (fun v _ => AQ En G v) hS<|Aj 9 G (by kernel_rfl) (fun _ _ _ h => h) G (fun v hv => Ai G84 G ((Ac hv _).trans G)) hS<|Aj 10 G (by kernel_rfl) (fun _ _ _ h => h) G (fun v _ => Ec U84 G v) hS<|AA 5 (by kernel_rfl) G<|cl LG [] G ((Jb _ t base W1 (hsv.below hb1) (by omega)).mono ?_)
     rintro e W2 ⟨rfl,hb2⟩
     have hD := hD.below hb2
     refine ⟨_,rfl,hD.blk,?_⟩
     refine AA 11 (by kernel_rfl) G<|opm (v := .int .i64 ((o.length + j : Nat) : Int)) US9 Ds rfl rfl rfl hD.map (by rw [D0 DY (P := fun s => s < 32) GD ht32 (fun u hu => hfrO u (by rcases List.mem_append.1 hu with h | h; exact List.mem_append_left _ h; exact List.mem_append_right _ (List.mem_of_mem_take h))),if_neg hnot]) ?_
     intro W3 hm3 hg3
     rw [← hlj,← Fx] at hm3
     have hD3 := hD.putMap hg3 hm3
     refine ⟨hD3.blk,?_⟩
     refine AY (by kernel_rfl) ?_
     have hb12 := Ad hb1 hb2
     exact ⟨(),⟨rfl,rfl,rfl,rfl,rfl,rfl,rfl,rfl⟩,(KeepT.below hb12).trans (fun _ _ hi => hD.map.cells hg3 hi),Nat.le_trans hb12.size hg3.size,hD3⟩
    ·rintro _ f W' ⟨hk49,hzW,hD⟩
     have hsm : SetM W' base (fun k => N0 ≤ k ∧ k < N1 ∧ ∃ cs,V1.heap[k]? = some (.cells cs 49 (0,0))) (.slice At mt ct) t := by
      obtain ⟨A',n',c',he,hnc,h' | ⟨h0,h1,g,cs,h2,hb,hg,hh,h3⟩⟩ := hsm
      ·exact ⟨A',n',c',he,hnc,.inl h'⟩
      ·exact ⟨A',n',c',he,hnc,.inr ⟨h0,h1,g,cs,h2,hb,hg,hk49 g _ hh,h3⟩⟩
     refine Bv 19 mixed (fun V => V.heap[p]? = some (.cells (Dl.cells { D with sA := sA,c1 := c1,lA := lA,c2 := c2 } n (o.length + j) nx.length).toArray 120 (0,0))) ?_
     intro X1 hb1 _ _
     have hD := hD.below hb1
     have hS := hD.blk
     have hM : kset.M X1 base (fun k => N0 ≤ k ∧ k < N1 ∧ ∃ cs,V1.heap[k]? = some (.cells cs 49 (0,0))) t [.slice At mt ct] := Kd.M_below ⟨_,rfl,hsm⟩ hb1
     refine Bf 0 G (by kernel_rfl) (fun _ _ _ h => h) G (fun v => mp_ G v) (fun _ => hS)<|Bf 1 G (by kernel_rfl) (fun _ _ _ h => h) G (fun v => mp_ G v) (fun _ => hS)<|AG 2 [19] G (by kernel_rfl) (fun _ _ _ h => h) G (fun v _ => mp_ G v) hS<|AG 3 [19] G (by kernel_rfl) (fun _ _ _ h => h) G (fun v _ => BN G v) hS<|AG 4 [19] G (by kernel_rfl) (fun _ _ _ h => h) G (fun v _ => AQ En G v) hS<|AG 5 [19] G (by kernel_rfl) (fun _ _ _ h => h) G (fun v hv => Ai G84 G ((Ac hv _).trans G)) hS<|AG 6 [19] G (by kernel_rfl) (fun _ _ _ h => h) G (fun v _ => ms_ G v) hS<|AG 9 [10,11,12,19] G (by kernel_rfl) (fun _ _ _ h => h) G (fun v _ => mp_ G v) hS<|AG 10 [11,12,19] G (by kernel_rfl) (fun _ _ _ h => h) G (fun v _ => BN G v) hS<|AG 11 [12,19] G (by kernel_rfl) (fun _ _ _ h => h) G (fun v _ => AQ Jm G v) hS<|AG 12 [19] G (by kernel_rfl) (fun _ _ _ h => h) G (fun v hv => Ai G27 G ((Ac hv _).trans G)) hS<|AG 13 [14,19] G (by kernel_rfl) (fun _ _ _ h => h) G (fun v _ => ms_ G v) hS<|Aq 7 (by kernel_rfl) G<|BH (AJ (u := .slice At mt ct) U84 I82 G G) ⟨fun _ => Ab hS (AP (Below.refl _ _) _),?_⟩
     refine Aq 8 (by kernel_rfl) G<|Eg (bytes := 24) kset (p := t) (okp := fun k => N0 ≤ k ∧ k < N1 ∧ ∃ cs,V1.heap[k]? = some (.cells cs 49 (0,0))) U84 I82 G (by decide) (by decide) G G hD.sets hM (fun k hk => ⟨.inr hk.2.2,fun e => by
      obtain ⟨_,hc⟩ := Kd.R_typed hD.sets k e.symm
      obtain ⟨cs,hcs⟩ := hk.2.2
      rw [← hD.reg k hk.1 hk.2.1] at hcs
      exact An hc hcs (by decide) rfl⟩) (fun k hk => .inl (.inr (Nat.le_trans hD.sz hk))) (by have := hD.jb.lt'; exact this) (by rw [hlj]; omega) ?_
     intro A7 c7 X2 hsets2 hg2
     have hl1 : (o ++ fr.take j ++ [t]).length = o.length + (j + 1) := by rw [List.length_append,hlj]; rfl
     have hsvt := (hsm.setB.below hb1).own hD.sets (by decide) hg2
     have hD := hD.putSets hg2 hsets2
     rw [hl1] at hD ⊢
     clear hsets2 hg2 hM hS
     refine ⟨fun _ => hD.blk,?_⟩
     refine Aq 14 (by kernel_rfl) G ?_
     have hlo : ∀ k,(Value.slice lA (o.length + j) c2).ownBlock = some k → k < X2.heap.size := fun k hk => by obtain ⟨_,hc⟩ := Kd.R_typed hD.lists k hk; exact Am hc
     refine cl L0 [] G ((JK _ t base X2 hsvt ht32).mono ?_)
     rintro e X3 ⟨A8,c8,rfl,hr8,hb3⟩
     have hz2 := hD.jb.lt'
     have hsz2 := hD.sz
     have hD := hD.below hb3
     have hr8 : (Kd.int .i64).R 3 X3 base (fun k => X2.heap.size ≤ k) (.slice A8 (bitsW t).length c8) (bitsW t) := Kd.R_lower (Kd.R_mono (Kd.R_bound hr8) (fun k hk => hk.2.1)) hz2
     refine ⟨_,rfl,fun _ => hD.blk,?_⟩
     refine Aq 15 (by kernel_rfl) G<|BH (AJ (u := .slice A8 (bitsW t).length c8) U27 CY G G) ⟨fun _ => Ab hD.blk (AP (Below.refl _ _) _),?_⟩
     refine Aq 16 (by kernel_rfl) G<|Eg (bytes := 24) Kii (p := bitsW t) (okp := fun k => X2.heap.size ≤ k) U27 CY G (by decide) (by decide) G G hD.lists (Kd.M_row hr8) (fun k hk => ⟨.inr (Nat.le_trans hsz2 hk),fun e => by have := hlo k e.symm; omega⟩) (fun k hk => .inr (Nat.le_trans hD.sz hk)) hD.jb.lt' (by rw [List.length_map,hlj]; omega) ?_
     intro A9 c9 X4 hl4 hg4
     have hD := hD.putLists hg4 hl4
     have hm1 : (o ++ fr.take j).map bitsW ++ [bitsW t] = (o ++ fr.take j ++ [t]).map bitsW := by simp
     rw [hm1,List.length_map,hl1] at hD
     rw [hm1,List.length_map,hl1]
     clear hl4 hg4 hr8 hb3
     refine ⟨fun _ => hD.blk,?_⟩
     refine Aq 17 (by kernel_rfl) G<|onc G ⟨fun _ => hD.blk,?_⟩
     refine Aq 18 (by kernel_rfl) G<|ofa En G ⟨fun _ => hD.blk,?_⟩
     refine Aq 19 (by kernel_rfl) G<|Bc (v := .slice A7 (o.length + (j + 1)) c7) (cs := Dl.cells { D with sA := sA,c1 := c1,lA := lA,c2 := c2 } n (o.length + j) nx.length) (i := 0 + 5) S84 G G G hD.blk (by simp) ?_
     intro X5 hb5 hg5
     have hD := hD.putBlk hg5 hb5
     refine ⟨fun h => absurd h (by decide),?_⟩
     refine Aq 20 (by kernel_rfl) G<|onc G ⟨fun h => absurd h (by decide),?_⟩
     refine Aq 21 (by kernel_rfl) G<|ofa Jm G ⟨fun h => absurd h (by decide),?_⟩
     refine Aq 22 (by kernel_rfl) G<|Bc (v := .slice A9 (o.length + (j + 1)) c9) (cs := (Dl.cells { D with sA := sA,c1 := c1,lA := lA,c2 := c2 } n (o.length + j) nx.length).set (0 + 5) (.slice A7 (o.length + (j + 1)) c7)) (i := 0 + 6) S27 G G G hD.blk (by simp) ?_
     intro X6 hb6 hg6
     have hD := hD.putBlk hg6 hb6
     refine ⟨fun h => absurd h (by decide),?_⟩
     refine Bw (by kernel_rfl)<|oad G G (by first | assumption | omega)<|mi G<|?_
     have e3 : o ++ fr.take (j + 1) = o ++ fr.take j ++ [t] := by rw [htk,List.append_assoc]
     refine ⟨(j + 1,A7,c7,A9,c9),⟨rfl,rfl,rfl,rfl,rfl,rfl,rfl⟩,⟨hjl,?_⟩,by dsimp only; omega⟩
     dsimp only
     rw [e3]
     exact hD
   ·have hjf : j = fr.length := by omega
    subst hjf
    rw [List.take_length,← hfr] at hD
    have hOl : (BX n.step o s L).length = o.length + fr.length := by rw [hfr,List.length_append]
    refine ms G<|cl L0 [] G ((JK _ s 0 W hD.sv hs32).mono ?_)
    rintro e W1 ⟨AS,cS,rfl,hrs,hb1⟩
    refine ⟨_,rfl,?_⟩
    have hD := hD.below hb1
    refine oal (v := .slice none 0 0) (cs := [.slice none 0 0]) (fun _ => by kernel_rfl) G ?_
    intro g16 W2 hge hgb hb2
    refine Bc (v := .slice AS (bitsW s).length cS) (cs := [.slice none 0 0]) (i := 0) S22 G G G hgb (by simp) ?_
    intro W3 hgb3 hg3
    have hb3 : Below W1.heap.size W1 W3 := hb2.grown hg3 hb2.size (fun k e => by cases e; omega)
    have hD := hD.below hb3
    have hrs := Kd.R_below hrs hb3
    have hgb3 : W3.heap[g16]? = some (.cells [.slice AS (bitsW s).length cS].toArray 22 (0,0)) := hgb3
    have hgN : N1 ≤ g16 := by have := hD.sz; have h1 := hb1.size; have h2 : N1 ≤ W1.heap.size := Nat.le_trans ‹DU n base p N0 N1 V1 w D nx fb L1 L2 _ s _ _ _ _ _ _ W1›.sz (Nat.le_refl _); omega
    clear hb1 hb2 hb3 hg3 hgb
    have hrowW := Kd.R_move hrowR (fun k hk => hD.reg k hk.2.1 hk.2.2.1)
    have hbN : base ≤ N0 := by have := hD.hp; have := hD.pN; omega
    have hrowW : (Kd.int .i64).R 3 W3 base (fun k => N0 ≤ k ∧ k < N1) (.slice A5 L c5) (Ca n.step o s L) := Kd.R_lower (Kd.R_mono hrowW (fun k hk => ⟨hk.2.1,hk.2.2.1⟩)) hbN
    have hrl : (Ca n.step o s L).length = L := BY _ _ _ _
    have hno : ∀ k,(Value.slice D.nA nx.length D.c3).ownBlock = some k → L2 k ∧ k < N0 := fun k hk => hD.next.1 k hk
    have hnn := hD.nn
    have hM : Kii.M W3 base (fun k => N0 ≤ k ∧ k < N1) (Ca n.step o s L) [.slice A5 L c5] := by have := Kd.M_row hrowW; exact this
    have hc8 : W3.cell? ⟨p,0 + 8,none⟩ = some (.slice D.nA nx.length D.c3) := (Ac hD.blk 8).trans rfl
    refine mp G<|mp G<|onc G<|ofa FQ G<|old G27 G ‹_›<|ms G<|EJ (bytes := 24) Kii (m := nx.length) (c := D.c3) (A := D.nA) (p := Ca n.step o s L) (cs := [.slice A5 L c5]) (okp := fun k => N0 ≤ k ∧ k < N1) (ok := fun i => (L2 i ∧ i < N0) ∨ (N0 ≤ i ∧ i < N1) ∨ W3.heap.size ≤ i) U27 CY G (by decide) (by decide) G (by simp) G (AJ U27 CY G G) (Kd.R_mono hD.next (fun k hk => .inl hk)) hM (fun k hk => ⟨.inr (.inl hk),fun e => by have := hno k e.symm; omega⟩) (fun k hk => .inr (.inr hk)) hD.jb.lt' (by omega) ?_
    intro AN cN W4 hn4 hg4
    have hnl1 : (nx ++ [Ca n.step o s L]).length = nx.length + 1 := by simp
    rw [hnl1] at hn4 ⊢
    have hl4 := Kd.R_grown (Kd.R_mono (Kd.R_bound hD.lists) (ok' := fun i => ((L1 i ∧ i < N0) ∨ N1 ≤ i) ∧ i < W3.heap.size) (fun k hk => ⟨hk.1,hk.2.2.1⟩)) hg4 (fun k hk e => by
     have h1 := hno k e.symm
     rcases hk.1 with h2 | h2
     ·exact hD.dis k h2.1 h1.1
     ·omega)
    have hst4 := Kd.R_over' hD.st (Kd.R_typed hD.next) (by decide) hg4
    have hfi4 := Kd.R_over' hD.fi (Kd.R_typed hD.next) (by decide) hg4
    have hed4 := Kd.R_over' hD.ed (Kd.R_typed hD.next) (by decide) hg4
    have hse4 := Kd.R_mono (Kd.R_over' hD.sets (Kd.R_typed hD.next) (by decide) hg4) (ok' := fun _ => True) (fun _ _ => trivial)
    have hfb4 := Kd.R_over' hD.fin (Kd.R_typed hD.next) (by decide) hg4
    have hrs4 := Kd.R_over' hrs (Kd.R_typed hD.next) (by decide) hg4
    have hma4 := Ew hD.map hD.next hg4
    have hbl4 := Br hD.blk (Kd.R_typed hD.next) hg4 (by decide)
    have hg16 := Ar hgb3 hg4 (fun e => by have := hno g16 e.symm; omega)
    have hj4 := hD.jb.row hD.next (by decide) hg4 (Nat.le_refl _)
    have hp := hD.hp
    have hm := hD.hm
    have hdis := hD.dis
    clear hD hrs hgb3 hrowW hM hc8 hg4
    refine onc G<|ofa FQ G<|Bc (v := .slice AN (nx.length + 1) cN) (i := 0 + 8) S27 G G G hbl4 (by simp) ?_
    intro W5 hbl5 hg5
    have hl5 := Ah hl4 hbl4 (by decide) hg5
    have hn5 := Ah hn4 hbl4 (by decide) hg5
    have hst5 := Ah hst4 hbl4 (by decide) hg5
    have hfi5 := Ah hfi4 hbl4 (by decide) hg5
    have hed5 := Ah hed4 hbl4 (by decide) hg5
    have hse5 := Ah hse4 hbl4 (by decide) hg5
    have hfb5 := Ah hfb4 hbl4 (by decide) hg5
    have hrs5 := Ah hrs4 hbl4 (by decide) hg5
    have hma5 := hma4.keep hg5 hbl4
    have hg165 := Ar hg16 hg5 (fun e => An hg16 hbl4 (by decide) (by injection e))
    have hj5 := hj4.turn hg5 hbl4 (by decide) hp
    clear hl4 hn4 hst4 hfi4 hed4 hse4 hfb4 hrs4 hma4 hbl4 hg16 hj4 hg5
    refine Bv 16 mixed (fun V => V.heap[p]? = some (.cells ((Dl.cells { D with sA := sA,c1 := c1,lA := lA,c2 := c2 } n (o.length + fr.length) nx.length).set (0 + 8) (.slice AN (nx.length + 1) cN)).toArray 120 (0,0))) ?_
    intro W6 hb6 _ _
    have hl6 := Kd.R_below hl5 hb6
    have hn6 := Kd.R_below hn5 hb6
    have hst6 := Kd.R_below hst5 hb6
    have hfi6 := Kd.R_below hfi5 hb6
    have hed6 := Kd.R_below hed5 hb6
    have hse6 := Kd.R_below hse5 hb6
    have hfb6 := Kd.R_below hfb5 hb6
    have hrs6 := Kd.R_below hrs5 hb6
    have hma6 := hma5.below hb6
    have hg166 := Ab hg165 hb6
    have hj6 := hj5.new hb6
    have hS := Ab hbl5 hb6
    clear hl5 hn5 hst5 hfi5 hed5 hse5 hfb5 hrs5 hma5 hg165 hj5 hbl5 hb6
    refine Bf 0 G (by kernel_rfl) (fun _ _ _ h => h) G (fun v => mp_ G v) (fun _ => hS)<|Bf 1 G (by kernel_rfl) (fun _ _ _ h => h) G (fun v => mp_ G v) (fun _ => hS)<|AG 2 [16] G (by kernel_rfl) (fun _ _ _ h => h) G (fun v _ => BN G v) hS<|AG 3 [16] G (by kernel_rfl) (fun _ _ _ h => h) G (fun v _ => AQ Jl G v) hS<|AG 4 [16] G (by kernel_rfl) (fun _ _ _ h => h) G (fun v hv => Ai G33 G ((Ac hv _).trans G)) hS<|AG 5 [16] G (by kernel_rfl) (fun _ _ _ h => h) G (fun v _ => mp_ G v) hS<|AG 6 [16] G (by kernel_rfl) (fun _ _ _ h => h) G (fun v _ => BN G v) hS<|AG 7 [16] G (by kernel_rfl) (fun _ _ _ h => h) G (fun v _ => AQ DF G v) hS<|AG 8 [16] G (by kernel_rfl) (fun _ _ _ h => h) G (fun v _ => AQ Fl G v) hS<|AG 9 [16] G (by kernel_rfl) (fun _ _ _ h => h) G (fun v hv => Ai G22 G ((Ac hv _).trans G)) hS<|Bf (v := .func (.func 233) #[] #[.pointer (some ⟨g16,0,none⟩)]) 10 G (by kernel_rfl) (fun _ _ _ h => h) G (fun _ => by kernel_rfl) (fun _ => hS)<|Aq 11 (by kernel_rfl) G ?_
    refine cl C232 [] G ((containsf232 233 [.pointer (some ⟨g16,0,none⟩)] C233 (fun x => x ∈ bitsW s) D.FA D.cf n.fin W6 (Kd.R_reads' hfi6).2.2 (fun x _ => in233 AS cS g16 (bitsW s) x W6 (Kd.R_reads' hrs6).2.2 hg166)).mono ?_)
    rintro e W7 ⟨⟨b,rfl,hbb⟩,rfl⟩
    have hbe : b = decide (s &&& AR n.fin ≠ 0) := by
     have h1 := hbb.trans (meets_iff hs32 hn.fin)
     cases b with
     | true => rw [decide_eq_true (h1.1 rfl)]
     | false => rw [decide_eq_false (fun h => by cases h1.2 h)]
    refine ⟨_,rfl,fun _ => hS,?_⟩
    refine Aq 12 (by kernel_rfl) G<|BH (AJ (u := .bool b) U33 I4 G G) ⟨fun _ => Ab hS (AP (Below.refl _ _) _),?_⟩
    refine Aq 13 (by kernel_rfl) G ?_
    rw [← hfb] at hfb6
    refine Eg (bytes := 1) Kd.bool (p := b) (okp := fun _ => False) U33 I4 G (by decide) (by decide) (by show Value.slice D.bA nx.length D.c4 = Value.slice D.bA fb.length D.c4; rw [hfb]) G hfb6 G (fun k hk => hk.elim) (fun _ _ => trivial) hj6.lt' (by omega) ?_
    intro AB cB W8 hfb8 hg8
    have hfl1 : (fb ++ [b]).length = nx.length + 1 := by simp [hfb]
    rw [hfl1] at hfb8 ⊢
    have hl8 := Kd.R_over' hl6 (Kd.R_typed hfb6) (by decide) hg8
    have hn8 := Kd.R_over' hn6 (Kd.R_typed hfb6) (by decide) hg8
    have hst8 := Kd.R_over' hst6 (Kd.R_typed hfb6) (by decide) hg8
    have hfi8 := Kd.R_over' hfi6 (Kd.R_typed hfb6) (by decide) hg8
    have hed8 := Kd.R_over' hed6 (Kd.R_typed hfb6) (by decide) hg8
    have hse8 := Kd.R_over' hse6 (Kd.R_typed hfb6) (by decide) hg8
    have hma8 := Ew hma6 hfb6 hg8
    have hS8 := Br hS (Kd.R_typed hfb6) hg8 (by decide)
    have hj8 := hj6.row hfb6 (by decide) hg8 (Nat.le_refl _)
    clear hl6 hn6 hst6 hfi6 hed6 hse6 hfb6 hrs6 hma6 hg166 hj6 hS hg8
    refine ⟨fun _ => hS8,?_⟩
    refine Aq 14 (by kernel_rfl) G<|onc G ⟨fun _ => hS8,?_⟩
    refine Aq 15 (by kernel_rfl) G<|ofa Jl G ⟨fun _ => hS8,?_⟩
    refine Aq 16 (by kernel_rfl) G<|Bc (v := .slice AB (nx.length + 1) cB) (i := 0 + 9) S33 G G G hS8 (by simp) ?_
    intro W9 hbl9 hg9
    refine ⟨fun h => absurd h (by decide),?_⟩
    refine Bw (by kernel_rfl)<|ab G<|ai G<|?_
    have hrows : ∃ L1 L2 : Nat → Prop,(∀ i,L1 i → ¬ L2 i) ∧ Kii.R 22 W9 base L1 (.slice lA (BX n.step o s L).length c2) ((BX n.step o s L).map bitsW) ∧ Kii.R 22 W9 base L2 (.slice AN (nx ++ [Ca n.step o s L]).length cN) (nx ++ [Ca n.step o s L]) := by
     rw [hOl,hnl1]
     refine ⟨fun i => ((L1 i ∧ i < N0) ∨ N1 ≤ i) ∧ i < W3.heap.size,fun i => (L2 i ∧ i < N0) ∨ (N0 ≤ i ∧ i < N1) ∨ W3.heap.size ≤ i,fun k hk h2 => ?_,Ah hl8 hS8 (by decide) hg9,Ah hn8 hS8 (by decide) hg9⟩
     have h3 := hdis k
     rcases hk with ⟨h1 | h1,h4⟩ <;> rcases h2 with h2 | h2 | h2 <;> first | exact h3 h1.1 h2.1 | omega
    refine rt2 G G G ⟨hj8.turn hg9 hS8 (by decide) hp,.inr ⟨s,{ D with sA := sA,c1 := c1,lA := lA,c2 := c2,nA := AN,c3 := cN,bA := AB,c4 := cB },hs,rfl,⟨?_,Ah hst8 hS8 (by decide) hg9,Ah hfi8 hS8 (by decide) hg9,Ah hed8 hS8 (by decide) hg9,?_,hrows,hma8.keep hg9 hS8,?_,hp,hm,?_⟩⟩⟩
    ·rw [hOl,hnl1]; exact hbl9
    ·rw [hOl]; exact Ah hse8 hS8 (by decide) hg9
    ·rw [hnl1,← hbe]; exact Ah hfb8 hS8 (by decide) hg9
    ·rw [← hbe,hnl1,hfl1]
section
structure St57 (b s0 B0 : Nat) (vs : Value) (NA : Array Value) (SA : Option Addr) (st : List Int) (cS : Nat) (W0 : World) (b2 b5 b6 b7 b9 b10 b11 : Bool) (f : Fm 32) (W : World) : Prop where
 low : Below W0.heap.size W0 W
 sl : has f [] [(1,.pointer (some ⟨b,0,none⟩)),(19,.agg NA),(20,vs),(23,.slice SA st.length cS),(27,vs)]
 r2 : b2 = true → ∃ A c,gt f 21 = .slice A 1 c ∧ kset.R 82 W B0 (fun _ => True) (.slice A 1 c) [s0]
 r5 : b5 = true → b6 = false → ∃ A c,gt f 24 = .slice A st.length c ∧ (Kd.int .i64).R 3 W B0 (fun _ => True) (.slice A st.length c) st
 r6 : b6 = true → ∃ A c,gt f 25 = .slice A 1 c ∧ Kii.R 22 W B0 (fun _ => True) (.slice A 1 c) [st]
 r7 : b7 = true → ∃ r,gt f 26 = .map (some r) ∧ W0.heap.size ≤ r ∧ MapIs W r (bif b10 then nums DY [s0] else [])
 r9 : b9 = true → gt f 28 = .string (DY s0)
 r11 : b11 = true → gt f 29 = gt f 26
 ok : (b6 = true → b5 = true) ∧ (b9 = true → b5 = true) ∧ (b10 = true → b7 = true ∧ b9 = true) ∧ (b11 = true → b10 = true)
def L57 (b2 b5 b6 b7 b9 b10 b11 : Bool) : Array Bool := #[true,true,b2,true,true,b5,b6,b7,true,b9,b10,b11,false,false,false]
def F57 (b2 b5 b6 b7 b9 b10 b11 : Bool) : Nat := (bif b2 then 0 else 1) + (bif b5 then 0 else 1) + (bif b6 then 0 else 1) + (bif b7 then 0 else 1) + (bif b9 then 0 else 1) + (bif b10 then 0 else 1) + (bif b11 then 0 else 1) + 3
def D57 (b2 b5 b6 b7 b9 b10 b11 : Bool) : List Nat := (bif b2 then [] else [2]) ++ (bif b5 then [] else [5]) ++ (bif b5 && !b6 then [6] else []) ++ (bif b7 then [] else [7]) ++ (bif b5 && !b9 then [9] else []) ++ (bif b7 && b9 && !b10 then [10] else []) ++ (bif b10 && !b11 then [11] else []) ++ (bif b2 && b6 && b11 then [12] else [])
variable {b s0 B0 : Nat} {vs : Value} {NA : Array Value} {SA : Option Addr} {st : List Int} {cS : Nat} {W0 : World} {b2 b5 b6 b7 b9 b10 b11 : Bool} {f : Fm 32} {W : World}
theorem St57.below {W1 : World} (h : St57 b s0 B0 vs NA SA st cS W0 b2 b5 b6 b7 b9 b10 b11 f W) (hb : Below W.heap.size W W1) : St57 b s0 B0 vs NA SA st cS W0 b2 b5 b6 b7 b9 b10 b11 f W1 :=
 ⟨Ad h.low hb,h.sl,fun e => by obtain ⟨A,c,h1,h2⟩ := h.r2 e; exact ⟨A,c,h1,Kd.R_below h2 hb⟩,fun e e' => by obtain ⟨A,c,h1,h2⟩ := h.r5 e e'; exact ⟨A,c,h1,Kd.R_below h2 hb⟩,fun e => by obtain ⟨A,c,h1,h2⟩ := h.r6 e; exact ⟨A,c,h1,Kd.R_below h2 hb⟩,
  fun e => by obtain ⟨r,h1,h2,h3⟩ := h.r7 e; exact ⟨r,h1,h2,h3.below hb⟩,h.r9,h.r11,h.ok⟩
variable {ops : Array Oper} {Q : Bd 32} {T : Fm 32 → World → Prop}
theorem s57_2 {ty : Nat} {pos : String} {aft : Array Edge} {As : Option Addr} {mq cs_ : Nat} (hvs : vs = .slice As mq cs_) (hs : SetB W0 B0 vs s0) (hB : B0 ≤ W0.heap.size) (h : St57 b s0 B0 vs NA SA st cS W0 false b5 b6 b7 b9 b10 b11 f W) (hk : ∀ f W,St57 b s0 B0 vs NA SA st cS W0 true b5 b6 b7 b9 b10 b11 f W → T f W) :
  LS Tryz.prog ops (thn T Q) ⟨some 21,.buildSlice 84 1 #[(0,.tmp 20)],ty,pos,aft,none⟩ [] f W := by
 have hz := h.low.size
 have hs1 := hs.below h.low
 subst hvs
 refine BV kset B0 (p := s0) (okp := fun _ => True) (AJ (u := .slice As mq cs_) U84 I82 h.sl.2.2.1 G) ⟨_,rfl,hs1.setM (fun _ _ _ => trivial)⟩ rfl (Nat.le_trans hB hz) ?_
 intro A c w1 hR hb
 have h1 := h.below hb
 exact hk _ _ ⟨h1.low,h1.sl,fun _ => ⟨A,c,rfl,hR⟩,h1.r5,h1.r6,h1.r7,h1.r9,h1.r11,h1.ok⟩
theorem s57_5 {ty : Nat} {pos : String} {aft : Array Edge} {ts : Array TypeId} (hs : (Kd.int .i64).C W0 SA st.length st) (hl : st.length ≤ 1000000) (hB : B0 ≤ W0.heap.size) (h : St57 b s0 B0 vs NA SA st cS W0 b2 false b6 b7 b9 b10 b11 f W) (hk : ∀ f W,St57 b s0 B0 vs NA SA st cS W0 b2 true b6 b7 b9 b10 b11 f W → T f W) :
  LS Tryz.prog ops (thn T Q) ⟨some 24,.call { callee := .value (.func 53),args := #[.tmp 23],argTypes := ts },ty,pos,aft,none⟩ [] f W := by
 have hz := h.low.size
 have h6 : b6 = false := by cases hb : b6 with
  | false => rfl
  | true => have := h.ok.1 hb; cases this
 have h9 : b9 = false := by cases hb : b9 with
  | false => rfl
  | true => have := h.ok.2.1 hb; cases this
 subst h6 h9
 have hv := h.sl.2.2.2.1
 refine cl C53 [] G ?_
 rw [show evs f [.tmp 23] = [.slice SA st.length cS] by show [gt f 23] = _; rw [hv]]
 refine (EC SA cS st W (Kd.C_below hs h.low) hl).mono ?_
 rintro e w1 ⟨A,c,rfl,hR,hb⟩
 have h1 := h.below hb
 exact ⟨_,rfl,hk _ _ ⟨h1.low,h1.sl,h1.r2,fun _ _ => ⟨A,c,rfl,Kd.R_lower hR (Nat.le_trans hB hz)⟩,(fun e => by cases e),h1.r7,(fun e => by cases e),h1.r11,⟨fun _ => rfl,fun _ => rfl,h1.ok.2.2.1,h1.ok.2.2.2⟩⟩⟩
theorem s57_6 {ty : Nat} {pos : String} {aft : Array Edge} (hB : B0 ≤ W0.heap.size) (h : St57 b s0 B0 vs NA SA st cS W0 b2 true false b7 b9 b10 b11 f W) (hk : ∀ f W,St57 b s0 B0 vs NA SA st cS W0 b2 true true b7 b9 b10 b11 f W → T f W) :
  LS Tryz.prog ops (thn T Q) ⟨some 25,.buildSlice 27 1 #[(0,.tmp 24)],ty,pos,aft,none⟩ [] f W := by
 have hz := h.low.size
 obtain ⟨A0,c0,h4,h5⟩ := h.r5 rfl rfl
 refine BV Kii B0 (p := st) (okp := fun _ => True) (AJ (u := .slice A0 st.length c0) U27 CY h4 G) (Kd.M_row h5) G (Nat.le_trans hB hz) ?_
 intro A c w1 hR hb
 have h1 := h.below hb
 exact hk _ _ ⟨h1.low,h1.sl,h1.r2,(fun _ e => by cases e),fun _ => ⟨A,c,rfl,hR⟩,h1.r7,h1.r9,h1.r11,⟨fun _ => rfl,h1.ok.2⟩⟩
theorem s57_7 {ty : Nat} {pos : String} {aft : Array Edge} (h : St57 b s0 B0 vs NA SA st cS W0 b2 b5 b6 false b9 b10 b11 f W) (hk : ∀ f W,St57 b s0 B0 vs NA SA st cS W0 b2 b5 b6 true b9 b10 b11 f W → T f W) :
  LS Tryz.prog ops (thn T Q) ⟨some 26,.makeMap 118 none,ty,pos,aft,none⟩ [] f W := by
 have hz := h.low.size
 have h10 : b10 = false := by cases hb : b10 with
  | false => rfl
  | true => have := (h.ok.2.2.1 hb).1; cases this
 have h11 : b11 = false := by cases hb : b11 with
  | false => rfl
  | true => have := h.ok.2.2.2 hb; rw [h10] at this; cases this
 subst h10 h11
 refine Kh ?_
 intro w1 hm hb
 have h1 := h.below hb
 exact hk _ _ ⟨h1.low,h1.sl,h1.r2,h1.r5,h1.r6,fun _ => ⟨_,rfl,hz,hm⟩,h1.r9,(fun e => by cases e),⟨h1.ok.1,h1.ok.2.1,(fun e => by cases e),fun e => by cases e⟩⟩
theorem s57_9 {ty : Nat} {pos : String} {aft : Array Edge} {ts : Array TypeId} (hs : SetB W0 B0 vs s0) (h32 : s0 < 36) (h : St57 b s0 B0 vs NA SA st cS W0 b2 true b6 b7 false b10 b11 f W) (hk : ∀ f W,St57 b s0 B0 vs NA SA st cS W0 b2 true b6 b7 true b10 b11 f W → T f W) :
  LS Tryz.prog ops (thn T Q) ⟨some 28,.call { callee := .value (.func 105),args := #[.tmp 27],argTypes := ts },ty,pos,aft,none⟩ [] f W := by
 have h10 : b10 = false := by cases hb : b10 with
  | false => rfl
  | true => have := (h.ok.2.2.1 hb).2; cases this
 subst h10
 have hv := h.sl.2.2.2.2.1
 refine cl LG [] G ?_
 rw [show evs f [.tmp 27] = [vs] by show [gt f 27] = _; rw [hv]]
 refine (Jb vs s0 B0 W (hs.below h.low) h32).mono ?_
 rintro e w1 ⟨rfl,hb⟩
 have h1 := h.below hb
 exact ⟨_,rfl,hk _ _ ⟨h1.low,h1.sl,h1.r2,h1.r5,h1.r6,h1.r7,fun _ => rfl,h1.r11,⟨h1.ok.1,fun _ => rfl,(fun e => by cases e),h1.ok.2.2.2⟩⟩⟩
theorem s57_10 {ty : Nat} {pos : String} {aft : Array Edge} (h : St57 b s0 B0 vs NA SA st cS W0 b2 b5 b6 true true false b11 f W) (hk : ∀ f W,St57 b s0 B0 vs NA SA st cS W0 b2 b5 b6 true true true b11 f W → T f W) :
  LS Tryz.prog ops (thn T Q) ⟨none,.insert 118 (.tmp 26) (.tmp 28) (.const (.int .i64 0)),ty,pos,aft,none⟩ [] f W := by
 obtain ⟨r,h1,h2,h3⟩ := h.r7 rfl
 refine opi (v := .int .i64 0) US9 Ds h1 (h.r9 G) G h3 G ?_
 intro w1 hm hg
 have h3' : MapIs W r [] := h3
 exact hk _ _ ⟨h.low.grown hg h.low.size (fun k e => by cases e; exact h2),h.sl,fun e => by obtain ⟨A,c,k1,k2⟩ := h.r2 e; exact ⟨A,c,k1,h3.row hg k2⟩,fun e e' => by obtain ⟨A,c,k1,k2⟩ := h.r5 e e'; exact ⟨A,c,k1,h3.row hg k2⟩,fun e => by obtain ⟨A,c,k1,k2⟩ := h.r6 e; exact ⟨A,c,k1,h3.row hg k2⟩,
  fun _ => ⟨r,h1,h2,hm⟩,h.r9,h.r11,⟨h.ok.1,h.ok.2.1,fun _ => ⟨rfl,rfl⟩,fun e => rfl⟩⟩
theorem s57_11 {ty : Nat} {pos : String} {aft : Array Edge} (h : St57 b s0 B0 vs NA SA st cS W0 b2 b5 b6 b7 b9 true false f W) (hk : ∀ f W,St57 b s0 B0 vs NA SA st cS W0 b2 b5 b6 b7 b9 true true f W → T f W) :
  LS Tryz.prog ops (thn T Q) ⟨some 29,.move (.tmp 26),ty,pos,aft,none⟩ [] f W := by
 refine mv G ?_
 exact hk _ _ ⟨h.low,h.sl,h.r2,h.r5,h.r6,h.r7,h.r9,fun _ => rfl,⟨h.ok.1,h.ok.2.1,h.ok.2.2.1,fun _ => rfl⟩⟩
theorem r57 {ops : Array Oper} {Q : Bd 32} {S : World → Prop} {As : Option Addr} {mq cs_ : Nat} (hS : ∀ W,Below W0.heap.size W0 W → S W) {t2 t5 t6 t7 t9 t10 t11 : Nat} {p2 p5 p6 p7 p9 p10 p11 : String} {a2 a5 a6 a7 a9 a10 a11 : Array Edge} {ts5 ts9 : Array TypeId}
  (hvs : vs = .slice As mq cs_) (hs : SetB W0 B0 vs s0) (h32 : s0 < 36) (hB : B0 ≤ W0.heap.size) (hst : (Kd.int .i64).C W0 SA st.length st) (hl : st.length ≤ 1000000)
  (o2 : ops[2]? = some ⟨some 21,.buildSlice 84 1 #[(0,.tmp 20)],t2,p2,a2,none⟩)
  (o5 : ops[5]? = some ⟨some 24,.call { callee := .value (.func 53),args := #[.tmp 23],argTypes := ts5 },t5,p5,a5,none⟩)
  (o6 : ops[6]? = some ⟨some 25,.buildSlice 27 1 #[(0,.tmp 24)],t6,p6,a6,none⟩)
  (o7 : ops[7]? = some ⟨some 26,.makeMap 118 none,t7,p7,a7,none⟩)
  (o9 : ops[9]? = some ⟨some 28,.call { callee := .value (.func 105),args := #[.tmp 27],argTypes := ts9 },t9,p9,a9,none⟩)
  (o10 : ops[10]? = some ⟨none,.insert 118 (.tmp 26) (.tmp 28) (.const (.int .i64 0)),t10,p10,a10,none⟩)
  (o11 : ops[11]? = some ⟨some 29,.move (.tmp 26),t11,p11,a11,none⟩)
  (hr : ∀ b2 b5 b6 b7 b9 b10 b11,(b6 = true → b5 = true) → (b9 = true → b5 = true) → (b10 = true → b7 = true ∧ b9 = true) → (b11 = true → b10 = true) → Region.ready .any ops (L57 b2 b5 b6 b7 b9 b10 b11) = D57 b2 b5 b6 b7 b9 b10 b11)
  (hE : ∀ f W,St57 b s0 B0 vs NA SA st cS W0 true true true true true true true f W → AH Tryz.prog ops Q S 3 (L57 true true true true true true true) f W) :
  ∀ (m : Nat) (b2 b5 b6 b7 b9 b10 b11 : Bool) (f : Fm 32) (W : World),F57 b2 b5 b6 b7 b9 b10 b11 = m + 3 → St57 b s0 B0 vs NA SA st cS W0 b2 b5 b6 b7 b9 b10 b11 f W → AH Tryz.prog ops Q S (m + 3) (L57 b2 b5 b6 b7 b9 b10 b11) f W := by
 intro m
 induction m with
 | zero =>
  intro b2 b5 b6 b7 b9 b10 b11 f W hm h
  have : b2 = true ∧ b5 = true ∧ b6 = true ∧ b7 = true ∧ b9 = true ∧ b10 = true ∧ b11 = true := by
   unfold F57 at hm
   cases b2 <;> cases b5 <;> cases b6 <;> cases b7 <;> cases b9 <;> cases b10 <;> cases b11 <;> simp at hm ⊢
  obtain ⟨rfl,rfl,rfl,rfl,rfl,rfl,rfl⟩ := this
  exact hE f W h
 | succ m ih =>
  intro b2 b5 b6 b7 b9 b10 b11 f W hm h
  have hlr := hr b2 b5 b6 b7 b9 b10 b11 h.ok.1 h.ok.2.1 h.ok.2.2.1 h.ok.2.2.2
  have hok := h.ok
  have hcase : D57 b2 b5 b6 b7 b9 b10 b11 ≠ [] ∧ ∀ i ∈ D57 b2 b5 b6 b7 b9 b10 b11,(i = 2 ∧ b2 = false) ∨ (i = 5 ∧ b5 = false) ∨ (i = 6 ∧ b5 = true ∧ b6 = false) ∨ (i = 7 ∧ b7 = false) ∨ (i = 9 ∧ b5 = true ∧ b9 = false) ∨ (i = 10 ∧ b7 = true ∧ b9 = true ∧ b10 = false) ∨ (i = 11 ∧ b10 = true ∧ b11 = false) := by
   unfold F57 at hm
   unfold D57
   revert hm hok
   cases b2 <;> cases b5 <;> cases b6 <;> cases b7 <;> cases b9 <;> cases b10 <;> cases b11 <;> simp
  refine KO hlr hcase.1 ?_
  intro i hi
  rcases hcase.2 i hi with ⟨rfl,rfl⟩ | ⟨rfl,rfl⟩ | ⟨rfl,rfl,rfl⟩ | ⟨rfl,rfl⟩ | ⟨rfl,rfl,rfl⟩ | ⟨rfl,rfl,rfl,rfl⟩ | ⟨rfl,rfl,rfl⟩
  ·exact ⟨_,o2,s57_2 hvs hs hB h (fun f W h' => ⟨hS _ h'.low,ih true b5 b6 b7 b9 b10 b11 f W (by unfold F57 at hm ⊢; simp only [cond_false,cond_true] at hm ⊢; omega) h'⟩)⟩
  ·exact ⟨_,o5,s57_5 hst hl hB h (fun f W h' => ⟨hS _ h'.low,ih b2 true b6 b7 b9 b10 b11 f W (by unfold F57 at hm ⊢; simp only [cond_false,cond_true] at hm ⊢; omega) h'⟩)⟩
  ·exact ⟨_,o6,s57_6 hB h (fun f W h' => ⟨hS _ h'.low,ih b2 true true b7 b9 b10 b11 f W (by unfold F57 at hm ⊢; simp only [cond_false,cond_true] at hm ⊢; omega) h'⟩)⟩
  ·exact ⟨_,o7,s57_7 h (fun f W h' => ⟨hS _ h'.low,ih b2 b5 b6 true b9 b10 b11 f W (by unfold F57 at hm ⊢; simp only [cond_false,cond_true] at hm ⊢; omega) h'⟩)⟩
  ·exact ⟨_,o9,s57_9 hs h32 h (fun f W h' => ⟨hS _ h'.low,ih b2 true b6 b7 true b10 b11 f W (by unfold F57 at hm ⊢; simp only [cond_false,cond_true] at hm ⊢; omega) h'⟩)⟩
  ·exact ⟨_,o10,s57_10 h (fun f W h' => ⟨hS _ h'.low,ih b2 b5 b6 true true true b11 f W (by unfold F57 at hm ⊢; simp only [cond_false,cond_true] at hm ⊢; omega) h'⟩)⟩
  ·exact ⟨_,o11,s57_11 h (fun f W h' => ⟨hS _ h'.low,ih b2 b5 b6 b7 b9 true true f W (by unfold F57 at hm ⊢; simp only [cond_false,cond_true] at hm ⊢; omega) h'⟩)⟩
end
theorem new57 (n : Na) (hn : n.Ok) (hn5 : n.states ≤ 5) (SA FA EA : Option Addr) (cs cf ce : Nat) (w : World) (hr : NR n w SA FA EA) :
  Calls Tryz.prog 57 #[.agg (n.vals SA FA EA cs cf ce).toArray] w fun e w' => ∃ p D,e = .returned (.pointer (some ⟨p,0,none⟩)) ∧ DS n w.heap.size p D [AR n.start] [] [] w' ∧ Below w.heap.size w w' := by
 have hsl := hn.start.length
 have hfl := hn.fin.length
 have hel := hn.e
 have hs32 : AR n.start < 32 := Nat.lt_of_lt_of_le (Fs hn.start.bnd) (Nat.pow_le_pow_right (n := 2) (by decide) hn5)
 refine enter 32 Tryz.func57 G G _ (by simp) ?_
 refine obx (cs := n.vals SA FA EA cs cf ce) G G ?_
 intro b w1 hbe hbb hb1
 refine ap G<|Bv 10 mixed (fun V => V.heap[b]? = some (.cells (n.vals SA FA EA cs cf ce).toArray 25 (0,0))) ?_
 intro w2 hb2 _ _
 have hS := Ab hbb hb2
 have hB := Ad hb1 hb2
 refine Ay 0 G (by kernel_rfl) (fun _ _ _ h => h) G (fun v _ => AQ EG G v) hS<|Ay 1 G (by kernel_rfl) (fun _ _ _ h => h) G (fun v hv => Ai G22 G ((Ac hv _).trans G)) hS<|Ay 3 G (by kernel_rfl) (fun _ _ _ h => h) G (fun v _ => AQ Fl G v) hS<|Ay 4 G (by kernel_rfl) (fun _ _ _ h => h) G (fun v hv => Ai G22 G ((Ac hv _).trans G)) hS<|Ay 6 G (by kernel_rfl) (fun _ _ _ h => h) G (fun v _ => AQ Dz G v) hS<|Ay 7 G (by kernel_rfl) (fun _ _ _ h => h) G (fun v hv => Ai G23 G ((Ac hv _).trans G)) hS<|Aq 2 (by kernel_rfl) G<|cl C53 [] G ((EC SA cs n.start w2 (hr.below hB).start (by omega)).mono ?_)
 rintro e w3 ⟨SA',cs',rfl,hrs,hb3⟩
 have hz2 := hB.size
 have hrs := Kd.R_lower hrs hz2
 have hS := Ab hS hb3
 have hB := Ad hB hb3
 refine ⟨_,rfl,fun _ => hS,?_⟩
 refine Ay 9 G (by kernel_rfl) (fun _ _ _ h => h) G (fun v _ => AQ EG G v) hS<|Aq 5 (by kernel_rfl) G<|cl C53 [] G ((EC FA cf n.fin w3 (hr.below hB).fin (by omega)).mono ?_)
 rintro e w4 ⟨FA',cf',rfl,hrf,hb4⟩
 have hrf := Kd.R_lower hrf hB.size
 have hrs := Kd.R_below hrs hb4
 have hS := Ab hS hb4
 have hB := Ad hB hb4
 refine ⟨_,rfl,fun _ => hS,?_⟩
 refine Aq 8 (by kernel_rfl) G<|cl C103 [] G ((clone103 EA ce n.edges w4 (hr.below hB).edges (by omega)).mono ?_)
 rintro e w5 ⟨EA',ce',rfl,hre,hb5⟩
 have hre := Kd.R_lower hre hB.size
 have hrf := Kd.R_below hrf hb5
 have hrs := Kd.R_below hrs hb5
 have hS := Ab hS hb5
 have hB := Ad hB hb5
 have hwb : w.heap.size ≤ b := by omega
 refine ⟨_,rfl,fun _ => hS,?_⟩
 refine Aq 10 (by kernel_rfl) G<|Bc (v := .slice SA' n.start.length cs') (cs := n.vals SA FA EA cs cf ce) (i := 0 + 2) S22 G G G hS (by simp) ?_
 intro w6 hbb6 hg6
 refine ⟨fun h => absurd h (by decide),?_⟩
 have hbb6 : w6.heap[b]? = some (.cells (n.vals SA' FA EA cs' cf ce).toArray 25 (0,0)) := hbb6
 have hrs := Ah hrs hS (by decide) hg6
 have hrf := Ah hrf hS (by decide) hg6
 have hre := Ah hre hS (by decide) hg6
 have hB := hB.grown hg6 hB.size (fun k e => by cases e; exact hwb)
 refine Aq 11 (by kernel_rfl) G<|ofa Fl G ⟨fun h => absurd h (by decide),?_⟩
 refine Aq 12 (by kernel_rfl) G<|Bc (v := .slice FA' n.fin.length cf') (cs := n.vals SA' FA EA cs' cf ce) (i := 0 + 3) S22 G G G hbb6 (by simp) ?_
 intro w7 hbb7 hg7
 refine ⟨fun h => absurd h (by decide),?_⟩
 have hbb7 : w7.heap[b]? = some (.cells (n.vals SA' FA' EA cs' cf' ce).toArray 25 (0,0)) := hbb7
 have hrs := Ah hrs hbb6 (by decide) hg7
 have hrf := Ah hrf hbb6 (by decide) hg7
 have hre := Ah hre hbb6 (by decide) hg7
 have hB := hB.grown hg7 hB.size (fun k e => by cases e; exact hwb)
 refine Aq 13 (by kernel_rfl) G<|ofa Dz G ⟨fun h => absurd h (by decide),?_⟩
 refine Aq 14 (by kernel_rfl) G<|Bc (v := .slice EA' n.edges.length ce') (cs := n.vals SA' FA' EA cs' cf' ce) (i := 0 + 4) S23 G G G hbb7 (by simp) ?_
 intro w8 hbb8 hg8
 refine ⟨fun h => absurd h (by decide),?_⟩
 have hbb8 : w8.heap[b]? = some (.cells (n.vals SA' FA' EA' cs' cf' ce').toArray 25 (0,0)) := hbb8
 have hrs := Ah hrs hbb7 (by decide) hg8
 have hrf := Ah hrf hbb7 (by decide) hg8
 have hre := Ah hre hbb7 (by decide) hg8
 have hB := hB.grown hg8 hB.size (fun k e => by cases e; exact hwb)
 refine Bw (by kernel_rfl) ?_
 clear hbb hbb6 hbb7 hg6 hg7 hg8 hb1 hb2 hb3 hb4 hb5 hS hz2 hbe
 have hc2 : w8.cell? ⟨b,0 + 2,none⟩ = some (.slice SA' n.start.length cs') := (Ac hbb8 2).trans rfl
 refine ofa EG G<|old G22 G ‹_›<|cl C104 [] G ((set104 SA' cs' n.start w8 (Kd.R_reads' hrs).2.2 (fun k hk => by have := hn.start.bnd k hk; omega)).mono ?_)
 rintro e w9 ⟨r,rfl,hset,hb9⟩
 obtain ⟨As,mq,cq,rfl,_,_⟩ := id hset
 have hset := hset.lower hB.size
 have hrs := Kd.R_below hrs hb9
 have hrf := Kd.R_below hrf hb9
 have hre := Kd.R_below hre hb9
 have hbb := Ab hbb8 hb9
 have hB := Ad hB hb9
 clear hc2 hbb8 hb9
 refine ⟨_,rfl,?_⟩
 refine asl G<|Bu mixed (fun V => V.heap[b]? = some (.cells (n.vals SA' FA' EA' cs' cf' ce').toArray 25 (0,0))) ?_
 intro w10 hb10 _ _
 have hset := hset.below hb10
 have hrs := Kd.R_below hrs hb10
 have hrf := Kd.R_below hrf hb10
 have hre := Kd.R_below hre hb10
 have hS := Ab hbb hb10
 have hB := Ad hB hb10
 clear hbb hb10
 refine Aj (v := .agg (n.vals SA' FA' EA' cs' cf' ce').toArray) 0 G (by kernel_rfl) (fun _ _ _ h => h) G (fun v hv => Bs (vs := n.vals SA' FA' EA' cs' cf' ce') G25 S25 G (Ak hv)) hS<|Aj 1 G (by kernel_rfl) (fun _ _ _ h => h) G (fun v _ => ms_ G v) hS<|Aj 3 G (by kernel_rfl) (fun _ _ _ h => h) G (fun v _ => AQ EG G v) hS<|Aj 4 G (by kernel_rfl) (fun _ _ _ h => h) G (fun v hv => Ai G22 G ((Ac hv _).trans G)) hS<|Aj 8 G (by kernel_rfl) (fun _ _ _ h => h) G (fun v _ => ms_ G v) hS<|r57 (b := b) (s0 := AR n.start) (B0 := w.heap.size) (vs := .slice As mq cq) (NA := (n.vals SA' FA' EA' cs' cf' ce').toArray) (SA := SA') (st := n.start) (cS := cs') (W0 := w10) (fun W hW => Ab hS hW) G hset (by omega) hB.size (Kd.R_reads' hrs).2.2 (by omega) G G G G G G G
  (by intro b2 b5 b6 b7 b9 b10 b11 h1 h2 h3 h4; revert h1 h2 h3 h4; cases b2 <;> cases b5 <;> cases b6 <;> cases b7 <;> cases b9 <;> cases b10 <;> cases b11 <;> first | (intro h1 h2 h3 h4; exfalso; revert h1 h2 h3 h4; decide) | (intro _ _ _ _; kernel_rfl)) ?_ 7 false false false false false false false _ _ rfl ⟨Below.refl _ _,⟨rfl,rfl,rfl,rfl,rfl,rfl⟩,(fun e => by cases e),(fun e => by cases e),(fun e => by cases e),(fun e => by cases e),(fun e => by cases e),(fun e => by cases e),⟨(fun e => by cases e),(fun e => by cases e),(fun e => by cases e),fun e => by cases e⟩⟩
 intro f W h
 obtain ⟨A2,c2,h2,h2R⟩ := h.r2 rfl
 obtain ⟨A3,c3,h3,h3R⟩ := h.r6 rfl
 obtain ⟨r,h4,h4r,h4M⟩ := h.r7 rfl
 have h5 := (h.r11 rfl).trans h4
 rw [cond_true] at h4M
 have hb11 := h.low
 have hrs := Kd.R_below hrs hb11
 have hrf := Kd.R_below hrf hb11
 have hre := Kd.R_below hre hb11
 have hS := Ab hS hb11
 have hwz := hB.size
 have hB := Ad hB hb11
 have hds : f.ds = [] := Je _ h.sl
 refine ah_cut (d := []) [(1,.pointer (some ⟨b,0,none⟩)),(19,.agg (n.vals SA' FA' EA' cs' cf' ce').toArray),(21,.slice A2 1 c2),(25,.slice A3 1 c3),(29,.map (some r))] ⟨h.sl.1,h.sl.2.1,h2,h3,h5,hds⟩ ?_
 clear h h2 h3 h4 h5 hb11 hds
 intro f
 refine AA 12 (by kernel_rfl) G<|pl (.agg (Dl.cells ⟨SA',FA',EA',A2,A3,none,none,cs',cf',ce',c2,c3,0,0,r⟩ n 1 0).toArray) (fun _ => by kernel_rfl) ⟨hS,?_⟩
 refine AA 13 (by kernel_rfl) G<|obx (cs := Dl.cells ⟨SA',FA',EA',A2,A3,none,none,cs',cf',ce',c2,c3,0,0,r⟩ n 1 0) G G ?_
 intro p W1 hpe hpb hb12
 have hS1 := Ab hS hb12
 have hsz := hB.size
 refine ⟨hS1,?_⟩
 refine AA 14 (by kernel_rfl) G<|ap G ⟨hS1,?_⟩
 refine AY (by kernel_rfl)<|rt1 G G ⟨p,_,rfl,⟨hpb,Kd.R_below hrs hb12,Kd.R_below hrf hb12,Kd.R_below hre hb12,Kd.R_below h2R hb12,⟨fun _ => True,fun _ => False,fun _ _ h => h,?_,Kd.R_nil _ _ _ _ _⟩,h4M.below hb12,Kd.R_nil _ _ _ _ _,by omega,by show w.heap.size ≤ r; omega,rfl⟩,Ad hB hb12⟩
 have e : ([AR n.start].map bitsW) = [n.start] := by rw [List.map_cons,List.map_nil,bitsW_setOf hn.start hn5]
 rw [e]
 exact Kd.R_below h3R hb12
theorem Ju (n : Na) (hn : n.Ok) (hn5 : n.states ≤ 5) (SA FA EA : Option Addr) (cs cf ce : Nat) (w : World) (hr : NR n w SA FA EA) :
  Calls Tryz.prog 24 #[.agg (n.vals SA FA EA cs cf ce).toArray] w fun e w' => ∃ j p D,e = .returned (.tuple #[.pointer (some ⟨j,0,none⟩),.int .i64 0]) ∧ B8 j 117 p 0 w' ∧ w.heap.size ≤ j ∧ DS n w.heap.size p D [AR n.start] [] [] w' ∧ Below w.heap.size w w' := by
 refine enter 15 Tryz.func24 G G _ (by simp) ?_
 refine obx (cs := n.vals SA FA EA cs cf ce) G G ?_
 intro b w1 hbe hbb hb1
 refine ap G<|ai G<|AV (vs := n.vals SA FA EA cs cf ce) G25 S25 G (Ak hbb)<|cl C30 [] G ((Gh n hn SA FA EA cs cf ce w1 (hr.below hb1)).mono ?_)
 rintro e w2 ⟨rfl,hb2⟩
 refine ⟨_,rfl,?_⟩
 have hbb := Ab hbb hb2
 have hB := Ad hb1 hb2
 refine ai G<|mi G<|one G G<|isf (by omega)<|?_
 refine cdf G<|AV (vs := n.vals SA FA EA cs cf ce) G25 S25 G (Ak hbb)<|cl C57 [] G ((new57 n hn hn5 SA FA EA cs cf ce w2 (hr.below hB)).mono ?_)
 rintro e w3 ⟨p,D,rfl,hD,hb3⟩
 refine ⟨_,rfl,?_⟩
 refine pl (.iface 117 (.pointer (some ⟨p,0,none⟩))) (fun _ => by kernel_rfl)<|pl (.agg #[.iface 117 (.pointer (some ⟨p,0,none⟩)),.int .i64 0]) (fun _ => by kernel_rfl)<|obx (cs := [.iface 117 (.pointer (some ⟨p,0,none⟩)),.int .i64 (0 : Nat)]) G G ?_
 intro j w4 hje hjb hb4
 have hs2 := hB.size
 have hs3 := hb3.size
 refine ap G<|ai G<|?_
 have hD4 := hD.below hb4
 obtain ⟨L1,L2,h1,h2,h3⟩ := hD4.rows
 exact rt2 rfl rfl rfl ⟨j,p,D,rfl,hjb,by omega,⟨hD4.blk,Kd.R_lower hD4.st hs2,Kd.R_lower hD4.fi hs2,Kd.R_lower hD4.ed hs2,Kd.R_lower hD4.sets hs2,⟨L1,L2,h1,Kd.R_lower h2 hs2,Kd.R_lower h3 hs2⟩,hD4.map,Kd.R_lower hD4.fin hs2,Nat.le_trans hs2 hD4.hp,Nat.le_trans hs2 hD4.hm,hD4.hb⟩,Ad (Ad hB hb3) hb4⟩
def Na.finals (n : Na) (k : Nat) : List Bool := ((n.subs k).take k).map fun s => decide (s &&& AR n.fin ≠ 0)
def Na.rowsK (n : Na) (k : Nat) : List (List Int) := Cg n.step (2 ^ n.vars) (AR n.start) k
def StD (n : Na) (base p k : Nat) (W : World) : Prop := k ≤ (n.subs k).length ∧ ∃ D,DS n base p D (n.subs k) (n.rowsK k) (n.finals k) W
def nxD (n : Na) (k : Nat) : Option Nat := if k < (n.subs k).length then some (k + 1) else none
theorem Er {n : Na} (hn : n.Ok) (hn5 : n.states ≤ 5) (k : Nat) : ∀ u ∈ n.subs k,u < 32 :=
 DM n.step (P := fun u => u < 32) (Nat.lt_of_lt_of_le (Fs hn.start.bnd) (Nat.pow_le_pow_right (n := 2) (by decide) hn5)) (fun s x _ _ => Nat.lt_of_lt_of_le (Na.step_lt hn s x) (Nat.pow_le_pow_right (n := 2) (by decide) hn5)) k
theorem Gj (n : Na) (k : Nat) : (n.subs k).Nodup := B4 n.step _ _ k
theorem Gk {n : Na} (hn : n.Ok) (hn5 : n.states ≤ 5) (k : Nat) : (n.subs k).length ≤ 32 := Cw 32 _ (Gj n k) (Er hn hn5 k)
theorem finals_succ {n : Na} {k s : Nat} (h : (n.subs k)[k]? = some s) : n.finals (k + 1) = n.finals k ++ [decide (s &&& AR n.fin ≠ 0)] := by
 have hp : n.subs k <+: n.subs (k + 1) := E9 _ _ _ _
 obtain ⟨r,hr⟩ := hp
 have hk := (List.getElem?_eq_some_iff.1 h).1
 unfold Na.finals
 rw [← hr,List.take_append_of_le_length hk,List.take_succ_eq_append_getElem hk,List.map_append]
 rw [gE hk] at h
 injection h with h
 rw [h]
 rfl
theorem knD (n : Na) (hn : n.Ok) (hn5 : n.states ≤ 5) (base p : Nat) : Kn 117 230 229 p base (StD n base p) (nxD n) where
 mu := mU117
 ml := mL117
 u := by
  rintro k W ⟨hk,D,hD⟩
  have hl : (n.rowsK k).length = k := DI _ _ _ _
  refine (unit230 n hn hn5 base p D (n.subs k) (n.rowsK k) (n.finals k) W hD (Er hn hn5 k) (Gj n k) (by rw [hl]; exact hk)).mono ?_
  rintro e W' ⟨hJ,⟨h1,rfl,h2⟩ | ⟨s,D',h1,rfl,h2⟩⟩
  ·rw [hl] at h1
   exact ⟨false,rfl,hJ,.inl ⟨rfl,by unfold nxD; rw [if_neg (by omega)],hk,D,h2⟩⟩
  ·rw [hl] at h1
   have hkl := (List.getElem?_eq_some_iff.1 h1).1
   have e1 : n.subs (k + 1) = BX n.step (n.subs k) s (2 ^ n.vars) := Fu n.step h1
   have e2 : n.rowsK (k + 1) = n.rowsK k ++ [Ca n.step (n.subs k) s (2 ^ n.vars)] := Gn n.step h1
   refine ⟨true,rfl,hJ,.inr ⟨rfl,k + 1,by unfold nxD; rw [if_pos hkl],?_,D',?_⟩⟩
   ·have := (E9 n.step (2 ^ n.vars) (AR n.start) k).length_le
    show k + 1 ≤ (AZ n.step (2 ^ n.vars) (AR n.start) (k + 1)).length
    have h3 : k < (AZ n.step (2 ^ n.vars) (AR n.start) k).length := hkl
    omega
   ·rw [e1,e2,finals_succ h1]; exact h2
 l := by
  rintro k W ⟨hk,D,hD⟩
  have hl : (n.rowsK k).length = k := DI _ _ _ _
  refine (JN n base p D (n.subs k) (n.rowsK k) (n.finals k) W hD).mono ?_
  rintro e W' ⟨rfl,hb⟩
  refine ⟨?_,(JB.refl hD.lt).new hb,hk,D,hD.below hb⟩
  rw [hl]
  unfold nxD
  by_cases h : k < (n.subs k).length
  ·rw [if_pos h,decide_eq_true h]; rfl
  ·rw [if_neg h,decide_eq_false h]; rfl
 turn := by
  rintro k W W1 cs j ⟨hk,D,hD⟩ _ hj hg
  exact ⟨hk,D,hD.turn hj hg⟩
theorem StD.zero {n : Na} {base p : Nat} {D : Dl} {W : World} (h : DS n base p D [AR n.start] [] [] W) : StD n base p 0 W := ⟨Nat.zero_le _,D,h⟩
end
end Go.Proofs.YtmjllchdhcdinaaGreatDoor

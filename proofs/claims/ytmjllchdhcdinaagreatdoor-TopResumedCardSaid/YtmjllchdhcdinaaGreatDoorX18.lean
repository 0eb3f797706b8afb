/- Part of the proof: T1 T2 T3 T4 T5 T6 T7 T8 T9. -/
import Derived.Test.YtmjllchdhcdinaaGreatDoorX17
import Derived.Lib.SmallJoins
import Derived.Lib.AppendIntMem
set_option linter.unusedVariables false
set_option linter.unusedSimpArgs false
set_option maxRecDepth 100000
set_option maxHeartbeats 8000000
namespace Go.Proofs.YtmjllchdhcdinaaGreatDoor
section
open Go Fm Go.RowKit Go.Sort Go.Proofs.YtmjllchdhcdinaaGreatDoorW.PrintWords
theorem GY (a b : ByteArray) : (a.toList == b.toList) = decide (a = b) := by
 rw [ByteArray.toList_eq,ByteArray.toList_eq]
 by_cases h : a = b
 ·rw [decide_eq_true h,h]; simp
 ·rw [decide_eq_false h]
  have : a.data.toList ≠ b.data.toList := fun e => h (ByteArray.ext (Array.toList_inj.1 e))
  simpa using this
section
variable {n : Nat} {P : Program} {ops : Array Oper} {rest : List Oper} {Q : Bd n} {W : World} {f : Fm n} {d ty t t' : Nat} {x y : Operand} {pos : String} {aft : Array Edge} {a b : ByteArray}
theorem oseq_ (hx : ex f x = .string a) (hy : ex f y = .string b) : Pv P (.binOp .eql t x y t') ty f (.bool (decide (a = b))) := fun W => by
 rw [← GY]
 simp [Ru,execOp,hx,hy,go_sem]
theorem LM (hx : ex f x = .string a) (hy : ex f y = .string b) (r : RL P ops Q rest (up f d (.bool (decide (a = b)))) W) : LS P ops Q ⟨some d,.binOp .eql t x y t',ty,pos,aft,none⟩ rest f W := Bq (oseq_ hx hy) r
theorem osne_ (hx : ex f x = .string a) (hy : ex f y = .string b) : Pv P (.binOp .neq t x y t') ty f (.bool (decide (a ≠ b))) := fun W => by
 have e : decide (a ≠ b) = !(a.toList == b.toList) := by rw [GY]; by_cases h : a = b <;> simp [h]
 rw [e]
 simp [Ru,execOp,hx,hy,go_sem]
theorem osne (hx : ex f x = .string a) (hy : ex f y = .string b) (r : RL P ops Q rest (up f d (.bool (decide (a ≠ b)))) W) : LS P ops Q ⟨some d,.binOp .neq t x y t',ty,pos,aft,none⟩ rest f W := Bq (osne_ hx hy) r
end
section
variable {n : Nat} {P : Program} {ops : Array Oper} {rest : List Oper} {Q : Bd n} {W : World} {f : Fm n} {d ty t e : Nat} {x y : Operand} {pos : String} {aft : Array Edge} {k : IntKind}
theorem osah_ {g m sz l : Nat} (ht : P.underlying t = some (.array m e)) (hi : (P.info? e).map (·.size) = some sz) (hx : ex f x = .pointer (some ⟨g,0,none⟩)) (hy : ex f y = .int k (l : Nat)) (hl : l ≤ m) : Pv P (.slice t x none (some y) none) ty f (.slice (some ⟨g,0,none⟩) l m) := fun W => by
 obtain ⟨inf,hi',rfl⟩ := Option.map_eq_some_iff.1 hi
 by_cases hm : m = 0
 ·have hl0 : l = 0 := by omega
  subst hm hl0
  simp [Ru,execOp,Instr.sliceAt,Instr.sliceBounds,Instr.sliceBound,run_underlying ht,hx,hy,go_sem,hi',sizeOf,typeInfo]
 ·simp [Ru,execOp,Instr.sliceAt,Instr.sliceBounds,Instr.sliceBound,run_underlying ht,hx,hy,go_sem,hi',sizeOf,typeInfo,hl]
theorem LN {g m sz l : Nat} (ht : P.underlying t = some (.array m e)) (hi : (P.info? e).map (·.size) = some sz) (hx : ex f x = .pointer (some ⟨g,0,none⟩)) (hy : ex f y = .int k (l : Nat)) (hl : l ≤ m) (r : RL P ops Q rest (up f d (.slice (some ⟨g,0,none⟩) l m)) W) : LS P ops Q ⟨some d,.slice t x none (some y) none,ty,pos,aft,none⟩ rest f W := Bq (osah_ ht hi hx hy hl) r
end
theorem Lp : Tryz.prog.underlying 224 = some (.array 24 5) := by kernel_rfl
theorem FG (n : Nat) : ∀ b ∈ Lib.decDigits n,48 ≤ b.toNat ∧ b.toNat ≤ 57 := by
 induction n using Nat.strongRecOn with
 | ind u ih =>
  unfold Lib.decDigits
  split
  ·intro b hb
   rw [List.mem_singleton.1 hb,UInt8.toNat_ofNat']
   omega
  ·intro b hb
   rcases List.mem_append.1 hb with h | h
   ·exact ih (u / 10) (by omega) b h
   ·rw [List.mem_singleton.1 h,UInt8.toNat_ofNat']
    omega
theorem H6 {n : Nat} (h : n ≤ 1000000000) : (Lib.decDigits n).length ≤ 10 := by
 have key : ∀ k n,n < 10 ^ (k + 1) → (Lib.decDigits n).length ≤ k + 1 := by
  intro k
  induction k with
  | zero =>
   intro n hn
   unfold Lib.decDigits
   rw [dif_pos (by omega)]
   simp
  | succ k ih =>
   intro n hn
   unfold Lib.decDigits
   split
   ·simp
   ·rw [List.length_append]
    have := ih (n / 10) (by rw [Nat.pow_succ] at hn; omega)
    simp; omega
 exact key 9 n (by omega)
theorem HF (n : Nat) : (decS n).size = (Lib.decDigits n).length := by simp [decS,ByteArray.size]
theorem EB (n : Nat) : (decS n).data.toList = Lib.decDigits n := by simp [decS]
theorem Fh : ∀ (l : List UInt8) (acc : Nat),(∀ b ∈ l,48 ≤ b.toNat ∧ b.toNat ≤ 57) → Lib.decFrom acc l = some (l.foldl (fun a b => 10 * a + (b.toNat - 48)) acc)
 | [],acc,_ => rfl
 | b :: l,acc,h => by
  have hb := h b (List.mem_cons_self ..)
  unfold Lib.decFrom
  have hv : Lib.digitVal b = some (b.toNat - 48) := by unfold Lib.digitVal; rw [if_pos hb]
  rw [hv]
  simp only
  rw [Fh l _ (fun x hx => h x (List.mem_cons_of_mem _ hx)),List.foldl_cons,Nat.mul_comm]
theorem atoi_dec (n : Nat) : Lib.atoi (Lib.decDigits n) = some (n : Int) := by
 have hd := FG n
 have hv := Ez n
 have hf := Fh (Lib.decDigits n) 0 hd
 rw [hv] at hf
 cases hl : Lib.decDigits n with
 | nil => exact absurd hl (JS n)
 | cons b r =>
  rw [hl] at hd hf
  have hb := hd b (List.mem_cons_self ..)
  unfold Lib.atoi
  dsimp only
  have h1 : (b == 45) = false := by
   cases h : b == 45 with
   | false => rfl
   | true => have := (beq_iff_eq.1 h); rw [this] at hb; exact absurd hb.1 (by decide)
  have h2 : (b == 43) = false := by
   cases h : b == 43 with
   | false => rfl
   | true => have := (beq_iff_eq.1 h); rw [this] at hb; exact absurd hb.1 (by decide)
  rw [h1,h2]
  unfold Lib.decNat
  simp [hf]
theorem fmt166d (u : Nat) (w : World) (hu : u < 18446744073709551616) (hG : Glob w) :
  Calls Tryz.prog 166 #[.int .u64 (u : Nat),.int .i64 (10 : Nat)] w fun e w' => e = .returned (.string (decS u)) ∧ Below w.heap.size w w' := by
 refine enter 32 Tryz.func166 G G _ (by simp) ?_
 refine ast G<|mi G<|oeq G G<|ist (by omega)<|?_
 refine cdt G ?_
 by_cases h100 : u < 100
 ·refine mi G<|olt G G<|ist (by omega) ?_
  refine cdt G<|mi G<|CU (a := u) KU UI3 G (Nat.lt_trans h100 (by decide))<|cl C147 [] G ((Tryz.internal_strconv_small u h100 w).mono ?_)
  rintro e w1 ⟨rfl,rfl⟩
  refine ⟨_,rfl,?_⟩
  refine ast G<|?_
  exact rt1 rfl rfl ⟨rfl,Below.refl _ _⟩
 ·refine mi G<|olt G G<|isf (by omega) ?_
  refine cdf G ?_
  have hnd20 : Lib.nDigits u ≤ 20 := by have := Lib.numDigits_eq u (by omega) hu; split at this <;> omega
  have hH0 := Lib.holds_zero0 w 224 (Lib.nDigits u) (by omega)
  have hfmt := Tryz.internal_strconv_formatBase10 w.heap.size 0 24 u (Array.replicate (Lib.nDigits u) 0) (w.alloc (.cells Lib.zeros24 224)) hH0 (by rw [Array.size_replicate]; exact Lib.lt_pow_nDigits u) hu (by rw [Array.size_replicate]; omega)
  rw [Array.size_replicate] at hfmt
  refine BH (v := .pointer (some ⟨w.heap.size,0,none⟩)) (w1 := w.alloc (.cells Lib.zeros24 224)) (by kernel_rfl)<|mi G<|cl C148 [] G ((Tryz.internal_strconv_numDigits u (by omega) hu _ (Lib.tabIs_alloc hG.pow _)).mono ?_)
  rintro e w1 ⟨rfl,rfl⟩
  refine ⟨_,rfl,?_⟩
  refine ai G<|mi G<|LN (l := Lib.nDigits u) Lp ZB5 G G (by omega) ?_
  refine mi G<|cl C149 [] G (hfmt.mono ?_)
  rintro e w2 ⟨rfl,k,v',dk,rfl,hF⟩
  refine ⟨_,rfl,?_⟩
  have hcv : (convert 26 9 (.slice (some ⟨w.heap.size,0,none⟩) (Lib.nDigits u) 24)).run Tryz.prog ((putRow (fun (b : UInt8) => Value.int .u8 (b.toNat : Int)) (w.alloc (.cells Lib.zeros24 224)) w.heap.size 0 dk).drewN k) = .ok (.string (decS u)) ((putRow (fun (b : UInt8) => Value.int .u8 (b.toNat : Int)) (w.alloc (.cells Lib.zeros24 224)) w.heap.size 0 dk).drewN k) := by
   have h := run_convert_bytes_back (P := Tryz.prog) ((putRow (fun (b : UInt8) => Value.int .u8 (b.toNat : Int)) (w.alloc (.cells Lib.zeros24 224)) w.heap.size 0 dk).drewN k) 26 9 5 ⟨w.heap.size,0,none⟩ 24 (Lib.decDigits u) U26 UI5 US9 (fun j hj => by
    rw [Lib.row_is_numeral hF j hj,Lib.add_plain,World.cell?_drewN]
    exact cell?_putRow (fun (b : UInt8) => Value.int .u8 (b.toNat : Int)) _ w.heap.size 0 _ dk hH0 (by rw [hF.size,Array.size_replicate]) j (by rw [hF.size]; rw [Lib.decDigits_length] at hj; exact hj))
   rw [Lib.decDigits_length] at h
   exact h
  obtain ⟨os,eo⟩ := Lib.fin_at w (.cells Lib.zeros24 224) dk k 0
  rw [eo] at hcv ⊢
  refine mi G<|LN (l := Lib.nDigits u) Lp ZB5 G G (by omega) ?_
  refine BH (v := .string (decS u)) (w1 := grow (w.drewN k) os) ?_ ?_
  ·simp only [Ru,execOp]
   show (do let v ← convert 26 9 (Value.slice (some ⟨w.heap.size,0,none⟩) (Lib.nDigits u) 24); pure (Next.value v) : Sem Next).run Tryz.prog _ = _
   simp only [Sem.run_bind,hcv,Result.andThen_ok,Sem.run_pure]
  refine ast G<|rt1 rfl rfl ⟨rfl,rfl,rfl,rfl,?_,fun i hi => ?_⟩
  ·show w.heap.size ≤ (w.heap ++ os).size
   rw [Array.size_append]; omega
  ·show (w.heap ++ os)[i]? = w.heap[i]?
   rw [Array.getElem?_append_left hi]
theorem fmt142d (u : Nat) (w : World) (hu : u < 18446744073709551616) (hG : Glob w) :
  Calls Tryz.prog 142 #[.int .u64 (u : Nat),.int .i64 (10 : Nat)] w fun e w' => e = .returned (.string (decS u)) ∧ Below w.heap.size w w' := by
 refine enter 8 Tryz.func142 G G _ (by simp) ?_
 refine ast G<|mi G<|mi G<|cl L6 [] G ((fmt166d u w hu hG).mono ?_)
 rintro e w1 ⟨rfl,hb1⟩
 refine ⟨_,rfl,?_⟩
 refine ast G<|?_
 exact rt1 rfl rfl ⟨rfl,hb1⟩
section
variable {n : Nat} {P : Program} {ops : Array Oper} {rest : List Oper} {Q : Bd n} {W : World} {f : Fm n} {d ty t t' : Nat} {x y : Operand} {pos : String} {aft : Array Edge} {k : IntKind}
theorem oadn_ {a b : Nat} (hx : ex f x = .int k (a : Nat)) (hy : ex f y = .int k (b : Nat)) (h : a + b < 2 ^ (k.bits - 1)) : Pv P (.binOp .add t x y t') ty f (.int k ((a + b : Nat) : Int)) := fun W => by
 have hw := Cl k (a + b) h
 refine Eb G ?_
 rw [hx,hy]
 have e1 : binOp .add t (.int k (a : Nat)) (.int k (b : Nat)) = Op.intArith .add k (a : Nat) (b : Nat) := by unfold binOp; simp
 rw [e1]
 show Result.ok (Value.int k (k.wrap ((a : Int) + (b : Int)))) W = _
 rw [show (a : Int) + (b : Int) = ((a + b : Nat) : Int) by omega,hw]
theorem K6 {a b : Nat} (hx : ex f x = .int k (a : Nat)) (hy : ex f y = .int k (b : Nat)) (h : a + b < 2 ^ (k.bits - 1)) (r : RL P ops Q rest (up f d (.int k ((a + b : Nat) : Int))) W) : LS P ops Q ⟨some d,.binOp .add t x y t',ty,pos,aft,none⟩ rest f W := Bq (oadn_ hx hy h) r
theorem omln_ {a b : Nat} (hx : ex f x = .int k (a : Nat)) (hy : ex f y = .int k (b : Nat)) (h : a * b < 2 ^ (k.bits - 1)) : Pv P (.binOp .mul t x y t') ty f (.int k ((a * b : Nat) : Int)) := fun W => by
 have hw := Cl k (a * b) h
 refine Eb G ?_
 rw [hx,hy]
 have e1 : binOp .mul t (.int k (a : Nat)) (.int k (b : Nat)) = Op.intArith .mul k (a : Nat) (b : Nat) := by unfold binOp; simp
 rw [e1]
 show Result.ok (Value.int k (k.wrap ((a : Int) * (b : Int)))) W = _
 rw [show (a : Int) * (b : Int) = ((a * b : Nat) : Int) by push_cast; rfl,hw]
theorem omln {a b : Nat} (hx : ex f x = .int k (a : Nat)) (hy : ex f y = .int k (b : Nat)) (h : a * b < 2 ^ (k.bits - 1)) (r : RL P ops Q rest (up f d (.int k ((a * b : Nat) : Int))) W) : LS P ops Q ⟨some d,.binOp .mul t x y t',ty,pos,aft,none⟩ rest f W := Bq (omln_ hx hy h) r
end
abbrev Hd (a : Nat) (b : UInt8) : Nat := 10 * a + (b.toNat - 48)
theorem JT : ∀ (l : List UInt8) (a : Nat),a ≤ l.foldl Hd a
 | [],a => Nat.le_refl a
 | b :: l,a => Nat.le_trans (by unfold Hd; omega) (JT l (Hd a b))
theorem decF_take (l : List UInt8) (k : Nat) : (l.take k).foldl Hd 0 ≤ l.foldl Hd 0 := by
 conv => rhs; rw [← List.take_append_drop k l,List.foldl_append]
 exact JT _ _
theorem parse164 (u : Nat) (hu : u ≤ 1000000000) (w : World) :
  Calls Tryz.prog 164 #[.string (decS u),.int .i64 (10 : Nat),.int .i64 (31 : Nat)] w fun e w' => e = .returned (.tuple #[.int .u64 (u : Nat),.nilIface]) ∧ Below w.heap.size w w' := by
 have hdl := H6 hu
 have hds := HF u
 have hval : (Lib.decDigits u).foldl Hd 0 = u := Ez u
 have hb63 : 20000000000 < 2 ^ (IntKind.bits .u64 - 1) := by decide
 refine enter 172 Tryz.func164 G G _ (by simp) ?_
 refine ai G<|av G<|mt G<|LM G G<|isf (fun e => ?_) ?_
 ·have h1 := congrArg ByteArray.size e
  rw [hds] at h1
  exact JS u (List.length_eq_zero_iff.1 h1)
 refine cdf G<|mi G<|oeq G G<|isf (by decide)<|ab G<|mt G<|ast G<|mi G<|ole G G<|ist (by omega)<|mb G<|gon G<|mi G<|gon G<|ole G G<|ist (by omega)<|ptb G G<|ab G<|?_
 refine cdt G<|mi G<|oeq G G<|isf (by omega)<|?_
 refine cdf G<|mi G<|olt G G<|isf (by omega)<|mb G<|gon G<|mi G<|gon G<|ogt G G<|isf (by omega)<|pfb G G<|?_
 refine cdf G<|ai G<|mi G<|oeq G G<|ist (by decide)<|ab G<|cdt G<|ai G<|mi G<|CU (a := 31) UI3 IZ G (by decide)<|I8 (a := 1) (b := 31) G G (by decide) (by decide)<|Kf (a := 1 * 2 ^ 31) (b := 1) G G (by decide) (by decide)<|ai G<|ab G<|ai G<|mt G<|?_
 have hcv := Lib.run_convert_string_bytes (P := Tryz.prog) w 9 26 5 (decS u) US9 U26 UI5
 refine BH (v := .slice (some ⟨w.heap.size,0,none⟩) (decS u).size (grownCap w (decS u).size 0 5)) (w1 := Lib.bytesWorld w 5 (decS u)) ?_ ?_
 ·simp only [Ru,execOp]
  show (do let v ← convert 9 26 (Value.string (decS u)); pure (Next.value v) : Sem Next).run Tryz.prog w = _
  simp only [Sem.run_bind,hcv,Result.andThen_ok,Sem.run_pure]
 have hB : Below w.heap.size w (Lib.bytesWorld w 5 (decS u)) := FZ (Below.refl _ _) (Nat.le_refl _) 5 _
 have hcell : ∀ j,j < (decS u).size → (Lib.bytesWorld w 5 (decS u)).cell? ⟨w.heap.size,j,none⟩ = some (.int .u8 ((Lib.decDigits u).getD j 0).toNat) := fun j hj => by
  rw [Lib.bytesWorld_cell w 5 (decS u) j hj,EB]
 generalize grownCap w (decS u).size 0 5 = cp
 generalize Lib.bytesWorld w 5 (decS u) = W1 at hB hcell
 refine oln U26 G<|mi G<|lp (σ := Nat) (fun k => [(1,.int .i64 (10 : Nat)),(8,.bool false),(10,.int .u64 1844674407370955162),(11,.int .u64 ((1 * 2 ^ 31 - 1 : Nat) : Int)),(12,.bool false),(13,.int .u64 (((Lib.decDigits u).take k).foldl Hd 0 : Nat)),(99,.slice (some ⟨w.heap.size,0,none⟩) (decS u).size cp),(100,.int .i64 (decS u).size),(101,.int .i64 (k : Nat))])
  (fun k V => k ≤ (Lib.decDigits u).length ∧ V = W1) (fun k => (Lib.decDigits u).length - k) 0 ⟨rfl,rfl,rfl,rfl,rfl,rfl,rfl,rfl,rfl,rfl⟩ ⟨Nat.zero_le _,rfl⟩ ?_
 rintro k f V ⟨hk,rfl⟩
 refine olt G G<|cdd G (fun hlt => ?_) (fun hge => ?_)
 ·have hkl : k < (Lib.decDigits u).length := by omega
  have hks : k < (decS u).size := by omega
  obtain ⟨b,hb⟩ : ∃ b,(Lib.decDigits u)[k]? = some b := ⟨_,gE hkl⟩
  have hbd := FG u b (List.mem_of_getElem? hb)
  have htk : (Lib.decDigits u).take (k + 1) = (Lib.decDigits u).take k ++ [b] := by rw [List.take_succ_eq_append_getElem hkl]; rw [gE hkl] at hb; injection hb with e; rw [e]
  have hacc : ((Lib.decDigits u).take (k + 1)).foldl Hd 0 = 10 * ((Lib.decDigits u).take k).foldl Hd 0 + (b.toNat - 48) := by rw [htk,List.foldl_append]; rfl
  have hle := decF_take (Lib.decDigits u) (k + 1)
  rw [hval,hacc] at hle
  have hc := hcell k hks
  rw [gD,hb] at hc
  have hc : V.cell? ((⟨w.heap.size,0,none⟩ : Addr).add (k * 1)) = some (.int .u8 (b.toNat : Nat)) := by rw [Nat.mul_one,add_plain]; exact hc
  generalize hA : ((Lib.decDigits u).take k).foldl Hd 0 = acc at hacc hle ⊢
  generalize hx : b.toNat = x at hbd hacc hle hc
  refine AD U26 Z5 G G (by first | assumption | omega)<|old G5 G ‹_›<|ai G<|?_
  refine ai G<|mi G<|oeq G G<|isf (by omega)<|mb G<|gof G<|pfb G G<|ab G<|?_
  refine cdf G<|mi G<|ole G G<|ist (by omega)<|mb G<|gon G<|mi G<|gon G<|ole G G<|ist (by omega)<|ptb G G<|ab G<|?_
  refine cdt G<|mi G<|Kf (a := x) (b := 48) G G hbd.1 (by show x < 128; omega) ?_
  refine ai G<|mi G<|mi G<|CU (a := 10) UI3 UI5 G (by decide)<|oge G G<|isf (by omega) ?_
  refine cdf G<|mi G<|mi G<|oge G G<|isf (by omega)<|?_
  refine cdf G<|mi G<|mi G<|CU (a := 10) UI3 KU G (by decide)<|omln (a := acc) (b := 10) G G (by omega) ?_
  refine ai G<|mi G<|mi G<|CU (a := x - 48) UI5 KU G (by omega) ?_
  refine K6 (a := acc * 10) (b := x - 48) G G (by omega) ?_
  refine ai G<|mi G<|mi G<|olt G G<|isf (by omega)<|mb G<|gon G<|mi G<|gon G<|mi G<|gon G<|ogt G G<|isf (by omega)<|pfb G G<|?_
  refine cdf G<|mi G<|ai G<|oad G G (by first | assumption | omega)<|mi G<|?_
  refine ⟨k + 1,⟨rfl,rfl,rfl,rfl,rfl,?_,rfl,rfl,rfl,rfl⟩,⟨hkl,rfl⟩,by omega⟩
  exact congrArg (fun s : Nat => Value.int .u64 (s : Int)) (by rw [hacc]; omega)
 ·have hkn : k = (Lib.decDigits u).length := by omega
  subst hkn
  rw [List.take_length,hval]
  refine mb G<|mb G<|gof G<|gof G<|gof G<|pfb G G<|cdf G<|mi G<|ai G<|av G<|?_
  exact rt2 rfl rfl rfl ⟨rfl,hB⟩
theorem parse141 (u : Nat) (hu : u ≤ 1000000000) (w : World) :
  Calls Tryz.prog 141 #[.string (decS u),.int .i64 (10 : Nat),.int .i64 (31 : Nat)] w fun e w' => e = .returned (.tuple #[.int .u64 (u : Nat),.nilIface]) ∧ Below w.heap.size w w' := by
 refine enter 26 Tryz.func141 G G _ (by simp) ?_
 refine ai G<|av G<|mt G<|mi G<|mi G<|cl C164 [] G ((parse164 u hu w).mono ?_)
 rintro e w1 ⟨rfl,hb1⟩
 refine ⟨_,rfl,?_⟩
 refine mv G<|oex G G<|oex G G<|ai G<|av (v := .nilIface) G<|mv (v := .nilIface) G<|pl (.bool false) (fun _ => by kernel_rfl)<|cdf G<|mi G<|ai G<|av G<|?_
 exact rt2 rfl rfl rfl ⟨rfl,hb1⟩
theorem check94 (u : Nat) (hu : u ≤ 1000000000) (w : World) (hG : Glob w) :
  Calls Tryz.prog 94 #[.string (decS u)] w fun e w' => e = .returned (.bool true) ∧ Below w.heap.size w w' := by
 refine enter 18 Tryz.func94 G G _ (by simp) ?_
 refine ab G<|mt G<|cl C141 [] G ((parse141 u hu w).mono ?_)
 rintro e w1 ⟨rfl,hb1⟩
 refine ⟨_,rfl,?_⟩
 refine mv G<|oex G G<|oex G G<|ai G<|av (v := .nilIface) G<|mv (v := .nilIface) G<|pl (.bool true) (fun _ => by kernel_rfl)<|mb G<|gon G<|mi G<|gon G<|cl Mb [] G ((fmt142d u w1 (by omega) (hG.below hb1)).mono ?_)
 rintro e w2 ⟨rfl,hb2⟩
 refine ⟨_,rfl,?_⟩
 refine gon G<|mt G<|gon G<|LM G G<|ist G<|ptb G G<|ab G<|?_
 exact rt1 rfl rfl ⟨rfl,Ad hb1 hb2⟩
theorem c93 (u : Nat) (hu : u ≤ 1000000000) (w : World) (hG : Glob w) :
  Calls Tryz.prog 93 #[.string (decS u)] w fun e w' => e = .returned (.bool false) ∧ Below w.heap.size w w' := by
 refine enter 6 Tryz.func93 G G _ (by simp) ?_
 refine ab G<|mt G<|cl C94 [] G ((check94 u hu w hG).mono ?_)
 rintro e w1 ⟨rfl,hb1⟩
 refine ⟨_,rfl,?_⟩
 refine ont G<|ab G<|?_
 exact rt1 rfl rfl ⟨rfl,hb1⟩
theorem atoi143 (u : Nat) (hu : u ≤ 1000000000) (w : World) :
  Calls Tryz.prog 143 #[.string (decS u)] w fun e w' => e = .returned (.tuple #[.int .i64 (u : Nat),.nilIface]) ∧ Below w.heap.size w w' := by
 refine (Tryz.strconv_Atoi (decS u) (u : Nat) (by rw [HF]; have := H6 hu; omega) (by rw [EB]; exact atoi_dec u) w).mono ?_
 rintro e w' ⟨rfl,t,rfl⟩
 exact ⟨rfl,FZ (Below.refl _ _) (Nat.le_refl _) 5 t⟩
end
section
open Go
theorem GH : ∀ w : List UInt8,(∀ b ∈ w,b ≠ 32) → Lib.index w [32] = -1
 | [],_ => rfl
 | b :: w,h => by
  have hb := h b (List.mem_cons_self ..)
  unfold Lib.index
  have : ([32] : List UInt8).isPrefixOf (b :: w) = false := by simp [List.isPrefixOf,Ne.symm hb]
  rw [this,GH w (fun x hx => h x (List.mem_cons_of_mem _ hx))]
  rfl
theorem Fz : ∀ (w r : List UInt8),(∀ b ∈ w,b ≠ 32) → Lib.index (w ++ 32 :: r) [32] = (w.length : Int)
 | [],r,_ => by unfold Lib.index; simp [List.isPrefixOf]
 | b :: w,r,h => by
  have hb := h b (List.mem_cons_self ..)
  have ih := Fz w r (fun x hx => h x (List.mem_cons_of_mem _ hx))
  show Lib.index (b :: (w ++ 32 :: r)) [32] = _
  unfold Lib.index
  have : ([32] : List UInt8).isPrefixOf (b :: (w ++ 32 :: r)) = false := by simp [List.isPrefixOf,Ne.symm hb]
  rw [this,ih]
  have h2 : ((w.length : Int) == -1) = false := by
   cases e : ((w.length : Int) == -1) with
   | false => rfl
   | true => have := beq_iff_eq.1 e; omega
  rw [h2]
  simp
theorem GE (x y : List UInt8) (r : List (List UInt8)) : Lib.join (x :: y :: r) [32] = x ++ 32 :: Lib.join (y :: r) [32] := by
 rw [Lib.join_cons,Lib.join_cons]
 simp [Lib.joinTail]
def Kk (ws : List (List UInt8)) : Prop := ∀ w ∈ ws,∀ b ∈ w,b ≠ 32
theorem GT : ∀ (ws : List (List UInt8)) (x : List UInt8) (fuel : Nat),Kk (x :: ws) → (Lib.join (x :: ws) [32]).length < fuel → Lib.countFrom [32] fuel (Lib.join (x :: ws) [32]) = ws.length
 | [],x,0,_,h => by omega
 | [],x,fuel + 1,hn,h => by
  unfold Lib.countFrom
  rw [Lib.join_one,GH x (hn x (List.mem_cons_self ..))]
  rfl
 | y :: ws,x,0,_,h => by omega
 | y :: ws,x,fuel + 1,hn,h => by
  have hx := hn x (List.mem_cons_self ..)
  rw [GE] at h ⊢
  unfold Lib.countFrom
  rw [Fz x _ hx]
  have h2 : ((x.length : Int) == -1) = false := by
   cases e : ((x.length : Int) == -1) with
   | false => rfl
   | true => have := beq_iff_eq.1 e; omega
  rw [h2]
  have hd : (x ++ 32 :: Lib.join (y :: ws) [32]).drop ((x.length : Int).toNat + ([32] : List UInt8).length) = Lib.join (y :: ws) [32] := by
   rw [Int.toNat_natCast]
   show (x ++ 32 :: Lib.join (y :: ws) [32]).drop (x.length + 1) = _
   rw [List.drop_append]
   simp
  rw [hd,GT ws y fuel (fun w hw => hn w (List.mem_cons_of_mem _ hw)) (by simp at h; omega)]
  simp
  omega
theorem Gl : ∀ (ws : List (List UInt8)) (x : List UInt8),Kk (x :: ws) → Lib.splitK [32] 0 ws.length (Lib.join (x :: ws) [32]) = x :: ws
 | [],x,_ => by rw [Lib.join_one]; rfl
 | y :: ws,x,hn => by
  have hx := hn x (List.mem_cons_self ..)
  rw [GE]
  show Lib.splitK [32] 0 (ws.length + 1) _ = _
  unfold Lib.splitK
  rw [Fz x _ hx]
  have h2 : ((x.length : Int) == -1) = false := by
   cases e : ((x.length : Int) == -1) with
   | false => rfl
   | true => have := beq_iff_eq.1 e; omega
  rw [h2]
  have hd : (x ++ 32 :: Lib.join (y :: ws) [32]).drop ((x.length : Int).toNat + ([32] : List UInt8).length) = Lib.join (y :: ws) [32] := by
   rw [Int.toNat_natCast]
   show (x ++ 32 :: Lib.join (y :: ws) [32]).drop (x.length + 1) = _
   rw [List.drop_append]
   simp
  rw [hd,Gl ws y (fun w hw => hn w (List.mem_cons_of_mem _ hw))]
  simp
end
section
open Go Fm Go.RowKit Go.Proofs.YtmjllchdhcdinaaGreatDoorW.PrintWords
abbrev Kstr : Kd ByteArray := Kd.scalar (fun s : ByteArray => Value.string s) (fun _ => rfl)
abbrev spc : ByteArray := { data := #[32] }
def Co (ws : List ByteArray) : ByteArray := ⟨(Lib.join (ws.map (·.data.toList)) [32]).toArray⟩
theorem map_data_inj {a b : List ByteArray} (h : a.map (·.data.toList) = b.map (·.data.toList)) : a = b := by
 induction a generalizing b with
 | nil => cases b with
  | nil => rfl
  | cons y b => cases h
 | cons x a ih => cases b with
  | nil => cases h
  | cons y b =>
   simp only [List.map_cons,List.cons.injEq] at h
   rw [ih h.2,ByteArray.ext (Array.toList_inj.1 h.1)]
theorem split_text (x : ByteArray) (ws : List ByteArray) (hn : Kk ((x :: ws).map (·.data.toList))) : Lib.countB (Co (x :: ws)) spc = ws.length ∧ Lib.splitB spc 0 ws.length (Co (x :: ws)) = x :: ws := by
 have hd : (Co (x :: ws)).data.toList = Lib.join (x.data.toList :: ws.map (·.data.toList)) [32] := by simp [Co]
 constructor
 ·show Lib.countFrom [32] _ (Co (x :: ws)).data.toList = _
  rw [hd,GT _ _ _ hn (Nat.lt_succ_self _),List.length_map]
 ·refine map_data_inj ?_
  rw [Lib.splitB_data,hd]
  have := Gl (ws.map fun s : ByteArray => s.data.toList) x.data.toList hn
  rw [List.length_map] at this
  exact this
theorem split88 (x : ByteArray) (ws : List ByteArray) (hn : Kk ((x :: ws).map (·.data.toList))) (hs : (Co (x :: ws)).size ≤ 1000000) (w : World) (hG : Glob w) :
  Calls Tryz.prog 88 #[.string (Co (x :: ws)),.string spc] w fun e w' => e = .returned (.slice (some ⟨w.heap.size,0,none⟩) (ws.length + 1) (ws.length + 1)) ∧ w' = w.alloc (.cells ((x :: ws).map Value.string).toArray 9) := by
 obtain ⟨m,hm⟩ := hG.max
 obtain ⟨h1,h2⟩ := split_text x ws hn
 refine (Tryz.strings_Split (Co (x :: ws)) spc m w (by omega) hm (by decide)).mono ?_
 rintro e w' ⟨rfl,rfl⟩
 rw [h1,h2]
 exact ⟨rfl,rfl⟩
theorem Jc (A : Option Addr) (c base : Nat) (ws : List ByteArray) (w : World) (hR : Kstr.R 9 w base (fun _ => True) (.slice A ws.length c) ws) (h0 : 0 < ws.length) (hN : ws.length ≤ 1000000) (hs : (Co ws).size ≤ 1000000) :
  Calls Tryz.prog 87 #[.slice A ws.length c,.string spc] w fun e w' => e = .returned (.string (Co ws)) ∧ Below w.heap.size w w' := by
 obtain ⟨g,cap,hv,hbg,hgl,_⟩ := Kd.R_form hR h0
 injection hv with h1 h2 h3
 subst h1
 obtain ⟨_,hcap,hC⟩ := Kd.R_reads' hR
 have hsz : (Co ws).size = (Lib.join (ws.map (·.data.toList)) [32]).length := by simp [Co,ByteArray.size]
 refine (Tryz.strings_Join g 0 c ws spc w (fun j x hj => ?_) hgl (by omega) hcap (by show (Lib.join (ws.map (·.data.toList)) [32]).length ≤ _; omega)).mono ?_
 ·obtain ⟨ad,had,hc⟩ := Au hC hj
  cases had
  rw [Nat.mul_one,add_plain] at hc
  rw [Nat.zero_add]; exact hc
 ·rintro e w' ⟨rfl,hb⟩
  exact ⟨rfl,hb⟩
theorem dec_noSp (ns : List Nat) : Kk ((ns.map decS).map (·.data.toList)) := by
 intro w hw b hb
 obtain ⟨s,hs,rfl⟩ := List.mem_map.1 hw
 obtain ⟨n,_,rfl⟩ := List.mem_map.1 hs
 rw [EB] at hb
 have := FG n b hb
 rintro rfl
 exact absurd this.1 (by decide)
theorem IG : ∀ (ws : List (List UInt8)) (k : Nat),(∀ w ∈ ws,w.length ≤ k) → (Lib.join ws [32]).length ≤ (k + 1) * ws.length
 | [],k,_ => by simp [Lib.join_nil]
 | [x],k,h => by
  rw [Lib.join_one]
  have := h x (List.mem_cons_self ..)
  simp; omega
 | x :: y :: ws,k,h => by
  rw [GE,List.length_append,List.length_cons]
  have h1 := h x (List.mem_cons_self ..)
  have h2 := IG (y :: ws) k (fun w hw => h w (List.mem_cons_of_mem _ hw))
  rw [List.length_cons (a := x),Nat.mul_add,Nat.mul_one]
  omega
theorem Ep {x : ByteArray} {ns : List Nat} (hx : x.size ≤ 11) (hn : ∀ n ∈ ns,n ≤ 1000000000) (hl : ns.length ≤ 50000) : (Co (x :: ns.map decS)).size ≤ 1000000 := by
 have hsz : (Co (x :: ns.map decS)).size = (Lib.join ((x :: ns.map decS).map (·.data.toList)) [32]).length := by simp [Co,ByteArray.size]
 have := IG ((x :: ns.map decS).map (·.data.toList)) 11 (fun w hw => by
  rw [List.map_cons] at hw
  rcases List.mem_cons.1 hw with rfl | hw
  ·exact hx
  ·obtain ⟨s,hs,rfl⟩ := List.mem_map.1 hw
   obtain ⟨n,hn',rfl⟩ := List.mem_map.1 hs
   rw [EB]
   have := H6 (hn n hn')
   omega)
 rw [List.length_map,List.length_cons,List.length_map] at this
 omega
theorem index140 (A : Option Addr) (c : Nat) (ns : List Nat) (w : World) (hC : Kstr.C w A ns.length (ns.map decS)) (hn : ∀ n ∈ ns,n ≤ 1000000000) (hG : Glob w) :
  Calls Tryz.prog 140 #[.slice A ns.length c,.func (.func 93) #[] #[]] w fun e w' => e = .returned (.int .i64 (-1)) ∧ Below w.heap.size w w' := by
 have hmax := Kd.C_max hC
 refine enter 19 Tryz.func140 G G _ (by simp) ?_
 refine ai G<|ms G<|oln I0 G<|mi G<|lp (σ := Nat) (fun k => [(0,.slice A ns.length c),(1,.func (.func 93) #[] #[]),(7,.int .i64 ns.length),(8,.int .i64 (k : Nat))])
  (fun k V => k ≤ ns.length ∧ Below w.heap.size w V) (fun k => ns.length - k) 0 ⟨rfl,rfl,rfl,rfl,rfl⟩ ⟨Nat.zero_le _,Below.refl _ _⟩ ?_
 rintro k f V ⟨hk,hB⟩
 refine olt G G<|cdd G (fun hlt => ?_) (fun hge => ?_)
 ·have hkl : k < ns.length := Int.ofNat_lt.1 hlt
  obtain ⟨m,hm⟩ : ∃ m,ns[k]? = some m := ⟨_,gE hkl⟩
  obtain ⟨ad,rfl,hcell⟩ := Au hC (x := decS m) (k := k) (by rw [List.getElem?_map,hm]; rfl)
  have hcell := Ae hB hcell
  refine mi G<|ai G<|mf G<|ms G<|mi G<|AD I0 Z9 G G (by first | assumption | omega)<|old G9 G ‹_›<|?_
  refine cl C93 [] G ((c93 m (hn m (List.mem_of_getElem? hm)) V (hG.below hB)).mono ?_)
  rintro e V1 ⟨rfl,hb1⟩
  refine ⟨_,rfl,?_⟩
  refine cdf G<|oad G G (by first | assumption | omega)<|mi G<|?_
  exact ⟨k + 1,⟨rfl,rfl,rfl,rfl,rfl⟩,⟨hkl,Ad hB hb1⟩,by omega⟩
 ·refine ai G<|?_
  exact rt1 rfl rfl ⟨rfl,hB⟩
theorem contains92 (A : Option Addr) (c : Nat) (ns : List Nat) (w : World) (hC : Kstr.C w A ns.length (ns.map decS)) (hn : ∀ n ∈ ns,n ≤ 1000000000) (hG : Glob w) :
  Calls Tryz.prog 92 #[.slice A ns.length c,.func (.func 93) #[] #[]] w fun e w' => e = .returned (.bool false) ∧ Below w.heap.size w w' := by
 refine enter 9 Tryz.func92 G G _ (by simp) ?_
 refine ab G<|ms G<|mf G<|cl C140 [] G ((index140 A c ns w hC hn hG).mono ?_)
 rintro e w1 ⟨rfl,hb1⟩
 refine ⟨_,rfl,?_⟩
 refine oge G G<|isf (by omega)<|ab G<|?_
 exact rt1 rfl rfl ⟨rfl,hb1⟩
structure Rd (base r : Nat) (ns : List Nat) (W : World) : Prop where
 at_ : ∃ A c,W.heap[r]? = some (.cells [.slice A ns.length c,.int .i64 0,.int .i64 0].toArray 177 (0,0)) ∧ Kstr.Q 9 W base (fun _ => True) (.slice A ns.length c) (ns.map decS)
 hr : base ≤ r
 ok : ∀ n ∈ ns,n ≤ 1000000000
section
variable {base r : Nat} {ns : List Nat} {W W1 : World}
theorem Rd.below (h : Rd base r ns W) (hb : Below W.heap.size W W1) : Rd base r ns W1 := by
 obtain ⟨A,c,h1,h2⟩ := h.at_
 exact ⟨⟨A,c,Ab h1 hb,Kd.Q_below h2 hb⟩,h.hr,h.ok⟩
theorem Rd.typed {j t : Nat} {cs : Array Value} (h : Rd base r ns W) (hj : W.heap[j]? = some (.cells cs t (0,0))) (ht : 177 ≠ t) (ht9 : 9 ≠ t) (hg : W.grownBy W1 (some j)) : Rd base r ns W1 := by
 obtain ⟨A,c,h1,h2⟩ := h.at_
 refine ⟨⟨A,c,(hg.block r (Am h1) (fun e => An h1 hj ht (by injection e))).trans h1,Kd.Q_over' (v := .slice (some ⟨j,0,none⟩) 1 1) h2 (fun k hk => by injection hk with hk; subst hk; exact ⟨cs,hj⟩) ?_ hg⟩,h.hr,h.ok⟩
 intro q hq
 have : q = 9 := by simpa [Kstr,Kd.scalar] using hq
 rw [this]; exact ht9
theorem Rd.row {α : Type} {d : Kd α} {e b' : Nat} {ok : Nat → Prop} {v : Value} {xs : List α} (h : Rd base r ns W) (hr : d.R e W b' ok v xs) (ht : 177 ≠ e) (ht9 : 9 ≠ e) (hg : W.grownBy W1 v.ownBlock) : Rd base r ns W1 := by
 cases ho : v.ownBlock with
 | none => rw [ho] at hg; exact h.below ((Below.refl _ _).grown hg (Nat.le_refl _) (fun k e => by cases e))
 | some g =>
  obtain ⟨cells,hc⟩ := Kd.R_typed hr g ho
  rw [ho] at hg
  exact h.typed hc ht ht9 hg
theorem Rd.other {j t : Nat} {cs : Array Value} (h : Rd base r ns W) (hg : W.grownBy W1 (some r)) (hj : W.heap[j]? = some (.cells cs t (0,0))) (ht : t ≠ 177) : W1.heap[j]? = some (.cells cs t (0,0)) := by
 obtain ⟨A,c,h1,_⟩ := h.at_
 exact (hg.block j (Am hj) (fun e => An hj h1 ht (by injection e))).trans hj
theorem Rd.keep {α : Type} {d : Kd α} {e b' : Nat} {ok : Nat → Prop} {v : Value} {xs : List α} (h : Rd base r ns W) (hg : W.grownBy W1 (some r)) (hr : d.R e W b' ok v xs) (ht : ∀ q,q ∈ e :: d.E → q ≠ 177) : d.R e W1 b' ok v xs := by
 obtain ⟨A,c,h1,_⟩ := h.at_
 exact Ah hr h1 ht hg
end
theorem BL (base r n : Nat) (ns : List Nat) (w : World) (h : Rd base r (n :: ns) w) :
  Calls Tryz.prog 95 #[.pointer (some ⟨r,0,none⟩)] w fun e w' => e = .returned (.int .i64 (n : Nat)) ∧ Rd base r ns w' ∧ w.grownBy w' (some r) := by
 obtain ⟨A,c,hb,hQ⟩ := h.at_
 have hn := h.ok n (List.mem_cons_self ..)
 obtain ⟨ad,cells,rfl,hcl,hM,hcell⟩ := Jo hQ (j := 0) (x := decS n) rfl
 have hM : cells = [.string (decS n)] := hM
 subst hM
 have hcell : w.cell? (ad.add (0 * 1)) = some (.string (decS n)) := hcell 0 _ rfl
 have hc0 : w.cell? ⟨r,0 + 0,none⟩ = some (.slice (some ad) (ns.length + 1) c) := (Ac hb 0).trans rfl
 refine enter 38 Tryz.func95 G G _ (by simp) ?_
 refine ai G<|mp G<|onc G<|ofa FM G<|old KZ G ‹_›<|oln I0 G<|oeq G G<|isf (by omega)<|?_
 refine cdf G<|mp G<|onc G<|ofa FM G<|old KZ G ‹_›<|oix (i := 0) I0 Z9 G G (by omega) ?_
 refine old G9 G ‹_›<|cl C143 [] G ((atoi143 n hn w).mono ?_)
 rintro e w1 ⟨rfl,hb1⟩
 refine ⟨_,rfl,?_⟩
 have hbb := Ab hb hb1
 have hQ1 := Kd.Q_below hQ hb1
 have hc0 : w1.cell? ⟨r,0 + 0,none⟩ = some (.slice (some ad) (ns.length + 1) c) := Ae hb1 hc0
 refine mv G<|oex G G<|oex G G<|ai G<|av (v := .nilIface) G<|mp G<|mp G<|onc G<|ofa FM G<|old KZ G ‹_›<|?_
 have hdr := Kd.Q_drop hQ1 (k := 1) (by simp)
 refine osl (l := 1) I0 Z9 G G (by omega) ?_
 refine onc G<|ofa FM G<|Bc (v := .slice (if c = 1 then some ad else (some ad).map (·.add (1 * 1))) (ns.length + 1 - 1) (c - 1)) (cs := [.slice (some ad) (ns.length + 1) c,.int .i64 0,.int .i64 0]) (i := 0 + 0) S169 G G G hbb (by simp) ?_
 intro w2 hb2 hg2
 refine mi G<|ai G<|rt1 rfl rfl ⟨rfl,⟨⟨_,_,hb2,?_⟩,h.hr,fun m hm => h.ok m (List.mem_cons_of_mem _ hm)⟩,Cr (Ap hb1 _) hg2⟩
 have hdr : Kstr.Q 9 w1 base (fun _ => True) (.slice (if c = 1 then some ad else (some ad).map (·.add (1 * 1))) ns.length (c - 1)) (ns.map decS) := hdr
 refine Kd.Q_over' (v := .slice (some ⟨r,0,none⟩) 1 1) hdr (fun k hk => by injection hk with hk; subst hk; exact ⟨_,hbb⟩) ?_ hg2
 intro q hq
 have : q = 9 := by simpa [Kstr,Kd.scalar] using hq
 rw [this]; decide
theorem F5 (base r n : Nat) (ns : List Nat) (w : World) (h : Rd base r (n :: ns) w) (hn : n ≤ 6) :
  Calls Tryz.prog 127 #[.pointer (some ⟨r,0,none⟩)] w fun e w' => e = .returned (.int .i64 (n : Nat)) ∧ Rd base r ns w' ∧ w.grownBy w' (some r) := by
 refine enter 12 Tryz.func127 G G _ (by simp) ?_
 refine ai G<|mp G<|cl C95 [] G ((BL base r n ns w h).mono ?_)
 rintro e w1 ⟨rfl,h1,hg1⟩
 refine ⟨_,rfl,?_⟩
 refine ai G<|mi G<|ogt G G<|isf (by omega)<|?_
 refine cdf G<|mi G<|ai G<|?_
 exact rt1 rfl rfl ⟨rfl,h1,hg1⟩
theorem E1 (base r n l : Nat) (ns : List Nat) (w : World) (h : Rd base r (n :: ns) w) (hn : n ≤ l) (hn1 : n ≤ 100) :
  Calls Tryz.prog 131 #[.pointer (some ⟨r,0,none⟩),.int .i64 (l : Nat)] w fun e w' => e = .returned (.int .u8 (n : Nat)) ∧ Rd base r ns w' ∧ w.grownBy w' (some r) := by
 refine enter 18 Tryz.func131 G G _ (by simp) ?_
 refine ai G<|mp G<|cl C95 [] G ((BL base r n ns w h).mono ?_)
 rintro e w1 ⟨rfl,h1,hg1⟩
 refine ⟨_,rfl,?_⟩
 refine ai G<|mi G<|mi G<|ogt G G<|isf (by omega)<|?_
 refine cdf G<|mi G<|mi G<|omn G G<|?_
 rw [if_neg (by omega)]
 refine CU (a := n) UI3 UI5 G (by show n < 128; omega) ?_
 refine ai G<|?_
 exact rt1 rfl rfl ⟨rfl,h1,hg1⟩
theorem D1 (k kf r : Nat) (caps : List Value) (hC : Ag Tryz.prog kf) (Inv : Nat → World → Prop) (w : World) (h0 : Inv 0 w) (he : ∀ i W,Inv i W → W.cell? ⟨r,0 + 1,none⟩ = some (.int .i64 0))
  (hs : ∀ i W,i < k → Inv i W → Calls Tryz.prog kf caps.toArray W fun e W' => e = .returned (.tuple #[]) ∧ Inv (i + 1) W') (hk : k ≤ 1000000000) :
  Calls Tryz.prog 129 #[.pointer (some ⟨r,0,none⟩),.int .i64 (k : Nat),.func (.func kf) #[] caps.toArray] w fun e w' => e = .returned (.tuple #[]) ∧ Inv k w' := by
 refine enter 21 Tryz.func129 G G _ (by simp) ?_
 refine ai G<|lp (σ := Nat) (fun i => [(0,.pointer (some ⟨r,0,none⟩)),(1,.int .i64 (k : Nat)),(2,.func (.func kf) #[] caps.toArray),(6,.int .i64 (i : Nat))])
  (fun i V => i ≤ k ∧ Inv i V) (fun i => k - i) 0 ⟨rfl,rfl,rfl,rfl,rfl⟩ ⟨Nat.zero_le _,h0⟩ ?_
 rintro i f V ⟨hi,hI⟩
 have hc := he i V hI
 by_cases hlt : i < k
 ·refine mi G<|mi G<|olt G G<|ist (by omega)<|mb G<|gon G<|mp G<|gon G<|onc G<|gon G<|ofa Jj G<|gon G<|old G31 G ‹_›<|gon G<|oeq G G<|ist (by omega)<|ptb G G<|?_
  refine cdt G<|mf G<|cl hC caps G ((hs i V hlt hI).mono ?_)
  rintro e V1 ⟨rfl,hI1⟩
  refine ⟨_,rfl,?_⟩
  refine mi G<|oad G G (by first | assumption | omega)<|ai G<|?_
  exact ⟨i + 1,⟨rfl,rfl,rfl,rfl,rfl⟩,⟨hlt,hI1⟩,by omega⟩
 ·have hik : i = k := by omega
  subst hik
  refine mi G<|mi G<|olt G G<|isf (by omega)<|mb G<|gof G<|gof G<|gof G<|gof G<|gof G<|pfb G G<|?_
  refine cdf G ?_
  exact rt0 rfl ⟨rfl,hI⟩
section
variable {n : Nat} {P : Program} {f : Fm n} {W : World} {ty : TypeId} {fn : Func} {R : Ending → World → Prop}
theorem rtcs {p : Tmp} {a : Addr} {v : Value} (hr : fn.results = #[.cell p ty]) (hp : gt f p = .pointer (some a)) (hag : ∀ w,(isAgg ty).run P w = .ok false w) (hc : W.cell? a = some v)
  (h : R (.returned v) W) (hd : f.ds = [] := by rfl) : RT P fn R f W := rtv hd (v := v) (by
 have h1 := Iu (P := P) (hag W) hc
 have h3 : f.toL[p]?.getD undef = .pointer (some a) := by rw [← hp,B5,gD]
 simp [results,hr,h3,asAddr,h1]) h
end
structure Ls (base r g b : Nat) (W0 : World) (ns ls : List Nat) (W : World) : Prop where
 rd : Rd base r ns W
 gb : W0.grownBy W (some r)
 bb : W.heap[b]? = some (.cells [.pointer (some ⟨r,0,none⟩)].toArray 175 (0,0))
 row : ∃ A c,W.heap[g]? = some (.cells [.slice A ls.length c].toArray 22 (0,0)) ∧ (Kd.int .i64).R 3 W W0.heap.size (fun _ => True) (.slice A ls.length c) (Bt ls)
 hg : W0.heap.size ≤ g
theorem c163 (base r n g b : Nat) (W0 : World) (ns ls : List Nat) (w : World) (h : Ls base r g b W0 (n :: ns) ls w) (hl : ls.length ≤ 100000) :
  Calls Tryz.prog 163 #[.pointer (some ⟨g,0,none⟩),.pointer (some ⟨b,0,none⟩)] w fun e w' => e = .returned (.tuple #[]) ∧ Ls base r g b W0 ns (ls ++ [n]) w' := by
 obtain ⟨A,c,hgc,hR⟩ := h.row
 have hg0 := h.hg
 refine enter 7 Tryz.func163 G G _ (by simp) ?_
 refine Bv 5 mixed (fun V => V.heap[g]? = some (.cells [.slice A ls.length c].toArray 22 (0,0)) ∧ V.heap[b]? = some (.cells [.pointer (some ⟨r,0,none⟩)].toArray 175 (0,0))) ?_
 intro w1 hb1 _ _
 have hrd := h.rd.below hb1
 have hgb := h.gb.trans (Ap hb1 _)
 have hS := (⟨Ab hgc hb1,Ab h.bb hb1⟩ : w1.heap[g]? = some (.cells [.slice A ls.length c].toArray 22 (0,0)) ∧ w1.heap[b]? = some (.cells [.pointer (some ⟨r,0,none⟩)].toArray 175 (0,0)))
 have hR := Kd.R_below hR hb1
 clear hb1 hgc h
 refine Ay 0 G (by kernel_rfl) (fun _ _ _ h => h) G (fun v hv => Ai G22 G ((Ac hv.1 _).trans G)) hS<|Ay 1 G (by kernel_rfl) (fun _ _ _ h => h) G (fun v hv => Ai Cy G ((Ac hv.2 _).trans G)) hS<|Aq 2 (by kernel_rfl) G<|cl C95 [] G ((BL base r n ns w1 hrd).mono ?_)
 rintro e w2 ⟨rfl,hrd2,hg2⟩
 have hS2 := (⟨hrd.other hg2 hS.1 (by decide),hrd.other hg2 hS.2 (by decide)⟩ : w2.heap[g]? = some (.cells [.slice A ls.length c].toArray 22 (0,0)) ∧ w2.heap[b]? = some (.cells [.pointer (some ⟨r,0,none⟩)].toArray 175 (0,0)))
 have hR2 := hrd.keep hg2 hR (by decide)
 have hgb := hgb.trans hg2
 clear hg2 hrd hS hR
 refine ⟨_,rfl,fun _ => hS2,?_⟩
 refine Aq 3 (by kernel_rfl) G<|BH (AJ (u := .int .i64 (n : Nat)) U22 I3 G G) ⟨fun _ => ⟨Ab hS2.1 (AP (Below.refl _ _) _),Ab hS2.2 (AP (Below.refl _ _) _)⟩,?_⟩
 refine Aq 4 (by kernel_rfl) G<|Eg (bytes := 8) (Kd.int .i64) (m := ls.length) (c := c) (A := A) (p := (n : Int)) (okp := fun _ => False) U22 I3 G (by decide) (by decide) G G hR2 G (fun k hk => hk.elim) (fun _ _ => trivial) hgb.size (by rw [Bp]; omega) ?_
 intro A3 c3 w3 hR3 hg3
 rw [← Dg,Bp] at hR3
 rw [← Dg,Bp]
 have hgc3 := Br hS2.1 (Kd.R_typed hR2) hg3 (by decide)
 have hbb3 := Br hS2.2 (Kd.R_typed hR2) hg3 (by decide)
 have hrd3 := hrd2.row hR2 (by decide) (by decide) hg3
 have hgb := AF hgb hg3 (fun k hk => Kd.R_base hR2 k hk)
 clear hS2 hR2 hg3 hrd2
 refine ⟨fun _ => ⟨hgc3,hbb3⟩,?_⟩
 refine Aq 5 (by kernel_rfl) G<|Bc (v := .slice A3 (ls ++ [n]).length c3) (cs := [.slice A ls.length c]) (i := 0) S22 G G G hgc3 (by simp) ?_
 intro w4 hgc4 hg4
 refine ⟨fun h => absurd h (by decide),?_⟩
 refine Bw (by kernel_rfl)<|rt0 rfl ⟨rfl,hrd3.typed hgc3 (by decide) (by decide) hg4,AF hgb hg4 (fun k e => by cases e; exact hg0),(hg4.block b (Am hbb3) (fun e => An hbb3 hgc3 (by decide) (by injection e))).trans hbb3,⟨A3,c3,hgc4,Ah hR3 hgc3 (by decide) hg4⟩,hg0⟩
theorem F9 (base r : Nat) (ls ns : List Nat) (w : World) (h : Rd base r (ls ++ ns) w) (hl : ls.length ≤ 100000) :
  Calls Tryz.prog 128 #[.pointer (some ⟨r,0,none⟩),.int .i64 (ls.length : Nat)] w fun e w' => ∃ A c,e = .returned (.slice A ls.length c) ∧ (Kd.int .i64).R 3 w' w.heap.size (fun _ => True) (.slice A ls.length c) (Bt ls) ∧ Rd base r ns w' ∧ w.grownBy w' (some r) := by
 refine enter 10 Tryz.func128 G G _ (by simp) ?_
 refine obx (cs := [.pointer (some ⟨r,0,none⟩)]) G G ?_
 intro b w1 hbe hbb hb1
 refine oal (v := .slice none 0 0) (cs := [.slice none 0 0]) (fun _ => by kernel_rfl) G ?_
 intro g w2 hge hgb hb2
 have hB := Ad hb1 hb2
 have hz1 := hb1.size
 have h0 : Ls base r g b w (ls.drop 0 ++ ns) (ls.take 0) w2 := ⟨by simpa using h.below hB,Ap hB _,Ab hbb hb2,⟨none,0,hgb,Kd.R_nil _ _ _ _ _⟩,by omega⟩
 have hbc : w2.cell? ⟨b,0,none⟩ = some (.pointer (some ⟨r,0,none⟩)) := (Ac h0.bb 0).trans rfl
 refine old Cy G ‹_›<|mi G<|pl (.func (.func 163) #[] #[.pointer (some ⟨g,0,none⟩),.pointer (some ⟨b,0,none⟩)]) (fun _ => by kernel_rfl)<|cl Jq [] G ((D1 ls.length 163 r [.pointer (some ⟨g,0,none⟩),.pointer (some ⟨b,0,none⟩)] C163 (fun i W => i ≤ ls.length ∧ Ls base r g b w (ls.drop i ++ ns) (ls.take i) W) w2 ⟨Nat.zero_le _,h0⟩ ?_ ?_ (by omega)).mono ?_)
 ·rintro i W ⟨_,hI⟩
  obtain ⟨A,c,hh,_⟩ := hI.rd.at_
  exact (Ac hh 1).trans rfl
 ·rintro i W hi ⟨_,hI⟩
  have hd : ls.drop i ++ ns = ls[i] :: (ls.drop (i + 1) ++ ns) := by rw [List.drop_eq_getElem_cons hi]; rfl
  have ht : ls.take (i + 1) = ls.take i ++ [ls[i]] := List.take_succ_eq_append_getElem hi
  rw [hd] at hI
  refine (c163 base r ls[i] g b w (ls.drop (i + 1) ++ ns) (ls.take i) W hI (by rw [List.length_take]; omega)).mono ?_
  rintro e W' ⟨rfl,hI'⟩
  exact ⟨rfl,hi,by rw [ht]; exact hI'⟩
 ·rintro e w3 ⟨rfl,_,hI⟩
  refine ⟨_,rfl,?_⟩
  rw [List.drop_length,List.take_length,List.nil_append] at hI
  obtain ⟨A,c,hgc,hR⟩ := hI.row
  have hcg : w3.cell? ⟨g,0,none⟩ = some (.slice A ls.length c) := (Ac hgc 0).trans rfl
  refine old G22 G ‹_›<|Bc (v := .slice A ls.length c) (cs := [.slice A ls.length c]) (i := 0) S22 G G G hgc (by simp) ?_
  intro w4 hgc4 hg4
  have hcg4 : w4.cell? ⟨g,0,none⟩ = some (.slice A ls.length c) := (Ac hgc4 0).trans rfl
  exact rtcs rfl rfl G22 hcg4 ⟨A,c,rfl,Ah hR hgc (by decide) hg4,hI.rd.typed hgc (by decide) (by decide) hg4,AF hI.gb hg4 (fun k e => by cases e; exact hI.hg)⟩
def toN (l : List Int) : List Nat := l.map Int.toNat
theorem Be (l : List Int) : (toN l).length = l.length := by simp [toN]
theorem Cx {l : List Int} (h : ∀ x ∈ l,0 ≤ x) : Bt (toN l) = l := by
 unfold Bt toN
 rw [List.map_map]
 conv => rhs; rw [← List.map_id l]
 exact List.map_congr_left fun x hx => by have := h x hx; simp; omega
def Ed.nums (e : Ed) : List Nat := [e.src.toNat,e.dst.toNat,e.care.toNat,e.want.toNat]
def Na.nums (n : Na) : List Nat := [n.vars,n.states] ++ (n.start.length :: toN n.start) ++ (n.fin.length :: toN n.fin) ++ n.edges.length :: n.edges.flatMap Ed.nums
structure NB (base r g b : Nat) (W0 : World) (ns : List Nat) (n : Na) (W : World) : Prop where
 rd : Rd base r ns W
 gb : W0.grownBy W (some r)
 bb : W.heap[b]? = some (.cells [.pointer (some ⟨r,0,none⟩)].toArray 175 (0,0))
 at_ : ∃ SA FA EA cs cf ce,W.heap[g]? = some (.cells (n.vals SA FA EA cs cf ce).toArray 25 (0,0)) ∧ (Kd.int .i64).R 3 W W0.heap.size (fun _ => True) (.slice SA n.start.length cs) n.start ∧ (Kd.int .i64).R 3 W W0.heap.size (fun _ => True) (.slice FA n.fin.length cf) n.fin ∧ Ed.kd.R 71 W W0.heap.size (fun _ => True) (.slice EA n.edges.length ce) n.edges
 hg : W0.heap.size ≤ g
abbrev zed : List Value := [.int .i64 0,.int .i64 0,.int .u8 0,.int .u8 0]
theorem c130 (base r g b : Nat) (W0 : World) (ns : List Nat) (n : Na) (ed : Ed) (w : World) (h : NB base r g b W0 (ed.nums ++ ns) n w) (hs : 0 ≤ ed.src) (hd : 0 ≤ ed.dst) (hc : 0 ≤ ed.care ∧ ed.care ≤ 100) (hw : 0 ≤ ed.want ∧ ed.want ≤ 100) (hl : n.edges.length ≤ 100000) :
  Calls Tryz.prog 130 #[.pointer (some ⟨b,0,none⟩),.pointer (some ⟨g,0,none⟩)] w fun e w' => e = .returned (.tuple #[]) ∧ NB base r g b W0 ns { n with edges := n.edges ++ [ed] } w' := by
 obtain ⟨sn,hsn⟩ : ∃ k : Nat,ed.src = k := ⟨ed.src.toNat,by omega⟩
 obtain ⟨dn,hdn⟩ : ∃ k : Nat,ed.dst = k := ⟨ed.dst.toNat,by omega⟩
 obtain ⟨cn,hcn⟩ : ∃ k : Nat,ed.care = k := ⟨ed.care.toNat,by omega⟩
 obtain ⟨wn,hwn⟩ : ∃ k : Nat,ed.want = k := ⟨ed.want.toNat,by omega⟩
 have hnums : ed.nums ++ ns = sn :: dn :: cn :: wn :: ns := by unfold Ed.nums; rw [hsn,hdn,hcn,hwn]; rfl
 rw [hnums] at h
 obtain ⟨SA,FA,EA,cs,cf,ce,hgc,hst,hfi,hed⟩ := h.at_
 have hgW := h.hg
 have hgb := h.gb
 have hrd := h.rd
 have hbb := h.bb
 clear h hnums
 refine enter 20 Tryz.func130 G G _ (by simp) ?_
 refine cut (σ := Nat) (fun g2 => [(0,.pointer (some ⟨b,0,none⟩)),(1,.pointer (some ⟨g,0,none⟩)),(2,.pointer (some ⟨g2,0,none⟩))])
  (fun g2 W => Rd base r (cn :: wn :: ns) W ∧ W0.grownBy W (some r) ∧ W.heap[b]? = some (.cells [.pointer (some ⟨r,0,none⟩)].toArray 175 (0,0)) ∧ W.heap[g]? = some (.cells (n.vals SA FA EA cs cf ce).toArray 25 (0,0)) ∧ (Kd.int .i64).R 3 W W0.heap.size (fun _ => True) (.slice SA n.start.length cs) n.start ∧ (Kd.int .i64).R 3 W W0.heap.size (fun _ => True) (.slice FA n.fin.length cf) n.fin ∧ Ed.kd.R 71 W W0.heap.size (fun k => k ≠ g2) (.slice EA n.edges.length ce) n.edges ∧
   W.heap[g2]? = some (.cells [.int .i64 (sn : Nat),.int .i64 (dn : Nat),.int .u8 0,.int .u8 0].toArray 71 (0,0)) ∧ W0.heap.size ≤ g2) (by repeat' (first | exact BB | exact BD | exact Bl | refine Bi ?_ ?_ | refine Bk ?_ | refine Bj ?_ | refine AX _ ?_)) ?_ ?_
 ·refine Bv 6 mixed (fun V => V.heap[b]? = some (.cells [.pointer (some ⟨r,0,none⟩)].toArray 175 (0,0))) ?_
  intro w1 hb1 _ _
  have hrd := hrd.below hb1
  have hb := Ab hbb hb1
  have hgc := Ab hgc hb1
  have hst := Kd.R_below hst hb1
  have hfi := Kd.R_below hfi hb1
  have hed := Kd.R_below hed hb1
  have hgb := hgb.trans (Ap hb1 _)
  clear hb1 hbb
  have hS := hb
  refine Ay 0 G (by kernel_rfl) (fun _ _ _ h => h) G (fun v hv => Ai Cy G ((Ac hv _).trans G)) hS<|Ay 2 G (by kernel_rfl) (fun _ _ _ h => h) G (fun v hv => Ai Cy G ((Ac hv _).trans G)) hS<|DE 1 5 (by kernel_rfl) G G ?_ ?_
  ·have := True.intro
   refine cl C95 [] G ((BL base r sn (dn :: cn :: wn :: ns) _ hrd).mono ?_)
   rintro e V1 ⟨rfl,hrdN,hgN⟩
   have hb := hrd.other hgN hb (by decide)
   have hgc := hrd.other hgN hgc (by decide)
   have hst := hrd.keep hgN hst (by decide)
   have hfi := hrd.keep hgN hfi (by decide)
   have hed := hrd.keep hgN hed (by decide)
   have hgb := hgb.trans hgN
   have hrd := hrdN
   refine ⟨_,rfl,fun _ => hb,?_⟩
   refine DE 3 5 (by kernel_rfl) G G ?_ ?_
   ·have := True.intro
    refine cl C95 [] G ((BL base r dn (cn :: wn :: ns) _ hrd).mono ?_)
    rintro e V2 ⟨rfl,hrdN,hgN⟩
    have hb := hrd.other hgN hb (by decide)
    have hgc := hrd.other hgN hgc (by decide)
    have hst := hrd.keep hgN hst (by decide)
    have hfi := hrd.keep hgN hfi (by decide)
    have hed := hrd.keep hgN hed (by decide)
    have hgb := hgb.trans hgN
    have hrd := hrdN
    refine ⟨_,rfl,fun _ => hb,?_⟩
    refine Bf (v := .agg #[.int .i64 (sn : Nat),.int .i64 (dn : Nat),.int .u8 0,.int .u8 0]) 4 G (by kernel_rfl) (fun _ _ _ h => h) G (fun _ => by kernel_rfl) (fun _ => hb)<|Aq 5 (by kernel_rfl) G<|oal (v := .agg zed.toArray) (cs := zed) (fun _ => by kernel_rfl) G ?_
    intro g VA hge hgz hbA
    have hg0 := hgb.size
    have hrd := hrd.below hbA
    have hb := Ab hb hbA
    have hedN := Kd.R_bound hed
    have hgc := Ab hgc hbA
    have hst := Kd.R_below hst hbA
    have hfi := Kd.R_below hfi hbA
    have hed := Kd.R_below (Kd.R_mono hedN (ok' := fun k => k ≠ g) (fun k hk => by have := hk.2.2.1; omega)) hbA
    have hgb := hgb.trans (Ap hbA _)
    refine ⟨fun _ => hb,?_⟩
    refine Aq 6 (by kernel_rfl) G<|Bo (vs := [.int .i64 (sn : Nat),.int .i64 (dn : Nat),.int .u8 0,.int .u8 0]) (cs := zed) S71 rfl rfl rfl (by intro u hu; simp only [List.mem_cons,List.not_mem_nil,or_false] at hu; rcases hu with rfl | rfl | rfl | rfl <;> rfl) hgz (by simp) ?_
    intro VZ hgz2 hgZ
    refine ⟨fun h => absurd h (by decide),?_⟩
    refine Bw (by kernel_rfl) ?_
    have hgW2 : W0.heap.size ≤ g := by omega
    exact ⟨g,⟨rfl,rfl,rfl,rfl⟩,hrd.typed hgz (by decide) (by decide) hgZ,AF hgb hgZ (fun k e => by cases e; exact hgW2),(hgZ.block b (Am hb) (fun e => An hb hgz (by decide) (by injection e))).trans hb,(hgZ.block _ (Am hgc) (fun e => An hgc hgz (by decide) (by injection e))).trans hgc,Ah hst hgz (by decide) hgZ,Ah hfi hgz (by decide) hgZ,Kd.R_grown hed hgZ (fun k hk e => by injection e with e; exact hk e),hgz2,hgW2⟩
   ·have := True.intro
    refine oal (v := .agg zed.toArray) (cs := zed) (fun _ => by kernel_rfl) G ?_
    intro g VA hge hgz hbA
    have hg0 := hgb.size
    have hrd := hrd.below hbA
    have hb := Ab hb hbA
    have hedN := Kd.R_bound hed
    have hgc := Ab hgc hbA
    have hst := Kd.R_below hst hbA
    have hfi := Kd.R_below hfi hbA
    have hed := Kd.R_below (Kd.R_mono hedN (ok' := fun k => k ≠ g) (fun k hk => by have := hk.2.2.1; omega)) hbA
    have hgb := hgb.trans (Ap hbA _)
    refine ⟨fun _ => hb,?_⟩
    refine Aq 3 (by kernel_rfl) G<|cl C95 [] G ((BL base r dn (cn :: wn :: ns) _ hrd).mono ?_)
    rintro e V2 ⟨rfl,hrdN,hgN⟩
    have hb := hrd.other hgN hb (by decide)
    have hgz := hrd.other hgN hgz (by decide)
    have hgc := hrd.other hgN hgc (by decide)
    have hst := hrd.keep hgN hst (by decide)
    have hfi := hrd.keep hgN hfi (by decide)
    have hed := hrd.keep hgN hed (by decide)
    have hgb := hgb.trans hgN
    have hrd := hrdN
    refine ⟨_,rfl,fun _ => hb,?_⟩
    refine Bf (v := .agg #[.int .i64 (sn : Nat),.int .i64 (dn : Nat),.int .u8 0,.int .u8 0]) 4 G (by kernel_rfl) (fun _ _ _ h => h) G (fun _ => by kernel_rfl) (fun _ => hb)<|Aq 6 (by kernel_rfl) G<|Bo (vs := [.int .i64 (sn : Nat),.int .i64 (dn : Nat),.int .u8 0,.int .u8 0]) (cs := zed) S71 rfl rfl rfl (by intro u hu; simp only [List.mem_cons,List.not_mem_nil,or_false] at hu; rcases hu with rfl | rfl | rfl | rfl <;> rfl) hgz (by simp) ?_
    intro VZ hgz2 hgZ
    refine ⟨fun h => absurd h (by decide),?_⟩
    refine Bw (by kernel_rfl) ?_
    have hgW2 : W0.heap.size ≤ g := by omega
    exact ⟨g,⟨rfl,rfl,rfl,rfl⟩,hrd.typed hgz (by decide) (by decide) hgZ,AF hgb hgZ (fun k e => by cases e; exact hgW2),(hgZ.block b (Am hb) (fun e => An hb hgz (by decide) (by injection e))).trans hb,(hgZ.block _ (Am hgc) (fun e => An hgc hgz (by decide) (by injection e))).trans hgc,Ah hst hgz (by decide) hgZ,Ah hfi hgz (by decide) hgZ,Kd.R_grown hed hgZ (fun k hk e => by injection e with e; exact hk e),hgz2,hgW2⟩
  ·have := True.intro
   refine oal (v := .agg zed.toArray) (cs := zed) (fun _ => by kernel_rfl) G ?_
   intro g VA hge hgz hbA
   have hg0 := hgb.size
   have hrd := hrd.below hbA
   have hb := Ab hb hbA
   have hedN := Kd.R_bound hed
   have hgc := Ab hgc hbA
   have hst := Kd.R_below hst hbA
   have hfi := Kd.R_below hfi hbA
   have hed := Kd.R_below (Kd.R_mono hedN (ok' := fun k => k ≠ g) (fun k hk => by have := hk.2.2.1; omega)) hbA
   have hgb := hgb.trans (Ap hbA _)
   refine ⟨fun _ => hb,?_⟩
   refine Aq 1 (by kernel_rfl) G<|cl C95 [] G ((BL base r sn (dn :: cn :: wn :: ns) _ hrd).mono ?_)
   rintro e V1 ⟨rfl,hrdN,hgN⟩
   have hb := hrd.other hgN hb (by decide)
   have hgz := hrd.other hgN hgz (by decide)
   have hgc := hrd.other hgN hgc (by decide)
   have hst := hrd.keep hgN hst (by decide)
   have hfi := hrd.keep hgN hfi (by decide)
   have hed := hrd.keep hgN hed (by decide)
   have hgb := hgb.trans hgN
   have hrd := hrdN
   refine ⟨_,rfl,fun _ => hb,?_⟩
   refine Aq 3 (by kernel_rfl) G<|cl C95 [] G ((BL base r dn (cn :: wn :: ns) _ hrd).mono ?_)
   rintro e V2 ⟨rfl,hrdN,hgN⟩
   have hb := hrd.other hgN hb (by decide)
   have hgz := hrd.other hgN hgz (by decide)
   have hgc := hrd.other hgN hgc (by decide)
   have hst := hrd.keep hgN hst (by decide)
   have hfi := hrd.keep hgN hfi (by decide)
   have hed := hrd.keep hgN hed (by decide)
   have hgb := hgb.trans hgN
   have hrd := hrdN
   refine ⟨_,rfl,fun _ => hb,?_⟩
   refine Bf (v := .agg #[.int .i64 (sn : Nat),.int .i64 (dn : Nat),.int .u8 0,.int .u8 0]) 4 G (by kernel_rfl) (fun _ _ _ h => h) G (fun _ => by kernel_rfl) (fun _ => hb)<|Aq 6 (by kernel_rfl) G<|Bo (vs := [.int .i64 (sn : Nat),.int .i64 (dn : Nat),.int .u8 0,.int .u8 0]) (cs := zed) S71 rfl rfl rfl (by intro u hu; simp only [List.mem_cons,List.not_mem_nil,or_false] at hu; rcases hu with rfl | rfl | rfl | rfl <;> rfl) hgz (by simp) ?_
   intro VZ hgz2 hgZ
   refine ⟨fun h => absurd h (by decide),?_⟩
   refine Bw (by kernel_rfl) ?_
   have hgW2 : W0.heap.size ≤ g := by omega
   exact ⟨g,⟨rfl,rfl,rfl,rfl⟩,hrd.typed hgz (by decide) (by decide) hgZ,AF hgb hgZ (fun k e => by cases e; exact hgW2),(hgZ.block b (Am hb) (fun e => An hb hgz (by decide) (by injection e))).trans hb,(hgZ.block _ (Am hgc) (fun e => An hgc hgz (by decide) (by injection e))).trans hgc,Ah hst hgz (by decide) hgZ,Ah hfi hgz (by decide) hgZ,Kd.R_grown hed hgZ (fun k hk e => by injection e with e; exact hk e),hgz2,hgW2⟩
 ·rintro g2 f w1 ⟨hrd,hgb,hbb,hgc,hst,hfi,hed,hg2,hgW2⟩
  have hbc : w1.cell? ⟨b,0,none⟩ = some (.pointer (some ⟨r,0,none⟩)) := (Ac hbb 0).trans rfl
  refine old Cy G ‹_›<|cl Lb [] G ((E1 base r cn 255 (wn :: ns) w1 hrd (by omega) (by omega)).mono ?_)
  rintro e w2 ⟨rfl,hrdN,hgN⟩
  refine ⟨_,rfl,?_⟩
  have hbb := hrd.other hgN hbb (by decide)
  have hgc := hrd.other hgN hgc (by decide)
  have hg2 := hrd.other hgN hg2 (by decide)
  have hst := hrd.keep hgN hst (by decide)
  have hfi := hrd.keep hgN hfi (by decide)
  have hed := hrd.keep hgN hed (by decide)
  have hgb := hgb.trans hgN
  have hrd := hrdN
  clear hgN hrdN hbc
  refine ofa IX G<|Bc (v := .int .u8 (cn : Nat)) (cs := [.int .i64 (sn : Nat),.int .i64 (dn : Nat),.int .u8 0,.int .u8 0]) (i := 0 + 2) S5 G G G hg2 (by simp) ?_
  intro w3 hg23 hgS
  have hrd := hrd.typed hg2 (by decide) (by decide) hgS
  have hbb := (hgS.block b (Am hbb) (fun e => An hbb hg2 (by decide) (by injection e))).trans hbb
  have hgc := (hgS.block g (Am hgc) (fun e => An hgc hg2 (by decide) (by injection e))).trans hgc
  have hst := Ah hst hg2 (by decide) hgS
  have hfi := Ah hfi hg2 (by decide) hgS
  have hed := Kd.R_grown hed hgS (fun k hk e => by injection e with e; exact hk e)
  have hgb := AF hgb hgS (fun k e => by cases e; exact hgW2)
  have hg2 : w3.heap[g2]? = some (.cells [.int .i64 (sn : Nat),.int .i64 (dn : Nat),.int .u8 (cn : Nat),.int .u8 0].toArray 71 (0,0)) := hg23
  clear hgS hg23
  have hbc : w3.cell? ⟨b,0,none⟩ = some (.pointer (some ⟨r,0,none⟩)) := (Ac hbb 0).trans rfl
  refine old Cy G ‹_›<|cl Lb [] G ((E1 base r wn 255 ns w3 hrd (by omega) (by omega)).mono ?_)
  rintro e w4 ⟨rfl,hrdN,hgN⟩
  refine ⟨_,rfl,?_⟩
  have hbb := hrd.other hgN hbb (by decide)
  have hgc := hrd.other hgN hgc (by decide)
  have hg2 := hrd.other hgN hg2 (by decide)
  have hst := hrd.keep hgN hst (by decide)
  have hfi := hrd.keep hgN hfi (by decide)
  have hed := hrd.keep hgN hed (by decide)
  have hgb := hgb.trans hgN
  have hrd := hrdN
  clear hgN hrdN hbc
  refine ofa IW G<|Bc (v := .int .u8 (wn : Nat)) (cs := [.int .i64 (sn : Nat),.int .i64 (dn : Nat),.int .u8 (cn : Nat),.int .u8 0]) (i := 0 + 3) S5 G G G hg2 (by simp) ?_
  intro w5 hg23 hgS
  have hrd := hrd.typed hg2 (by decide) (by decide) hgS
  have hbb := (hgS.block b (Am hbb) (fun e => An hbb hg2 (by decide) (by injection e))).trans hbb
  have hgc := (hgS.block g (Am hgc) (fun e => An hgc hg2 (by decide) (by injection e))).trans hgc
  have hst := Ah hst hg2 (by decide) hgS
  have hfi := Ah hfi hg2 (by decide) hgS
  have hed := Kd.R_grown hed hgS (fun k hk e => by injection e with e; exact hk e)
  have hgb := AF hgb hgS (fun k e => by cases e; exact hgW2)
  have hg2 : w5.heap[g2]? = some (.cells ed.enc.toArray 71 (0,0)) := by unfold Ed.enc; rw [hsn,hdn,hcn,hwn]; exact hg23
  clear hgS hg23
  have hc4 : w5.cell? ⟨g,0 + 4,none⟩ = some (.slice EA n.edges.length ce) := (Ac hgc 4).trans rfl
  refine ofa Dz G<|old G23 G ‹_›<|AV (vs := ed.enc) G71 S71 G (Ak hg2)<|EJ (bytes := 24) Ed.kd (m := n.edges.length) (c := ce) (A := EA) (p := ed) (cs := ed.enc) (okp := fun _ => False) (ok := fun k => k ≠ g2) U23 I71 G (by decide) (by decide) G (by simp) G (Cj (us := [.agg ed.enc.toArray]) U23 I71 G (by decide) [.tmp 16] G G G (by simp [Value.cells,Ed.enc]) (by simp [Value.cells]) (by simp)) hed G (fun i hi => hi.elim) (fun k hk e => by have := Am hg2; omega) hgb.size (by omega) ?_
  intro A7 c7 w6 hed6 hg6
  have hrd6 := hrd.row hed (by decide) (by decide) hg6
  have hbb6 := Br hbb (Kd.R_typed hed) hg6 (by decide)
  have hgc6 := Br hgc (Kd.R_typed hed) hg6 (by decide)
  have hst6 := Kd.R_over' hst (Kd.R_typed hed) (by decide) hg6
  have hfi6 := Kd.R_over' hfi (Kd.R_typed hed) (by decide) hg6
  have hgb6 := AF hgb hg6 (fun k hk => Kd.R_base hed k hk)
  refine ofa Dz G<|Bc (v := .slice A7 (n.edges ++ [ed]).length c7) (cs := n.vals SA FA EA cs cf ce) (i := 0 + 4) S23 G G G hgc6 (by simp) ?_
  intro w7 hgc7 hg7
  refine rt0 rfl ⟨rfl,hrd6.typed hgc6 (by decide) (by decide) hg7,AF hgb6 hg7 (fun k e => by cases e; exact hgW),(hg7.block b (Am hbb6) (fun e => An hbb6 hgc6 (by decide) (by injection e))).trans hbb6,⟨SA,FA,A7,cs,cf,c7,hgc7,Ah hst6 hgc6 (by decide) hg7,Ah hfi6 hgc6 (by decide) hg7,Kd.R_mono (Ah hed6 hgc6 (by decide) hg7) (fun _ _ => trivial)⟩,hgW⟩
abbrev znv : List Value := [.int .i64 0,.int .i64 0,.slice none 0 0,.slice none 0 0,.slice none 0 0]
theorem NB.below {base r g b : Nat} {W0 W W1 : World} {ns : List Nat} {n : Na} (h : NB base r g b W0 ns n W) (hb : Below W.heap.size W W1) : NB base r g b W0 ns n W1 := by
 obtain ⟨SA,FA,EA,cs,cf,ce,h1,h2,h3,h4⟩ := h.at_
 exact ⟨h.rd.below hb,h.gb.trans (Ap hb _),Ab h.bb hb,⟨SA,FA,EA,cs,cf,ce,Ab h1 hb,Kd.R_below h2 hb,Kd.R_below h3 hb,Kd.R_below h4 hb⟩,h.hg⟩
theorem NB.go {base r g b : Nat} {W0 W W1 : World} {ns ms : List Nat} {n : Na} (h : NB base r g b W0 ns n W) (hr : Rd base r ms W1) (hg : W.grownBy W1 (some r)) : NB base r g b W0 ms n W1 := by
 obtain ⟨SA,FA,EA,cs,cf,ce,h1,h2,h3,h4⟩ := h.at_
 exact ⟨hr,h.gb.trans hg,h.rd.other hg h.bb (by decide),⟨SA,FA,EA,cs,cf,ce,h.rd.other hg h1 (by decide),h.rd.keep hg h2 (by decide),h.rd.keep hg h3 (by decide),h.rd.keep hg h4 (by decide)⟩,h.hg⟩
theorem nfa89 (base r : Nat) (ns : List Nat) (n : Na) (w : World) (h : Rd base r (n.nums ++ ns) w) (hv : n.vars ≤ 6) (hst : n.start.length ≤ 100000 ∧ ∀ x ∈ n.start,0 ≤ x) (hfi : n.fin.length ≤ 100000 ∧ ∀ x ∈ n.fin,0 ≤ x) (hel : n.edges.length ≤ 100000)
  (hed : ∀ ed ∈ n.edges,0 ≤ ed.src ∧ 0 ≤ ed.dst ∧ (0 ≤ ed.care ∧ ed.care ≤ 100) ∧ 0 ≤ ed.want ∧ ed.want ≤ 100) :
  Calls Tryz.prog 89 #[.pointer (some ⟨r,0,none⟩)] w fun e w' => ∃ g b,e = .returned (.func (.func 132) #[] #[.pointer (some ⟨g,0,none⟩)]) ∧ NB base r g b w ns n w' := by
 have hnums : n.nums ++ ns = n.vars :: n.states :: (n.start.length :: (toN n.start ++ (n.fin.length :: (toN n.fin ++ (n.edges.length :: (n.edges.flatMap Ed.nums ++ ns)))))) := by simp [Na.nums,List.append_assoc]
 rw [hnums] at h
 generalize hM : n.start.length :: (toN n.start ++ (n.fin.length :: (toN n.fin ++ (n.edges.length :: (n.edges.flatMap Ed.nums ++ ns))))) = M1 at h
 refine enter 25 Tryz.func89 G G _ (by simp) ?_
 refine obx (cs := [.pointer (some ⟨r,0,none⟩)]) G G ?_
 intro b w0 hbe hbb hb0
 have hrd := h.below hb0
 have hgb := Ap hb0 (some r)
 clear h hnums
 refine av G<|cut (σ := Nat) (fun g => [(1,.pointer (some ⟨b,0,none⟩)),(3,.pointer (some ⟨g,0,none⟩))])
  (fun g W => NB base r g b w M1 ⟨n.vars,n.states,[],[],[]⟩ W) (by repeat' (first | exact BB | exact BD | exact Bl | refine Bi ?_ ?_ | refine Bk ?_ | refine Bj ?_ | refine AX _ ?_)) ?_ ?_
 ·refine Bv 6 mixed (fun V => V.heap[b]? = some (.cells [.pointer (some ⟨r,0,none⟩)].toArray 175 (0,0))) ?_
  intro w1 hb1 _ _
  have hrd := hrd.below hb1
  have hb := Ab hbb hb1
  have hgb := hgb.trans (Ap hb1 _)
  clear hb1 hbb
  have hS := hb
  refine Ay 0 G (by kernel_rfl) (fun _ _ _ h => h) G (fun v hv => Ai Cy G ((Ac hv _).trans G)) hS<|Ay 2 G (by kernel_rfl) (fun _ _ _ h => h) G (fun v hv => Ai Cy G ((Ac hv _).trans G)) hS<|DE 1 5 (by kernel_rfl) G G ?_ ?_
  ·have := True.intro
   refine cl Ld [] G ((F5 base r n.vars (n.states :: M1) _ hrd hv).mono ?_)
   rintro e V1 ⟨rfl,hrdN,hgN⟩
   have hb := hrd.other hgN hb (by decide)
   have hgb := hgb.trans hgN
   have hrd := hrdN
   refine ⟨_,rfl,fun _ => hb,?_⟩
   refine DE 3 5 (by kernel_rfl) G G ?_ ?_
   ·have := True.intro
    refine cl C95 [] G ((BL base r n.states M1 _ hrd).mono ?_)
    rintro e V2 ⟨rfl,hrdN,hgN⟩
    have hb := hrd.other hgN hb (by decide)
    have hgb := hgb.trans hgN
    have hrd := hrdN
    refine ⟨_,rfl,fun _ => hb,?_⟩
    refine Bf (v := .agg #[.int .i64 (n.vars : Nat),.int .i64 (n.states : Nat),.slice none 0 0,.slice none 0 0,.slice none 0 0]) 4 G (by kernel_rfl) (fun _ _ _ h => h) G (fun _ => by kernel_rfl) (fun _ => hb)<|Aq 5 (by kernel_rfl) G<|oal (v := .agg znv.toArray) (cs := znv) (fun _ => by kernel_rfl) G ?_
    intro g VA hge hgz hbA
    have hg0 := hgb.size
    have hrd := hrd.below hbA
    have hb := Ab hb hbA
    have hgb := hgb.trans (Ap hbA _)
    refine ⟨fun _ => hb,?_⟩
    refine Aq 6 (by kernel_rfl) G<|Bo (vs := [.int .i64 (n.vars : Nat),.int .i64 (n.states : Nat),.slice none 0 0,.slice none 0 0,.slice none 0 0]) (cs := znv) S25 rfl rfl rfl (by intro u hu; simp only [List.mem_cons,List.not_mem_nil,or_false] at hu; rcases hu with rfl | rfl | rfl | rfl | rfl <;> rfl) hgz (by simp) ?_
    intro VZ hgz2 hgZ
    refine ⟨fun h => absurd h (by decide),?_⟩
    refine Bw (by kernel_rfl) ?_
    have hgW2 : w.heap.size ≤ g := by omega
    exact ⟨g,⟨rfl,rfl,rfl⟩,hrd.typed hgz (by decide) (by decide) hgZ,AF hgb hgZ (fun k e => by cases e; exact hgW2),(hgZ.block b (Am hb) (fun e => An hb hgz (by decide) (by injection e))).trans hb,⟨none,none,none,0,0,0,hgz2,Kd.R_nil _ _ _ _ _,Kd.R_nil _ _ _ _ _,Kd.R_nil _ _ _ _ _⟩,hgW2⟩
   ·have := True.intro
    refine oal (v := .agg znv.toArray) (cs := znv) (fun _ => by kernel_rfl) G ?_
    intro g VA hge hgz hbA
    have hg0 := hgb.size
    have hrd := hrd.below hbA
    have hb := Ab hb hbA
    have hgb := hgb.trans (Ap hbA _)
    refine ⟨fun _ => hb,?_⟩
    refine Aq 3 (by kernel_rfl) G<|cl C95 [] G ((BL base r n.states M1 _ hrd).mono ?_)
    rintro e V2 ⟨rfl,hrdN,hgN⟩
    have hb := hrd.other hgN hb (by decide)
    have hgz := hrd.other hgN hgz (by decide)
    have hgb := hgb.trans hgN
    have hrd := hrdN
    refine ⟨_,rfl,fun _ => hb,?_⟩
    refine Bf (v := .agg #[.int .i64 (n.vars : Nat),.int .i64 (n.states : Nat),.slice none 0 0,.slice none 0 0,.slice none 0 0]) 4 G (by kernel_rfl) (fun _ _ _ h => h) G (fun _ => by kernel_rfl) (fun _ => hb)<|Aq 6 (by kernel_rfl) G<|Bo (vs := [.int .i64 (n.vars : Nat),.int .i64 (n.states : Nat),.slice none 0 0,.slice none 0 0,.slice none 0 0]) (cs := znv) S25 rfl rfl rfl (by intro u hu; simp only [List.mem_cons,List.not_mem_nil,or_false] at hu; rcases hu with rfl | rfl | rfl | rfl | rfl <;> rfl) hgz (by simp) ?_
    intro VZ hgz2 hgZ
    refine ⟨fun h => absurd h (by decide),?_⟩
    refine Bw (by kernel_rfl) ?_
    have hgW2 : w.heap.size ≤ g := by omega
    exact ⟨g,⟨rfl,rfl,rfl⟩,hrd.typed hgz (by decide) (by decide) hgZ,AF hgb hgZ (fun k e => by cases e; exact hgW2),(hgZ.block b (Am hb) (fun e => An hb hgz (by decide) (by injection e))).trans hb,⟨none,none,none,0,0,0,hgz2,Kd.R_nil _ _ _ _ _,Kd.R_nil _ _ _ _ _,Kd.R_nil _ _ _ _ _⟩,hgW2⟩
  ·have := True.intro
   refine oal (v := .agg znv.toArray) (cs := znv) (fun _ => by kernel_rfl) G ?_
   intro g VA hge hgz hbA
   have hg0 := hgb.size
   have hrd := hrd.below hbA
   have hb := Ab hb hbA
   have hgb := hgb.trans (Ap hbA _)
   refine ⟨fun _ => hb,?_⟩
   refine Aq 1 (by kernel_rfl) G<|cl Ld [] G ((F5 base r n.vars (n.states :: M1) _ hrd hv).mono ?_)
   rintro e V1 ⟨rfl,hrdN,hgN⟩
   have hb := hrd.other hgN hb (by decide)
   have hgz := hrd.other hgN hgz (by decide)
   have hgb := hgb.trans hgN
   have hrd := hrdN
   refine ⟨_,rfl,fun _ => hb,?_⟩
   refine Aq 3 (by kernel_rfl) G<|cl C95 [] G ((BL base r n.states M1 _ hrd).mono ?_)
   rintro e V2 ⟨rfl,hrdN,hgN⟩
   have hb := hrd.other hgN hb (by decide)
   have hgz := hrd.other hgN hgz (by decide)
   have hgb := hgb.trans hgN
   have hrd := hrdN
   refine ⟨_,rfl,fun _ => hb,?_⟩
   refine Bf (v := .agg #[.int .i64 (n.vars : Nat),.int .i64 (n.states : Nat),.slice none 0 0,.slice none 0 0,.slice none 0 0]) 4 G (by kernel_rfl) (fun _ _ _ h => h) G (fun _ => by kernel_rfl) (fun _ => hb)<|Aq 6 (by kernel_rfl) G<|Bo (vs := [.int .i64 (n.vars : Nat),.int .i64 (n.states : Nat),.slice none 0 0,.slice none 0 0,.slice none 0 0]) (cs := znv) S25 rfl rfl rfl (by intro u hu; simp only [List.mem_cons,List.not_mem_nil,or_false] at hu; rcases hu with rfl | rfl | rfl | rfl | rfl <;> rfl) hgz (by simp) ?_
   intro VZ hgz2 hgZ
   refine ⟨fun h => absurd h (by decide),?_⟩
   refine Bw (by kernel_rfl) ?_
   have hgW2 : w.heap.size ≤ g := by omega
   exact ⟨g,⟨rfl,rfl,rfl⟩,hrd.typed hgz (by decide) (by decide) hgZ,AF hgb hgZ (fun k e => by cases e; exact hgW2),(hgZ.block b (Am hb) (fun e => An hb hgz (by decide) (by injection e))).trans hb,⟨none,none,none,0,0,0,hgz2,Kd.R_nil _ _ _ _ _,Kd.R_nil _ _ _ _ _,Kd.R_nil _ _ _ _ _⟩,hgW2⟩
 ·rintro g f w1 h
  have hbc : w1.cell? ⟨b,0,none⟩ = some (.pointer (some ⟨r,0,none⟩)) := (Ac h.bb 0).trans rfl
  subst hM
  refine cut (σ := Unit) (fun _ => [(1,.pointer (some ⟨b,0,none⟩)),(3,.pointer (some ⟨g,0,none⟩))])
   (fun _ W => NB base r g b w (n.fin.length :: (toN n.fin ++ (n.edges.length :: (n.edges.flatMap Ed.nums ++ ns)))) ⟨n.vars,n.states,n.start,[],[]⟩ W) (by repeat' (first | exact BB | exact BD | exact Bl | refine Bi ?_ ?_ | refine Bk ?_ | refine Bj ?_ | refine AX _ ?_)) ?_ ?_
  ·refine Bu mixed (fun V => V.heap[b]? = some (.cells [.pointer (some ⟨r,0,none⟩)].toArray 175 (0,0))) ?_
   intro w2 hb1 _ _
   have h := h.below hb1
   have hS := h.bb
   clear hb1 hbc
   refine Aj 0 G (by kernel_rfl) (fun _ _ _ h => h) G (fun v hv => Ai Cy G ((Ac hv _).trans G)) hS<|Aj 1 G (by kernel_rfl) (fun _ _ _ h => h) G (fun v hv => Ai Cy G ((Ac hv _).trans G)) hS<|AA 2 (by kernel_rfl) G<|cl C95 [] G ((BL base r _ _ w2 h.rd).mono ?_)
   rintro e w3 ⟨rfl,hrd3,hg3⟩
   have h := h.go hrd3 hg3
   refine ⟨_,rfl,h.bb,?_⟩
   refine AA 3 (by kernel_rfl) G ?_
   have hls := F9 base r (toN n.start) (n.fin.length :: (toN n.fin ++ (n.edges.length :: (n.edges.flatMap Ed.nums ++ ns)))) w3 h.rd (by rw [Be]; exact hst.1)
   rw [Be,Cx hst.2] at hls
   refine cl Lc [] G (hls.mono ?_)
   rintro e w4 ⟨A,c,rfl,hR,hrd4,hg4⟩
   have hz3 := h.gb.size
   have h := h.go hrd4 hg4
   have hR := Kd.R_lower hR hz3
   refine ⟨_,rfl,h.bb,?_⟩
   have hS := h.bb
   refine Aj 4 G (by kernel_rfl) (fun _ _ _ h => h) G (fun v _ => AQ EG G v) hS<|AA 5 (by kernel_rfl) G ?_
   obtain ⟨SA,FA,EA,cs,cf,ce,h1,h2,h3,h4⟩ := h.at_
   refine Bc (v := .slice A n.start.length c) (cs := (Na.vals ⟨n.vars,n.states,[],[],[]⟩ SA FA EA cs cf ce)) (i := 0 + 2) S22 G G G h1 (by simp) ?_
   intro w5 h15 hg5
   have hb5 := (hg5.block b (Am h.bb) (fun e => An h.bb h1 (by decide) (by injection e))).trans h.bb
   refine ⟨hb5,?_⟩
   refine AY (by kernel_rfl) ?_
   have hgW := h.hg
   exact ⟨(),⟨rfl,rfl,rfl⟩,h.rd.typed h1 (by decide) (by decide) hg5,AF h.gb hg5 (fun k e => by cases e; exact hgW),hb5,⟨A,FA,EA,c,cf,ce,h15,Ah hR h1 (by decide) hg5,Ah h3 h1 (by decide) hg5,Ah h4 h1 (by decide) hg5⟩,hgW⟩
  ·rintro _ f w1 h
   clear hbc
   refine cut (σ := Unit) (fun _ => [(1,.pointer (some ⟨b,0,none⟩)),(3,.pointer (some ⟨g,0,none⟩))])
    (fun _ W => NB base r g b w (n.edges.length :: (n.edges.flatMap Ed.nums ++ ns)) ⟨n.vars,n.states,n.start,n.fin,[]⟩ W) (by repeat' (first | exact BB | exact BD | exact Bl | refine Bi ?_ ?_ | refine Bk ?_ | refine Bj ?_ | refine AX _ ?_)) ?_ ?_
   ·refine Bu mixed (fun V => V.heap[b]? = some (.cells [.pointer (some ⟨r,0,none⟩)].toArray 175 (0,0))) ?_
    intro w2 hb1 _ _
    have h := h.below hb1
    have hS := h.bb
    clear hb1
    refine Aj 0 G (by kernel_rfl) (fun _ _ _ h => h) G (fun v hv => Ai Cy G ((Ac hv _).trans G)) hS<|Aj 1 G (by kernel_rfl) (fun _ _ _ h => h) G (fun v hv => Ai Cy G ((Ac hv _).trans G)) hS<|AA 2 (by kernel_rfl) G<|cl C95 [] G ((BL base r _ _ w2 h.rd).mono ?_)
    rintro e w3 ⟨rfl,hrd3,hg3⟩
    have h := h.go hrd3 hg3
    refine ⟨_,rfl,h.bb,?_⟩
    refine AA 3 (by kernel_rfl) G ?_
    have hls := F9 base r (toN n.fin) (n.edges.length :: (n.edges.flatMap Ed.nums ++ ns)) w3 h.rd (by rw [Be]; exact hfi.1)
    rw [Be,Cx hfi.2] at hls
    refine cl Lc [] G (hls.mono ?_)
    rintro e w4 ⟨A,c,rfl,hR,hrd4,hg4⟩
    have hz3 := h.gb.size
    have h := h.go hrd4 hg4
    have hR := Kd.R_lower hR hz3
    refine ⟨_,rfl,h.bb,?_⟩
    have hS := h.bb
    refine Aj 4 G (by kernel_rfl) (fun _ _ _ h => h) G (fun v _ => AQ Fl G v) hS<|AA 5 (by kernel_rfl) G ?_
    obtain ⟨SA,FA,EA,cs,cf,ce,h1,h2,h3,h4⟩ := h.at_
    refine Bc (v := .slice A n.fin.length c) (cs := (Na.vals ⟨n.vars,n.states,n.start,[],[]⟩ SA FA EA cs cf ce)) (i := 0 + 3) S22 G G G h1 (by simp) ?_
    intro w5 h15 hg5
    have hb5 := (hg5.block b (Am h.bb) (fun e => An h.bb h1 (by decide) (by injection e))).trans h.bb
    refine ⟨hb5,?_⟩
    refine AY (by kernel_rfl) ?_
    have hgW := h.hg
    exact ⟨(),⟨rfl,rfl,rfl⟩,h.rd.typed h1 (by decide) (by decide) hg5,AF h.gb hg5 (fun k e => by cases e; exact hgW),hb5,⟨SA,A,EA,cs,c,ce,h15,Ah h2 h1 (by decide) hg5,Ah hR h1 (by decide) hg5,Ah h4 h1 (by decide) hg5⟩,hgW⟩
   ·rintro _ f w1 h
    refine cut (σ := Unit) (fun _ => [(1,.pointer (some ⟨b,0,none⟩)),(3,.pointer (some ⟨g,0,none⟩))])
     (fun _ W => NB base r g b w ns n W) (by repeat' (first | exact BB | exact BD | exact Bl | refine Bi ?_ ?_ | refine Bk ?_ | refine Bj ?_ | refine AX _ ?_)) ?_ ?_
    ·refine Bu mixed (fun V => V.heap[b]? = some (.cells [.pointer (some ⟨r,0,none⟩)].toArray 175 (0,0))) ?_
     intro w2 hb1 _ _
     have h := h.below hb1
     have hS := h.bb
     clear hb1
     refine Aj 0 G (by kernel_rfl) (fun _ _ _ h => h) G (fun v hv => Ai Cy G ((Ac hv _).trans G)) hS<|Aj 1 G (by kernel_rfl) (fun _ _ _ h => h) G (fun v hv => Ai Cy G ((Ac hv _).trans G)) hS<|Aj (v := .func (.func 130) #[] #[.pointer (some ⟨b,0,none⟩),.pointer (some ⟨g,0,none⟩)]) 3 G (by kernel_rfl) (fun _ _ _ h => h) G (fun _ _ => by kernel_rfl) hS ?_
     refine AA 2 (by kernel_rfl) G<|cl C95 [] G ((BL base r _ _ w2 h.rd).mono ?_)
     rintro e w3 ⟨rfl,hrd3,hg3⟩
     have h := h.go hrd3 hg3
     refine ⟨_,rfl,h.bb,?_⟩
     refine AA 4 (by kernel_rfl) G<|cl Jq [] G ((D1 n.edges.length 130 r [.pointer (some ⟨b,0,none⟩),.pointer (some ⟨g,0,none⟩)] C130 (fun i W => i ≤ n.edges.length ∧ NB base r g b w ((n.edges.drop i).flatMap Ed.nums ++ ns) ⟨n.vars,n.states,n.start,n.fin,n.edges.take i⟩ W) w3 ⟨Nat.zero_le _,h⟩ ?_ ?_ (by omega)).mono ?_)
     ·rintro i W ⟨_,hI⟩
      obtain ⟨A,c,hh,_⟩ := hI.rd.at_
      exact (Ac hh 1).trans rfl
     ·rintro i W hi ⟨_,hI⟩
      have hd : (n.edges.drop i).flatMap Ed.nums ++ ns = n.edges[i].nums ++ ((n.edges.drop (i + 1)).flatMap Ed.nums ++ ns) := by rw [List.drop_eq_getElem_cons hi,List.flatMap_cons,List.append_assoc]
      have ht : n.edges.take (i + 1) = n.edges.take i ++ [n.edges[i]] := List.take_succ_eq_append_getElem hi
      rw [hd] at hI
      obtain ⟨a1,a2,a3,a4⟩ := hed n.edges[i] (List.getElem_mem hi)
      refine (c130 base r g b w _ _ n.edges[i] W hI a1 a2 a3 a4 (by show (n.edges.take i).length ≤ _; rw [List.length_take]; omega)).mono ?_
      rintro e W' ⟨rfl,hI'⟩
      exact ⟨rfl,hi,by rw [ht]; exact hI'⟩
     ·rintro e w4 ⟨rfl,_,hI⟩
      rw [List.drop_length,List.take_length] at hI
      refine ⟨_,rfl,hI.bb,?_⟩
      refine AY (by kernel_rfl) ?_
      exact ⟨(),⟨rfl,rfl,rfl⟩,hI⟩
    ·rintro _ f w1 h
     refine pl (.func (.func 132) #[] #[.pointer (some ⟨g,0,none⟩)]) (fun _ => by kernel_rfl)<|af G<|?_
     exact rt1 rfl rfl ⟨g,b,rfl,h⟩
theorem c132 (n : Na) (hn : n.Ok) (hn5 : n.states ≤ 5) (base r g b : Nat) (W0 : World) (ns : List Nat) (w : World) (h : NB base r g b W0 ns n w) :
  Calls Tryz.prog 132 #[.pointer (some ⟨g,0,none⟩)] w fun e w' => ∃ j p D,e = .returned (.tuple #[.pointer (some ⟨j,0,none⟩),.int .i64 0]) ∧ B8 j 117 p 0 w' ∧ w.heap.size ≤ j ∧ DS n w.heap.size p D [AR n.start] [] [] w' ∧ Below w.heap.size w w' := by
 obtain ⟨SA,FA,EA,cs,cf,ce,h1,h2,h3,h4⟩ := h.at_
 refine enter 7 Tryz.func132 G G _ (by simp) ?_
 refine ap G<|ai G<|AV (vs := n.vals SA FA EA cs cf ce) G25 S25 G (Ak h1)<|cl C24 [] G ((Ju n hn hn5 SA FA EA cs cf ce w ⟨(Kd.R_reads' h2).2.2,(Kd.R_reads' h3).2.2,(Kd.R_reads' h4).2.2⟩).mono ?_)
 rintro e w1 ⟨j,p,D,rfl,hj,hjw,hD,hb⟩
 refine ⟨_,rfl,?_⟩
 refine oex G G<|oex G G<|ap G<|ai G<|?_
 exact rt2 rfl rfl rfl ⟨j,p,D,rfl,hj,hjw,hD,hb⟩
def b2n (b : Bool) : Nat := if b then 1 else 0
def Df.nums (d : Df) : List Nat := [d.vars,d.start,d.next.length] ++ d.next.flatMap toN ++ d.fin.map b2n
structure DB (base r g b : Nat) (W0 : World) (ns : List Nat) (d : Df) (W : World) : Prop where
 rd : Rd base r ns W
 gb : W0.grownBy W (some r)
 bb : W.heap[b]? = some (.cells [.pointer (some ⟨r,0,none⟩)].toArray 175 (0,0))
 at_ : ∃ NA FA nc fc,W.heap[g]? = some (.cells (d.vals NA FA nc fc).toArray 35 (0,0)) ∧ Kii.R 22 W W0.heap.size (fun _ => True) (.slice NA d.next.length nc) d.next ∧ Kd.bool.R 4 W W0.heap.size (fun _ => True) (.slice FA d.fin.length fc) d.fin
 hg : W0.heap.size ≤ g
theorem DB.below {base r g b : Nat} {W0 W W1 : World} {ns : List Nat} {d : Df} (h : DB base r g b W0 ns d W) (hb : Below W.heap.size W W1) : DB base r g b W0 ns d W1 := by
 obtain ⟨NA,FA,nc,fc,h1,h2,h3⟩ := h.at_
 exact ⟨h.rd.below hb,h.gb.trans (Ap hb _),Ab h.bb hb,⟨NA,FA,nc,fc,Ab h1 hb,Kd.R_below h2 hb,Kd.R_below h3 hb⟩,h.hg⟩
section
variable {n : Nat} {P : Program} {f : Fm n} {ty : TypeId} {x y : Operand} {k : IntKind} {i j : Int} {ts : Array TypeId}
theorem omnl_ (hx : ex f x = .int k i) (hy : ex f y = .int k j) (h : i ≤ j) : Pv P (.call { callee := .builtin .min,args := #[x,y],argTypes := ts }) ty f (.int k i) := by
 have := LT (P := P) (ts := ts) (ty := ty) hx hy
 rw [if_neg (by omega)] at this
 exact this
theorem oshlr_ {t t' : TypeId} {yk : IntKind} {a b m : Nat} (hx : ex f x = .int k (a : Nat)) (hy : ex f y = .int yk (b : Nat)) (hb : b < k.bits) (h : a * 2 ^ b < 2 ^ (k.bits - 1)) (e : a * 2 ^ b = m) : Pv P (.binOp .shl t x y t') ty f (.int k (m : Nat)) := by
 have := JI (P := P) (t := t) (t' := t') (ty := ty) hx hy hb h
 rw [e] at this
 exact this
theorem oeqb_ {t t' : TypeId} {c : Bool} (hx : ex f x = .int k i) (hy : ex f y = .int k j) (e : decide (i = j) = c) : Pv P (.binOp .eql t x y t') ty f (.bool c) := by
 have := Ly (P := P) (t := t) (t' := t') (ty := ty) hx hy
 rw [e] at this
 exact this
end
theorem c133 (base r g b : Nat) (W0 : World) (ns : List Nat) (d : Df) (row : List Int) (w : World) (h : DB base r g b W0 (toN row ++ ns) d w) (hv : d.vars ≤ 6) (hr : row.length = 2 ^ d.vars) (hx : ∀ x ∈ row,0 ≤ x) (hl : d.next.length ≤ 100000) :
  Calls Tryz.prog 133 #[.pointer (some ⟨g,0,none⟩),.pointer (some ⟨b,0,none⟩)] w fun e w' => e = .returned (.tuple #[]) ∧ DB base r g b W0 ns { d with next := d.next ++ [row] } w' := by
 have h64 : 2 ^ d.vars ≤ 64 := Nat.pow_le_pow_right (n := 2) (by decide) hv
 have hsh : 1 * 2 ^ d.vars < 2 ^ (IntKind.bits .i64 - 1) := by rw [Nat.one_mul]; exact Nat.lt_of_le_of_lt h64 (by decide)
 obtain ⟨NA,FA,nc,fc,h1,h2,h3⟩ := h.at_
 have hgW := h.hg
 have hgb := h.gb
 have hrd := h.rd
 have hbb := h.bb
 clear h
 refine enter 13 Tryz.func133 G G _ (by simp) ?_
 refine Bv 11 mixed (fun V => V.heap[g]? = some (.cells (d.vals NA FA nc fc).toArray 35 (0,0)) ∧ V.heap[b]? = some (.cells [.pointer (some ⟨r,0,none⟩)].toArray 175 (0,0))) ?_
 intro w1 hb1 _ _
 have hrd := hrd.below hb1
 have hS := (⟨Ab h1 hb1,Ab hbb hb1⟩ : w1.heap[g]? = some (.cells (d.vals NA FA nc fc).toArray 35 (0,0)) ∧ w1.heap[b]? = some (.cells [.pointer (some ⟨r,0,none⟩)].toArray 175 (0,0)))
 have h2 := Kd.R_below h2 hb1
 have h3 := Kd.R_below h3 hb1
 have hgb := hgb.trans (Ap hb1 _)
 clear hb1 hbb h1
 refine Ay 0 G (by kernel_rfl) (fun _ _ _ h => h) G (fun v _ => AQ Bz G v) hS<|Ay 1 G (by kernel_rfl) (fun _ _ _ h => h) G (fun v hv => Ai G27 G ((Ac hv.1 _).trans G)) hS<|Ay 2 G (by kernel_rfl) (fun _ _ _ h => h) G (fun v hv => Ai Cy G ((Ac hv.2 _).trans G)) hS<|Ay 3 G (by kernel_rfl) (fun _ _ _ h => h) G (fun v _ => AQ CE G v) hS<|Ay 4 G (by kernel_rfl) (fun _ _ _ h => h) G (fun v hv => Ai G3 G ((Ac hv.1 _).trans G)) hS<|Bf (v := .int .i64 (d.vars : Nat)) 5 G (by kernel_rfl) (fun _ _ _ h => h) G (fun v => omnl_ G G (by omega) v) (fun _ => hS) ?_
 refine Bf (v := .int .i64 (row.length : Nat)) 6 G (by kernel_rfl) (fun _ _ _ h => h) G (fun v => oshlr_ (a := 1) (b := d.vars) G G (by show d.vars < 64; omega) hsh (by rw [Nat.one_mul,hr]) v) (fun _ => hS) ?_
 refine Aq 7 (by kernel_rfl) G ?_
 have hls := F9 base r (toN row) ns w1 hrd (by rw [Be]; omega)
 rw [Be,Cx hx] at hls
 refine cl Lc [] G (hls.mono ?_)
 rintro e w2 ⟨A,c,rfl,hR,hrdN,hgN⟩
 have hz := hgb.size
 have hR := Kd.R_lower hR hz
 have hS := (⟨hrd.other hgN hS.1 (by decide),hrd.other hgN hS.2 (by decide)⟩ : w2.heap[g]? = some (.cells (d.vals NA FA nc fc).toArray 35 (0,0)) ∧ w2.heap[b]? = some (.cells [.pointer (some ⟨r,0,none⟩)].toArray 175 (0,0)))
 have hlo : ∀ k,(Value.slice NA d.next.length nc).ownBlock = some k → k < w1.heap.size := fun k hk => by obtain ⟨_,hc⟩ := Kd.R_typed h2 k hk; exact Am hc
 have h2 := hrd.keep hgN h2 (by decide)
 have h3 := hrd.keep hgN h3 (by decide)
 have hgb := hgb.trans hgN
 have hrd := hrdN
 clear hgN hrdN
 refine ⟨_,rfl,fun _ => hS,?_⟩
 refine Aq 8 (by kernel_rfl) G<|BH (AJ (u := .slice A row.length c) U27 CY G G) ⟨fun _ => ⟨Ab hS.1 (AP (Below.refl _ _) _),Ab hS.2 (AP (Below.refl _ _) _)⟩,?_⟩
 refine Aq 9 (by kernel_rfl) G ?_
 have hR' := Kd.R_apart' (v := .slice NA d.next.length nc) hR (Kd.R_typed h2) (by decide)
 refine Eg (bytes := 24) Kii (m := d.next.length) (c := nc) (A := NA) (p := row) (okp := fun i => True ∧ some i ≠ (Value.slice NA d.next.length nc).ownBlock) U27 CY G (by decide) (by decide) G G h2 (Kd.M_row hR') (fun k hk => ⟨trivial,hk.2⟩) (fun _ _ => trivial) hgb.size (by omega) ?_
 intro A3 c3 w3 hR3 hg3
 have hgc3 := Br hS.1 (Kd.R_typed h2) hg3 (by decide)
 have hbb3 := Br hS.2 (Kd.R_typed h2) hg3 (by decide)
 have hrd3 := hrd.row h2 (by decide) (by decide) hg3
 have h33 := Kd.R_over' h3 (Kd.R_typed h2) (by decide) hg3
 have hgb3 := AF hgb hg3 (fun k hk => Kd.R_base h2 k hk)
 have hS3 := (⟨hgc3,hbb3⟩ : w3.heap[g]? = some (.cells (d.vals NA FA nc fc).toArray 35 (0,0)) ∧ w3.heap[b]? = some (.cells [.pointer (some ⟨r,0,none⟩)].toArray 175 (0,0)))
 refine ⟨fun _ => hS3,?_⟩
 refine Aq 10 (by kernel_rfl) G<|ofa Bz G ⟨fun _ => hS3,?_⟩
 refine Aq 11 (by kernel_rfl) G<|Bc (v := .slice A3 (d.next ++ [row]).length c3) (cs := d.vals NA FA nc fc) (i := 0 + 2) S27 G G G hgc3 (by simp) ?_
 intro w4 hgc4 hg4
 refine ⟨fun h => absurd h (by decide),?_⟩
 refine Bw (by kernel_rfl) ?_
 exact rt0 rfl ⟨rfl,hrd3.typed hgc3 (by decide) (by decide) hg4,AF hgb3 hg4 (fun k e => by cases e; exact hgW),(hg4.block b (Am hbb3) (fun e => An hbb3 hgc3 (by decide) (by injection e))).trans hbb3,⟨A3,FA,c3,fc,hgc4,Ah hR3 hgc3 (by decide) hg4,Ah h33 hgc3 (by decide) hg4⟩,hgW⟩
theorem c134 (base r g b : Nat) (W0 : World) (ns : List Nat) (d : Df) (fb : Bool) (w : World) (h : DB base r g b W0 (b2n fb :: ns) d w) (hl : d.fin.length ≤ 100000) :
  Calls Tryz.prog 134 #[.pointer (some ⟨g,0,none⟩),.pointer (some ⟨b,0,none⟩)] w fun e w' => e = .returned (.tuple #[]) ∧ DB base r g b W0 ns { d with fin := d.fin ++ [fb] } w' := by
 obtain ⟨NA,FA,nc,fc,h1,h2,h3⟩ := h.at_
 have hgW := h.hg
 have hgb := h.gb
 have hrd := h.rd
 have hbb := h.bb
 have hb1' : b2n fb ≤ 1 := by unfold b2n; split <;> omega
 clear h
 refine enter 10 Tryz.func134 G G _ (by simp) ?_
 refine Bv 8 mixed (fun V => V.heap[g]? = some (.cells (d.vals NA FA nc fc).toArray 35 (0,0)) ∧ V.heap[b]? = some (.cells [.pointer (some ⟨r,0,none⟩)].toArray 175 (0,0))) ?_
 intro w1 hb1 _ _
 have hrd := hrd.below hb1
 have hS := (⟨Ab h1 hb1,Ab hbb hb1⟩ : w1.heap[g]? = some (.cells (d.vals NA FA nc fc).toArray 35 (0,0)) ∧ w1.heap[b]? = some (.cells [.pointer (some ⟨r,0,none⟩)].toArray 175 (0,0)))
 have h2 := Kd.R_below h2 hb1
 have h3 := Kd.R_below h3 hb1
 have hgb := hgb.trans (Ap hb1 _)
 clear hb1 hbb h1
 refine Ay 0 G (by kernel_rfl) (fun _ _ _ h => h) G (fun v _ => AQ BP G v) hS<|Ay 1 G (by kernel_rfl) (fun _ _ _ h => h) G (fun v hv => Ai G33 G ((Ac hv.1 _).trans G)) hS<|Ay 2 G (by kernel_rfl) (fun _ _ _ h => h) G (fun v hv => Ai Cy G ((Ac hv.2 _).trans G)) hS<|Aq 3 (by kernel_rfl) G<|cl Lb [] G ((E1 base r (b2n fb) 1 ns w1 hrd hb1' (by omega)).mono ?_)
 rintro e w2 ⟨rfl,hrdN,hgN⟩
 have hS := (⟨hrd.other hgN hS.1 (by decide),hrd.other hgN hS.2 (by decide)⟩ : w2.heap[g]? = some (.cells (d.vals NA FA nc fc).toArray 35 (0,0)) ∧ w2.heap[b]? = some (.cells [.pointer (some ⟨r,0,none⟩)].toArray 175 (0,0)))
 have h2 := hrd.keep hgN h2 (by decide)
 have h3 := hrd.keep hgN h3 (by decide)
 have hgb := hgb.trans hgN
 have hrd := hrdN
 clear hgN hrdN
 refine ⟨_,rfl,fun _ => hS,?_⟩
 have hfe : decide (((b2n fb : Nat) : Int) = 1) = fb := by cases fb <;> rfl
 refine Bf (v := .bool fb) 4 G (by kernel_rfl) (fun _ _ _ h => h) G (fun v => oeqb_ G G hfe v) (fun _ => hS)<|Aq 5 (by kernel_rfl) G<|BH (AJ (u := .bool fb) U33 I4 G G) ⟨fun _ => ⟨Ab hS.1 (AP (Below.refl _ _) _),Ab hS.2 (AP (Below.refl _ _) _)⟩,?_⟩
 refine Aq 6 (by kernel_rfl) G<|Eg (bytes := 1) Kd.bool (m := d.fin.length) (c := fc) (A := FA) (p := fb) (okp := fun _ => False) U33 I4 G (by decide) (by decide) G G h3 G (fun k hk => hk.elim) (fun _ _ => trivial) hgb.size (by omega) ?_
 intro A3 c3 w3 hR3 hg3
 have hgc3 := Br hS.1 (Kd.R_typed h3) hg3 (by decide)
 have hbb3 := Br hS.2 (Kd.R_typed h3) hg3 (by decide)
 have hrd3 := hrd.row h3 (by decide) (by decide) hg3
 have h23 := Kd.R_over' h2 (Kd.R_typed h3) (by decide) hg3
 have hgb3 := AF hgb hg3 (fun k hk => Kd.R_base h3 k hk)
 have hS3 := (⟨hgc3,hbb3⟩ : w3.heap[g]? = some (.cells (d.vals NA FA nc fc).toArray 35 (0,0)) ∧ w3.heap[b]? = some (.cells [.pointer (some ⟨r,0,none⟩)].toArray 175 (0,0)))
 refine ⟨fun _ => hS3,?_⟩
 refine Aq 7 (by kernel_rfl) G<|ofa BP G ⟨fun _ => hS3,?_⟩
 refine Aq 8 (by kernel_rfl) G<|Bc (v := .slice A3 (d.fin ++ [fb]).length c3) (cs := d.vals NA FA nc fc) (i := 0 + 3) S33 G G G hgc3 (by simp) ?_
 intro w4 hgc4 hg4
 refine ⟨fun h => absurd h (by decide),?_⟩
 refine Bw (by kernel_rfl) ?_
 exact rt0 rfl ⟨rfl,hrd3.typed hgc3 (by decide) (by decide) hg4,AF hgb3 hg4 (fun k e => by cases e; exact hgW),(hg4.block b (Am hbb3) (fun e => An hbb3 hgc3 (by decide) (by injection e))).trans hbb3,⟨NA,A3,nc,c3,hgc4,Ah h23 hgc3 (by decide) hg4,Ah hR3 hgc3 (by decide) hg4⟩,hgW⟩
theorem dfa90 (base r : Nat) (ns : List Nat) (d : Df) (hd : d.Ok) (w : World) (h : Rd base r (d.nums ++ ns) w) :
  Calls Tryz.prog 90 #[.pointer (some ⟨r,0,none⟩)] w fun e w' => ∃ g b,e = .returned (.func (.func 135) #[] #[.pointer (some ⟨g,0,none⟩)]) ∧ DB base r g b w ns d w' := by
 have hv := hd.v
 have hn := hd.n
 have hff := hd.f
 have hnums : d.nums ++ ns = d.vars :: d.start :: (d.next.length :: (d.next.flatMap toN ++ (d.fin.map b2n ++ ns))) := by simp [Df.nums,List.append_assoc]
 rw [hnums] at h
 generalize hM : d.next.length :: (d.next.flatMap toN ++ (d.fin.map b2n ++ ns)) = M1 at h
 refine enter 21 Tryz.func90 G G _ (by simp) ?_
 refine obx (cs := [.pointer (some ⟨r,0,none⟩)]) G G ?_
 intro b w0 hbe hbb hb0
 have hrd := h.below hb0
 have hgb := Ap hb0 (some r)
 clear h hnums
 refine av G<|cut (σ := Nat) (fun g => [(1,.pointer (some ⟨b,0,none⟩)),(3,.pointer (some ⟨g,0,none⟩))])
  (fun g W => DB base r g b w M1 ⟨d.vars,d.start,[],[]⟩ W) (by repeat' (first | exact BB | exact BD | exact Bl | refine Bi ?_ ?_ | refine Bk ?_ | refine Bj ?_ | refine AX _ ?_)) ?_ ?_
 ·refine Bv 6 mixed (fun V => V.heap[b]? = some (.cells [.pointer (some ⟨r,0,none⟩)].toArray 175 (0,0))) ?_
  intro w1 hb1 _ _
  have hrd := hrd.below hb1
  have hb := Ab hbb hb1
  have hgb := hgb.trans (Ap hb1 _)
  clear hb1 hbb
  have hS := hb
  refine Ay 0 G (by kernel_rfl) (fun _ _ _ h => h) G (fun v hv => Ai Cy G ((Ac hv _).trans G)) hS<|Ay 2 G (by kernel_rfl) (fun _ _ _ h => h) G (fun v hv => Ai Cy G ((Ac hv _).trans G)) hS<|DE 1 5 (by kernel_rfl) G G ?_ ?_
  ·have := True.intro
   refine cl Ld [] G ((F5 base r d.vars (d.start :: M1) _ hrd hv).mono ?_)
   rintro e V1 ⟨rfl,hrdN,hgN⟩
   have hb := hrd.other hgN hb (by decide)
   have hgb := hgb.trans hgN
   have hrd := hrdN
   refine ⟨_,rfl,fun _ => hb,?_⟩
   refine DE 3 5 (by kernel_rfl) G G ?_ ?_
   ·have := True.intro
    refine cl C95 [] G ((BL base r d.start M1 _ hrd).mono ?_)
    rintro e V2 ⟨rfl,hrdN,hgN⟩
    have hb := hrd.other hgN hb (by decide)
    have hgb := hgb.trans hgN
    have hrd := hrdN
    refine ⟨_,rfl,fun _ => hb,?_⟩
    refine Bf (v := .agg #[.int .i64 (d.vars : Nat),.int .i64 (d.start : Nat),.slice none 0 0,.slice none 0 0]) 4 G (by kernel_rfl) (fun _ _ _ h => h) G (fun _ => by kernel_rfl) (fun _ => hb)<|Aq 5 (by kernel_rfl) G<|oal (v := .agg (dcs 0 0 none none 0 0 0 0).toArray) (cs := dcs 0 0 none none 0 0 0 0) (fun _ => by kernel_rfl) G ?_
    intro g VA hge hgz hbA
    have hg0 := hgb.size
    have hrd := hrd.below hbA
    have hb := Ab hb hbA
    have hgb := hgb.trans (Ap hbA _)
    refine ⟨fun _ => hb,?_⟩
    refine Aq 6 (by kernel_rfl) G<|Bo (vs := dcs d.vars d.start none none 0 0 0 0) (cs := dcs 0 0 none none 0 0 0 0) S35 rfl rfl rfl (by intro u hu; simp only [dcs,List.mem_cons,List.not_mem_nil,or_false] at hu; rcases hu with rfl | rfl | rfl | rfl <;> rfl) hgz (by simp) ?_
    intro VZ hgz2 hgZ
    refine ⟨fun h => absurd h (by decide),?_⟩
    refine Bw (by kernel_rfl) ?_
    have hgW2 : w.heap.size ≤ g := by omega
    exact ⟨g,⟨rfl,rfl,rfl⟩,hrd.typed hgz (by decide) (by decide) hgZ,AF hgb hgZ (fun k e => by cases e; exact hgW2),(hgZ.block b (Am hb) (fun e => An hb hgz (by decide) (by injection e))).trans hb,⟨none,none,0,0,hgz2,Kd.R_nil _ _ _ _ _,Kd.R_nil _ _ _ _ _⟩,hgW2⟩
   ·have := True.intro
    refine oal (v := .agg (dcs 0 0 none none 0 0 0 0).toArray) (cs := dcs 0 0 none none 0 0 0 0) (fun _ => by kernel_rfl) G ?_
    intro g VA hge hgz hbA
    have hg0 := hgb.size
    have hrd := hrd.below hbA
    have hb := Ab hb hbA
    have hgb := hgb.trans (Ap hbA _)
    refine ⟨fun _ => hb,?_⟩
    refine Aq 3 (by kernel_rfl) G<|cl C95 [] G ((BL base r d.start M1 _ hrd).mono ?_)
    rintro e V2 ⟨rfl,hrdN,hgN⟩
    have hb := hrd.other hgN hb (by decide)
    have hgz := hrd.other hgN hgz (by decide)
    have hgb := hgb.trans hgN
    have hrd := hrdN
    refine ⟨_,rfl,fun _ => hb,?_⟩
    refine Bf (v := .agg #[.int .i64 (d.vars : Nat),.int .i64 (d.start : Nat),.slice none 0 0,.slice none 0 0]) 4 G (by kernel_rfl) (fun _ _ _ h => h) G (fun _ => by kernel_rfl) (fun _ => hb)<|Aq 6 (by kernel_rfl) G<|Bo (vs := dcs d.vars d.start none none 0 0 0 0) (cs := dcs 0 0 none none 0 0 0 0) S35 rfl rfl rfl (by intro u hu; simp only [dcs,List.mem_cons,List.not_mem_nil,or_false] at hu; rcases hu with rfl | rfl | rfl | rfl <;> rfl) hgz (by simp) ?_
    intro VZ hgz2 hgZ
    refine ⟨fun h => absurd h (by decide),?_⟩
    refine Bw (by kernel_rfl) ?_
    have hgW2 : w.heap.size ≤ g := by omega
    exact ⟨g,⟨rfl,rfl,rfl⟩,hrd.typed hgz (by decide) (by decide) hgZ,AF hgb hgZ (fun k e => by cases e; exact hgW2),(hgZ.block b (Am hb) (fun e => An hb hgz (by decide) (by injection e))).trans hb,⟨none,none,0,0,hgz2,Kd.R_nil _ _ _ _ _,Kd.R_nil _ _ _ _ _⟩,hgW2⟩
  ·have := True.intro
   refine oal (v := .agg (dcs 0 0 none none 0 0 0 0).toArray) (cs := dcs 0 0 none none 0 0 0 0) (fun _ => by kernel_rfl) G ?_
   intro g VA hge hgz hbA
   have hg0 := hgb.size
   have hrd := hrd.below hbA
   have hb := Ab hb hbA
   have hgb := hgb.trans (Ap hbA _)
   refine ⟨fun _ => hb,?_⟩
   refine Aq 1 (by kernel_rfl) G<|cl Ld [] G ((F5 base r d.vars (d.start :: M1) _ hrd hv).mono ?_)
   rintro e V1 ⟨rfl,hrdN,hgN⟩
   have hb := hrd.other hgN hb (by decide)
   have hgz := hrd.other hgN hgz (by decide)
   have hgb := hgb.trans hgN
   have hrd := hrdN
   refine ⟨_,rfl,fun _ => hb,?_⟩
   refine Aq 3 (by kernel_rfl) G<|cl C95 [] G ((BL base r d.start M1 _ hrd).mono ?_)
   rintro e V2 ⟨rfl,hrdN,hgN⟩
   have hb := hrd.other hgN hb (by decide)
   have hgz := hrd.other hgN hgz (by decide)
   have hgb := hgb.trans hgN
   have hrd := hrdN
   refine ⟨_,rfl,fun _ => hb,?_⟩
   refine Bf (v := .agg #[.int .i64 (d.vars : Nat),.int .i64 (d.start : Nat),.slice none 0 0,.slice none 0 0]) 4 G (by kernel_rfl) (fun _ _ _ h => h) G (fun _ => by kernel_rfl) (fun _ => hb)<|Aq 6 (by kernel_rfl) G<|Bo (vs := dcs d.vars d.start none none 0 0 0 0) (cs := dcs 0 0 none none 0 0 0 0) S35 rfl rfl rfl (by intro u hu; simp only [dcs,List.mem_cons,List.not_mem_nil,or_false] at hu; rcases hu with rfl | rfl | rfl | rfl <;> rfl) hgz (by simp) ?_
   intro VZ hgz2 hgZ
   refine ⟨fun h => absurd h (by decide),?_⟩
   refine Bw (by kernel_rfl) ?_
   have hgW2 : w.heap.size ≤ g := by omega
   exact ⟨g,⟨rfl,rfl,rfl⟩,hrd.typed hgz (by decide) (by decide) hgZ,AF hgb hgZ (fun k e => by cases e; exact hgW2),(hgZ.block b (Am hb) (fun e => An hb hgz (by decide) (by injection e))).trans hb,⟨none,none,0,0,hgz2,Kd.R_nil _ _ _ _ _,Kd.R_nil _ _ _ _ _⟩,hgW2⟩
 ·rintro g f w1 h
  have hbc : w1.cell? ⟨b,0,none⟩ = some (.pointer (some ⟨r,0,none⟩)) := (Ac h.bb 0).trans rfl
  subst hM
  have hgo : ∀ {W W1 : World} {ns ms : List Nat} {n : Df},DB base r g b w ns n W → Rd base r ms W1 → W.grownBy W1 (some r) → DB base r g b w ms n W1 := fun h hr hg => by
   obtain ⟨NA,FA,nc,fc,h1,h2,h3⟩ := h.at_
   exact ⟨hr,h.gb.trans hg,h.rd.other hg h.bb (by decide),⟨NA,FA,nc,fc,h.rd.other hg h1 (by decide),h.rd.keep hg h2 (by decide),h.rd.keep hg h3 (by decide)⟩,h.hg⟩
  refine old Cy G ‹_›<|cl C95 [] G ((BL base r _ _ w1 h.rd).mono ?_)
  rintro e w2 ⟨rfl,hrd2,hg2⟩
  have h := hgo h hrd2 hg2
  refine ⟨_,rfl,?_⟩
  refine ai G<|?_
  have hbc : w2.cell? ⟨b,0,none⟩ = some (.pointer (some ⟨r,0,none⟩)) := (Ac h.bb 0).trans rfl
  refine old Cy G ‹_›<|mi G<|pl (.func (.func 133) #[] #[.pointer (some ⟨g,0,none⟩),.pointer (some ⟨b,0,none⟩)]) (fun _ => by kernel_rfl)<|cl Jq [] G ((D1 d.next.length 133 r [.pointer (some ⟨g,0,none⟩),.pointer (some ⟨b,0,none⟩)] C133 (fun i W => i ≤ d.next.length ∧ DB base r g b w ((d.next.drop i).flatMap toN ++ (d.fin.map b2n ++ ns)) ⟨d.vars,d.start,d.next.take i,[]⟩ W) w2 ⟨Nat.zero_le _,h⟩ ?_ ?_ (by omega)).mono ?_)
  ·rintro i W ⟨_,hI⟩
   obtain ⟨A,c,hh,_⟩ := hI.rd.at_
   exact (Ac hh 1).trans rfl
  ·rintro i W hi ⟨_,hI⟩
   have hdr : (d.next.drop i).flatMap toN ++ (d.fin.map b2n ++ ns) = toN d.next[i] ++ ((d.next.drop (i + 1)).flatMap toN ++ (d.fin.map b2n ++ ns)) := by rw [List.drop_eq_getElem_cons hi,List.flatMap_cons,List.append_assoc]
   have ht : d.next.take (i + 1) = d.next.take i ++ [d.next[i]] := List.take_succ_eq_append_getElem hi
   rw [hdr] at hI
   obtain ⟨a1,a2⟩ := hd.rows d.next[i] (List.getElem_mem hi)
   refine (c133 base r g b w _ _ d.next[i] W hI hv a1 (fun x hx => (a2 x hx).1) (by show (d.next.take i).length ≤ _; rw [List.length_take]; omega)).mono ?_
   rintro e W' ⟨rfl,hI'⟩
   exact ⟨rfl,hi,by rw [ht]; exact hI'⟩
  ·rintro e w3 ⟨rfl,_,hI⟩
   rw [List.drop_length,List.take_length,List.flatMap_nil,List.nil_append] at hI
   refine ⟨_,rfl,?_⟩
   have hbc : w3.cell? ⟨b,0,none⟩ = some (.pointer (some ⟨r,0,none⟩)) := (Ac hI.bb 0).trans rfl
   refine old Cy G ‹_›<|mi G<|pl (.func (.func 134) #[] #[.pointer (some ⟨g,0,none⟩),.pointer (some ⟨b,0,none⟩)]) (fun _ => by kernel_rfl)<|cl Jq [] G ((D1 d.next.length 134 r [.pointer (some ⟨g,0,none⟩),.pointer (some ⟨b,0,none⟩)] C134 (fun i W => i ≤ d.next.length ∧ DB base r g b w ((d.fin.drop i).map b2n ++ ns) ⟨d.vars,d.start,d.next,d.fin.take i⟩ W) w3 ⟨Nat.zero_le _,hI⟩ ?_ ?_ (by omega)).mono ?_)
   ·rintro i W ⟨_,hI⟩
    obtain ⟨A,c,hh,_⟩ := hI.rd.at_
    exact (Ac hh 1).trans rfl
   ·rintro i W hi ⟨_,hI⟩
    have hi2 : i < d.fin.length := by omega
    have hdr : (d.fin.drop i).map b2n ++ ns = b2n d.fin[i] :: ((d.fin.drop (i + 1)).map b2n ++ ns) := by rw [List.drop_eq_getElem_cons hi2]; rfl
    have ht : d.fin.take (i + 1) = d.fin.take i ++ [d.fin[i]] := List.take_succ_eq_append_getElem hi2
    rw [hdr] at hI
    refine (c134 base r g b w _ _ d.fin[i] W hI (by show (d.fin.take i).length ≤ _; rw [List.length_take]; omega)).mono ?_
    rintro e W' ⟨rfl,hI'⟩
    exact ⟨rfl,hi,by rw [ht]; exact hI'⟩
   ·rintro e w4 ⟨rfl,_,hI⟩
    rw [← hff,List.drop_length,List.take_length,List.map_nil,List.nil_append] at hI
    refine ⟨_,rfl,?_⟩
    refine pl (.func (.func 135) #[] #[.pointer (some ⟨g,0,none⟩)]) (fun _ => by kernel_rfl)<|af G<|?_
    exact rt1 rfl rfl ⟨g,b,rfl,hI⟩
theorem c135 (d : Df) (hd : d.Ok) (base r g b : Nat) (W0 : World) (ns : List Nat) (w : World) (h : DB base r g b W0 ns d w) (hG : Glob w) :
  Calls Tryz.prog 135 #[.pointer (some ⟨g,0,none⟩)] w fun e w' => ∃ j p NA' FA' CA' nc' fc' cc',e = .returned (.tuple #[.pointer (some ⟨j,0,none⟩),.int .i64 0]) ∧ B8 j 123 p 0 w' ∧ w.heap.size ≤ j ∧ MD d w.heap.size p NA' FA' CA' nc' fc' cc' 0 w' ∧ Below w.heap.size w w' := by
 obtain ⟨NA,FA,nc,fc,h1,h2,h3⟩ := h.at_
 refine enter 7 Tryz.func135 G G _ (by simp) ?_
 refine ap G<|ai G<|AV (vs := d.vals NA FA nc fc) G35 S35 G (Ak h1)<|cl C27 [] G ((Jt d hd NA FA nc fc w ⟨(Kd.R_reads' h2).2.2,(Kd.R_reads' h3).2.2⟩ hG).mono ?_)
 rintro e w1 ⟨j,p,NA',FA',CA',nc',fc',cc',rfl,hj,hjw,hD,hb⟩
 refine ⟨_,rfl,?_⟩
 refine oex G G<|oex G G<|ap G<|ai G<|?_
 exact rt2 rfl rfl rfl ⟨j,p,NA',FA',CA',nc',fc',cc',rfl,hj,hjw,hD,hb⟩
end
end Go.Proofs.YtmjllchdhcdinaaGreatDoor

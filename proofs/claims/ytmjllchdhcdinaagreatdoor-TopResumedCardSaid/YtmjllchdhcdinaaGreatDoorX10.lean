/- Part of the proof: P16 P17 O O2 O3 O4 B1 B2 N1 N2 N3 N4 N5. -/
import Derived.Test.YtmjllchdhcdinaaGreatDoorX09
set_option linter.unusedVariables false
set_option linter.unusedSimpArgs false
set_option maxRecDepth 100000
set_option maxHeartbeats 8000000
namespace Go.Proofs.YtmjllchdhcdinaaGreatDoor
section
open Go Fm Go.RowKit Go.Proofs.YtmjllchdhcdinaaGreatDoorW.PrintWords
def Mth (name : String) (T k : Nat) : Prop := ∀ (p : Nat) (W : World),(invoke (.fn (.method name) #[]) #[.iface T (.pointer (some ⟨p,0,none⟩))]).run Tryz.prog W = .ok (.enter k #[.pointer (some ⟨p,0,none⟩)]) W
theorem mU117 : Mth "sentinel/budget.unit" 117 230 := fun _ _ => by kernel_rfl
theorem mL117 : Mth "sentinel/budget.left" 117 229 := fun _ _ => by kernel_rfl
theorem mU123 : Mth "sentinel/budget.unit" 123 237 := fun _ _ => by kernel_rfl
theorem mL123 : Mth "sentinel/budget.left" 123 236 := fun _ _ => by kernel_rfl
theorem mU108 : Mth "sentinel/budget.unit" 108 223 := fun _ _ => by kernel_rfl
theorem mL108 : Mth "sentinel/budget.left" 108 222 := fun _ _ => by kernel_rfl
section
variable {n : Nat} {ops : Array Oper} {rest : List Oper} {Q : Bd n} {W : World} {f : Fm n} {d ty : Nat} {x : Operand} {pos : String} {aft : Array Edge} {ts : Array TypeId}
theorem clm {name : String} {T k p : Nat} (hm : Mth name T k) (hx : ex f x = .iface T (.pointer (some ⟨p,0,none⟩))) (h : Calls Tryz.prog k #[.pointer (some ⟨p,0,none⟩)] W fun e w' => ∃ v,e = .returned v ∧ RL Tryz.prog ops Q rest (up f d v) w') :
  LS Tryz.prog ops Q ⟨some d,.call { callee := .invoke x name,args := #[],argTypes := ts },ty,pos,aft,none⟩ rest f W := by
 refine HX ?_ h
 have := hm p W
 simpa [Ru,execOp,resolve,hx,go_sem] using this
end
def itU {σ : Type} (nx : σ → Option σ) (s : σ) : Nat → Option σ
 | 0 => some s
 | n + 1 => (itU nx s n).bind nx
theorem itU_none {σ : Type} {nx : σ → Option σ} {s t : σ} {a b : Nat} (ha : itU nx s a = some t) (hn : nx t = none) (h : a < b) : itU nx s b = none := by
 induction b with
 | zero => omega
 | succ b ih =>
  by_cases e : a = b
  ·subst e; simp [itU,ha,hn]
  ·simp [itU,ih (by omega)]
structure Kn {σ : Type} (T ku kl p base : Nat) (St : σ → World → Prop) (nx : σ → Option σ) : Prop where
 mu : Mth "sentinel/budget.unit" T ku
 ml : Mth "sentinel/budget.left" T kl
 u : ∀ s W,St s W → Calls Tryz.prog ku #[.pointer (some ⟨p,0,none⟩)] W fun e W' => ∃ b,e = .returned (.tuple #[.bool b,.int .i64 0]) ∧ JB base W W' ∧ ((b = false ∧ nx s = none ∧ St s W') ∨ (b = true ∧ ∃ s',nx s = some s' ∧ St s' W'))
 l : ∀ s W,St s W → Calls Tryz.prog kl #[.pointer (some ⟨p,0,none⟩)] W fun e W' => e = .returned (.bool (nx s).isSome) ∧ JB base W W' ∧ St s W'
 turn : ∀ s W W1 cs j,St s W → base ≤ j → W.heap[j]? = some (.cells cs 113 (0,0)) → W.grownBy W1 (some j) → St s W1
theorem Kr {σ : Type} {T ku kl p base : Nat} {St : σ → World → Prop} {nx : σ → Option σ} (K : Kn T ku kl p base St nx) (j u k : Nat) (s0 s : σ) (w : World) (hj : B8 j T p u w) (hbj : base ≤ j) (hit : itU nx s0 u = some s) (hs : St s w) (hk : u + k ≤ 4611686018427387904) :
  Calls Tryz.prog 48 #[.pointer (some ⟨j,0,none⟩),.int .i64 k] w fun e w' => ∃ u' s',e = .returned (.tuple #[.bool (nx s').isNone,.int .i64 0]) ∧ itU nx s0 u' = some s' ∧ u ≤ u' ∧ u' ≤ u + k ∧ (u' < u + k → nx s' = none) ∧ B8 j T p u' w' ∧ St s' w' ∧ Below base w w' := by
 refine enter 51 Tryz.func48 G G _ (by simp) ?_
 refine ab G<|ai G<|?_
 have hc : w.cell? ⟨j,0 + 0,none⟩ = some (.iface T (.pointer (some ⟨p,0,none⟩))) := (Ac hj 0).trans rfl
 refine mp G<|pl (.bool false) (fun _ => by kernel_rfl)<|mb G<|gon G<|mp G<|gon G<|onc G<|gon G<|ofa D4 G<|gon G<|old Ig G ‹_›<|gon G<|pl (.bool false) (fun _ => by kernel_rfl)<|pfb G G<|ab G<|cdf G<|mi G<|olt G G<|isf (by omega)<|ab G<|?_
 refine cdf G<|mi G<|mi G<|?_
 clear hc
 refine lp (σ := Nat) (fun i => [(0,.pointer (some ⟨j,0,none⟩)),(21,.int .i64 k),(22,.int .i64 i)])
  (fun i V => i ≤ k ∧ Below base w V ∧ B8 j T p (u + i) V ∧ ∃ s',itU nx s0 (u + i) = some s' ∧ St s' V) (fun i => k - i) 0 ⟨rfl,rfl,rfl,rfl⟩ ⟨Nat.zero_le _,Below.refl _ _,hj,s,hit,hs⟩ ?_
 rintro i f V ⟨hi,hB,hj,s',hit,hs⟩
 have hc0 : V.cell? ⟨j,0 + 0,none⟩ = some (.iface T (.pointer (some ⟨p,0,none⟩))) := (Ac hj 0).trans rfl
 refine olt G G<|cdd G (fun hlt => ?_) (fun hge => ?_)
 ·have hlt : i < k := Int.ofNat_lt.1 hlt
  refine mp G<|onc G<|ofa D4 G<|old Ig G ‹_›<|clm K.mu G ((K.u s' V hs).mono ?_)
  rintro e V1 ⟨b,rfl,hb1,hor⟩
  have hj := hb1.keep j _ hj
  have hB := hB.trans hb1.low
  refine ⟨_,rfl,?_⟩
  refine mv G<|oex G G<|oex G G<|ab G<|ai G<|mi G<|one G G<|isf (by omega)<|?_
  refine cdf G ?_
  rcases hor with ⟨rfl,hn,hs⟩ | ⟨rfl,s'',hn,hs⟩
  ·refine mb G<|ont G<|cdt G<|ab G<|ai G<|?_
   exact rt2 rfl rfl rfl ⟨u + i,s',by rw [hn]; rfl,hit,by omega,by omega,fun _ => hn,hj,hs,hB⟩
  ·refine mb G<|ont G<|cdf G ?_
   have hc1 : V1.cell? ⟨j,0 + 1,none⟩ = some (.int .i64 ((u + i : Nat) : Int)) := (Ac hj 1).trans rfl
   refine mp G<|onc G<|ofa EU G<|old G3 G ‹_›<|oad G G (by first | assumption | omega)<|onc G<|ofa EU G<|?_
   refine Bc (v := .int .i64 ((u + i : Nat) + 1)) (cs := [.iface T (.pointer (some ⟨p,0,none⟩)),.int .i64 (u + i : Nat)]) (i := 0 + 1) S3 G G G hj (by simp) ?_
   intro V2 hj2 hg2
   have hj2 : B8 j T p (u + (i + 1)) V2 := hj2
   refine oad G G (by first | assumption | omega)<|mi G<|?_
   exact ⟨i + 1,⟨rfl,rfl,rfl,rfl⟩,⟨hlt,hB.grown hg2 (Nat.le_trans hbj (Nat.le_of_lt (Am hj))) (fun k e => by cases e; exact hbj),hj2,s'',by show (itU nx s0 (u + i)).bind nx = _; rw [hit]; exact hn,K.turn _ _ _ _ j hs hbj hj hg2⟩,by omega⟩
 ·refine mp G<|onc G<|ofa D4 G<|old Ig G ‹_›<|clm K.ml G ((K.l s' V hs).mono ?_)
  rintro e V1 ⟨rfl,hb1,hs⟩
  refine ⟨_,rfl,?_⟩
  refine ont G<|ab G<|ai G<|?_
  have : i = k := by omega
  subst this
  exact rt2 rfl rfl rfl ⟨u + i,s',by cases nx s' <;> rfl,hit,by omega,by omega,fun h => by omega,hb1.keep j _ hj,hs,hB.trans hb1.low⟩
def NxR (g : GL) (ρ ρ' : Nat → Nat) : Prop := ∃ v y,v < g.own.length ∧ IsLift g.gm (Me.nat (Bh g.pri)) ρ v y ∧ ρ v < y ∧ (∀ u,u < v → ¬ ∃ z,IsLift g.gm (Me.nat (Bh g.pri)) ρ u z ∧ ρ u < z) ∧ ρ' = fun u => if u = v then y else ρ u
theorem NxR.unique {g : GL} {ρ a b : Nat → Nat} (ha : NxR g ρ a) (hb : NxR g ρ b) : a = b := by
 obtain ⟨v,y,hv,hl,hlt,hno,rfl⟩ := ha
 obtain ⟨v',y',hv',hl',hlt',hno',rfl⟩ := hb
 have : v = v' := by
  rcases Nat.lt_trichotomy v v' with h | h | h
  ·exact absurd ⟨y,hl,hlt⟩ (hno' v h)
  ·exact h
  ·exact absurd ⟨y',hl',hlt'⟩ (hno v' h)
 subst this
 rw [hl.unique hl']
open Classical in
noncomputable def nxM (g : GL) (ρ : Nat → Nat) : Option (Nat → Nat) := if h : ∃ ρ',NxR g ρ ρ' then some h.choose else none
theorem IA {g : GL} {ρ ρ' : Nat → Nat} (h : NxR g ρ ρ') : nxM g ρ = some ρ' := by
 unfold nxM
 rw [dif_pos ⟨ρ',h⟩]
 exact congrArg some (NxR.unique (Exists.choose_spec (⟨ρ',h⟩ : ∃ ρ',NxR g ρ ρ')) h)
theorem IB {g : GL} {mz : List Me} (h : CX g mz) : nxM g (rho (Bh g.pri) mz) = none := by
 unfold nxM
 rw [dif_neg]
 rintro ⟨ρ',v,y,hv,hl,hlt,_,_⟩
 have := h v hv y hl
 omega
theorem nxM_iff {g : GL} {mz : List Me} : nxM g (rho (Bh g.pri) mz) = none ↔ CX g mz := by
 refine ⟨fun h => ?_,IB⟩
 rw [DX]
 intro v
 induction v using Nat.strongRecOn with
 | _ v ih =>
  rintro hv ⟨y,hl,hlt⟩
  rw [IA ⟨v,y,hv,hl,hlt,fun u hu => ih u hu (by omega),rfl⟩] at h
  cases h
theorem rho_set {L : Nat → Int} {mz : List Me} {v : Nat} {m : Me} (hv : v < mz.length) : rho L (mz.set v m) = fun u => if u = v then m.rk L else rho L mz u := by
 funext u
 unfold rho
 rw [List.getElem?_set]
 by_cases h : u = v
 ·subst h; simp [hv]
 ·rw [if_neg (fun e => h e.symm),if_neg h]
theorem nxM_lifted {g : GL} {mz mz' : List Me} (hl : mz.length = g.own.length) (h : Jp g mz mz') : nxM g (rho (Bh g.pri) mz) = some (rho (Bh g.pri) mz') := by
 obtain ⟨v,m',hv,_,hil,hlt,hno,rfl⟩ := h
 rw [rho_set (by omega)]
 exact IA ⟨v,_,hv,hil,hlt,hno,rfl⟩
def StM (g : GL) (base p : Nat) (ρ : Nat → Nat) (W : World) : Prop := ∃ OA PA SA co cp cS gm mc mz dn,MS g base p OA PA SA co cp cS gm mc mz dn W ∧ (dn = true ↔ CX g mz) ∧ ρ = rho (Bh g.pri) mz
theorem knM (g : GL) (hF : g.Full) (base p : Nat) : Kn 108 223 222 p base (StM g base p) (nxM g) where
 mu := mU108
 ml := mL108
 u := by
  rintro s W ⟨OA,PA,SA,co,cp,cS,gm,mc,mz,dn,hM,hdn,rfl⟩
  refine (unit223 g hF base p OA PA SA co cp cS gm mc mz dn W hM).mono ?_
  rintro e W' ⟨b,mz',dn',rfl,hM',hdn',h0,h1,hJ⟩
  refine ⟨b,rfl,hJ,?_⟩
  cases b with
  | false =>
   obtain ⟨rfl,hn⟩ := h0 rfl
   exact .inl ⟨rfl,IB hn,OA,PA,SA,co,cp,cS,gm,mc,_,dn',hM',hdn',rfl⟩
  | true => exact .inr ⟨rfl,_,nxM_lifted hM.hl (h1 rfl),OA,PA,SA,co,cp,cS,gm,mc,_,dn',hM',hdn',rfl⟩
 l := by
  rintro s W ⟨OA,PA,SA,co,cp,cS,gm,mc,mz,dn,hM,hdn,rfl⟩
  refine (left222 g base p OA PA SA co cp cS gm mc mz dn W hM).mono ?_
  rintro e W' ⟨rfl,rfl⟩
  refine ⟨?_,JB.refl (Nat.le_trans hM.hp (Nat.le_of_lt (Am hM.blk))),OA,PA,SA,co,cp,cS,gm,mc,mz,dn,hM,hdn,rfl⟩
  have h1 := @nxM_iff g mz
  rw [← hdn] at h1
  cases hx : nxM g (rho (Bh g.pri) mz) with
  | none => rw [h1.1 hx]; rfl
  | some y =>
   cases dn with
   | false => rfl
   | true => rw [h1.2 rfl] at hx; cases hx
 turn := by
  rintro s W W1 cs j ⟨OA,PA,SA,co,cp,cS,gm,mc,mz,dn,hM,hdn,rfl⟩ _ hj hg
  refine ⟨OA,PA,SA,co,cp,cS,gm,mc,mz,dn,⟨?_,Ah hM.ro hj (by decide) hg,Ah hM.rp hj (by decide) hg,Ah hM.rs hj (by decide) hg,Ah hM.rm hj (by decide) hg,hM.hp,hM.hl,hM.good⟩,hdn,rfl⟩
  exact (hg.block p (Am hM.blk) (fun e => An hM.blk hj (by decide) (by injection e))).trans hM.blk
theorem Cl (k : IntKind) (n : Nat) (h : n < 2 ^ (k.bits - 1)) : k.wrap (n : Int) = n := by
 have hb : 0 < k.bits := by cases k <;> decide
 have h2 : 2 ^ (k.bits - 1) ≤ 2 ^ k.bits := Nat.pow_le_pow_right (by decide) (Nat.sub_le _ _)
 have h3 : ((n : Int) % (2 ^ k.bits : Int)) = n := Int.emod_eq_of_lt (Int.natCast_nonneg _) (by exact_mod_cast Nat.lt_of_lt_of_le h h2)
 unfold IntKind.wrap
 simp only [h3]
 rw [if_neg]
 simp only [Bool.and_eq_true,decide_eq_true_eq,not_and]
 intro _
 have : (n : Int) < (2 ^ (k.bits - 1) : Int) := by exact_mod_cast h
 omega
theorem H8 (w n : Nat) : BitVec.ofInt w (n : Int) = BitVec.ofNat w n := by simp
section
variable {n : Nat} {P : Program} {ops : Array Oper} {rest : List Oper} {Q : Bd n} {W : World} {f : Fm n} {d ty t t' : Nat} {x y : Operand} {pos : String} {aft : Array Edge} {k yk : IntKind} {a b : Nat}
theorem Eb {op : BinOp} {v : Value} (ho : (op matches .eql | .neq) = false) (h : (binOp op t (ex f x) (ex f y)).run P W = .ok v W) : Ru P (.binOp op t x y t') ty f W = .ok (.value v) W := by
 unfold Ru
 have e : eqGuard op t x y (ex f x) (ex f y) = pure () := by cases op <;> first | rfl | cases ho
 simp only [execOp,e]
 show ((do let r ← (do let _ ← (pure () : Sem Unit); binOp op t (ex f x) (ex f y)); pure (Next.value r)) : Sem Next).run P W = _
 simp only [Sem.run_bind,Sem.run_pure,Result.andThen_ok,h]
theorem oan_ (hx : ex f x = .int k (a : Nat)) (hy : ex f y = .int k (b : Nat)) (ha : a < 2 ^ (k.bits - 1)) (hb : b < 2 ^ (k.bits - 1)) : Pv P (.binOp .and t x y t') ty f (.int k ((a &&& b : Nat) : Int)) := fun W => by
 have h2 : 2 ^ (k.bits - 1) ≤ 2 ^ k.bits := Nat.pow_le_pow_right (by decide) (Nat.sub_le _ _)
 have hw := Cl k (a &&& b) (Nat.lt_of_le_of_lt Nat.and_le_left ha)
 have e1 : a % 2 ^ k.bits = a := Nat.mod_eq_of_lt (by omega)
 have e2 : b % 2 ^ k.bits = b := Nat.mod_eq_of_lt (by omega)
 refine Eb G ?_
 rw [hx,hy]
 have e : binOp .and t (.int k (a : Nat)) (.int k (b : Nat)) = Op.intBits .and k (a : Nat) (b : Nat) := by unfold binOp; simp
 rw [e]
 show Result.ok (Value.int k (k.wrap ((BitVec.ofInt k.bits (a : Int) &&& BitVec.ofInt k.bits (b : Int)).toNat : Int))) W = _
 rw [H8,H8,BitVec.toNat_and,BitVec.toNat_ofNat,BitVec.toNat_ofNat,e1,e2,hw]
theorem oan (hx : ex f x = .int k (a : Nat)) (hy : ex f y = .int k (b : Nat)) (ha : a < 2 ^ (k.bits - 1)) (hb : b < 2 ^ (k.bits - 1)) (r : RL P ops Q rest (up f d (.int k ((a &&& b : Nat) : Int))) W) : LS P ops Q ⟨some d,.binOp .and t x y t',ty,pos,aft,none⟩ rest f W := Bq (oan_ hx hy ha hb) r
theorem LQ (hx : ex f x = .int k (a : Nat)) (hy : ex f y = .int k (b : Nat)) (ha : a < 2 ^ (k.bits - 1)) (hb : b < 2 ^ (k.bits - 1)) : Pv P (.binOp .or t x y t') ty f (.int k ((a ||| b : Nat) : Int)) := fun W => by
 have h2 : 2 ^ (k.bits - 1) ≤ 2 ^ k.bits := Nat.pow_le_pow_right (by decide) (Nat.sub_le _ _)
 have hw := Cl k (a ||| b) (Nat.or_lt_two_pow ha hb)
 have e1 : a % 2 ^ k.bits = a := Nat.mod_eq_of_lt (by omega)
 have e2 : b % 2 ^ k.bits = b := Nat.mod_eq_of_lt (by omega)
 refine Eb G ?_
 rw [hx,hy]
 have e : binOp .or t (.int k (a : Nat)) (.int k (b : Nat)) = Op.intBits .or k (a : Nat) (b : Nat) := by unfold binOp; simp
 rw [e]
 show Result.ok (Value.int k (k.wrap ((BitVec.ofInt k.bits (a : Int) ||| BitVec.ofInt k.bits (b : Int)).toNat : Int))) W = _
 rw [H8,H8,BitVec.toNat_or,BitVec.toNat_ofNat,BitVec.toNat_ofNat,e1,e2,hw]
theorem oor (hx : ex f x = .int k (a : Nat)) (hy : ex f y = .int k (b : Nat)) (ha : a < 2 ^ (k.bits - 1)) (hb : b < 2 ^ (k.bits - 1)) (r : RL P ops Q rest (up f d (.int k ((a ||| b : Nat) : Int))) W) : LS P ops Q ⟨some d,.binOp .or t x y t',ty,pos,aft,none⟩ rest f W := Bq (LQ hx hy ha hb) r
theorem JI (hx : ex f x = .int k (a : Nat)) (hy : ex f y = .int yk (b : Nat)) (hb : b < k.bits) (h : a * 2 ^ b < 2 ^ (k.bits - 1)) : Pv P (.binOp .shl t x y t') ty f (.int k ((a * 2 ^ b : Nat) : Int)) := fun W => by
 have hw := Cl k (a * 2 ^ b) h
 have hm : min b k.bits = b := Nat.min_eq_left (by omega)
 have h0 : ¬ ((b : Int) < 0) := by omega
 have hc : ((a : Int) * 2 ^ b) = ((a * 2 ^ b : Nat) : Int) := by push_cast; rfl
 refine Eb G ?_
 rw [hx,hy]
 unfold binOp Op.shift
 simp only [if_neg h0,Int.toNat_natCast,hm,hc,hw]
 rfl
theorem I8 (hx : ex f x = .int k (a : Nat)) (hy : ex f y = .int yk (b : Nat)) (hb : b < k.bits) (h : a * 2 ^ b < 2 ^ (k.bits - 1)) (r : RL P ops Q rest (up f d (.int k ((a * 2 ^ b : Nat) : Int))) W) : LS P ops Q ⟨some d,.binOp .shl t x y t',ty,pos,aft,none⟩ rest f W := Bq (JI hx hy hb h) r
theorem oshr_ (hx : ex f x = .int k (a : Nat)) (hy : ex f y = .int yk (b : Nat)) (hb : b < k.bits) : Pv P (.binOp .shr t x y t') ty f (.int k ((a / 2 ^ b : Nat) : Int)) := fun W => by
 have hm : min b k.bits = b := Nat.min_eq_left (by omega)
 have h0 : ¬ ((b : Int) < 0) := by omega
 have hc : (a : Int).fdiv (2 ^ b) = ((a / 2 ^ b : Nat) : Int) := by
  rw [Int.fdiv_eq_ediv_of_nonneg _ (by exact_mod_cast Nat.zero_le (2 ^ b))]
  push_cast; rfl
 refine Eb G ?_
 rw [hx,hy]
 unfold binOp Op.shift
 simp only [if_neg h0,Int.toNat_natCast,hm,hc]
 rfl
theorem LL (hx : ex f x = .int k (a : Nat)) (hy : ex f y = .int yk (b : Nat)) (hb : b < k.bits) (r : RL P ops Q rest (up f d (.int k ((a / 2 ^ b : Nat) : Int))) W) : LS P ops Q ⟨some d,.binOp .shr t x y t',ty,pos,aft,none⟩ rest f W := Bq (oshr_ hx hy hb) r
end
theorem BF (a : Addr) : a.add 0 = a := by cases a; simp [Addr.add]
section
variable {n : Nat} {P : Program} {ops : Array Oper} {rest : List Oper} {Q : Bd n} {W : World} {f : Fm n} {d ty t e : Nat} {x y z : Operand} {pos : String} {aft : Array Edge} {A : Option Addr} {p c h m l sz : Nat} {k : IntKind}
theorem osh_ (ht : P.underlying t = some (.slice e)) (hi : (P.info? e).map (·.size) = some sz) (hx : ex f x = .slice A p c) (hy : ex f y = .int k (h : Nat)) (hh : h ≤ c) : Pv P (.slice t x none (some y) none) ty f (.slice A h c) := fun W => by
 obtain ⟨inf,hi',rfl⟩ := Option.map_eq_some_iff.1 hi
 have h1 : ¬ ((h : Int) < 0) := by omega
 have h2 : ¬ ((c : Int) < h) := by omega
 have e1 : A.map (fun a : Addr => a.add 0) = A := by cases A <;> simp [BF]
 simp [Ru,execOp,Instr.sliceAt,Instr.slice,Instr.sliceBounds,Instr.sliceBound,run_underlying ht,hx,hy,go_sem,hi',sizeOf,typeInfo,h1,h2,e1,hh]
theorem osh (ht : P.underlying t = some (.slice e)) (hi : (P.info? e).map (·.size) = some sz) (hx : ex f x = .slice A p c) (hy : ex f y = .int k (h : Nat)) (hh : h ≤ c) (r : RL P ops Q rest (up f d (.slice A h c)) W) : LS P ops Q ⟨some d,.slice t x none (some y) none,ty,pos,aft,none⟩ rest f W := Bq (osh_ ht hi hx hy hh) r
theorem oshm_ (ht : P.underlying t = some (.slice e)) (hi : (P.info? e).map (·.size) = some sz) (hx : ex f x = .slice A p c) (hy : ex f y = .int k (h : Nat)) (hz : ex f z = .int k (m : Nat)) (hh : h ≤ m) (hm : m ≤ c) : Pv P (.slice t x none (some y) (some z)) ty f (.slice A h m) := fun W => by
 obtain ⟨inf,hi',rfl⟩ := Option.map_eq_some_iff.1 hi
 have e1 : A.map (fun a : Addr => a.add 0) = A := by cases A <;> simp [BF]
 simp [Ru,execOp,Instr.sliceAt,Instr.slice,Instr.sliceBounds,Instr.sliceBound,run_underlying ht,hx,hy,hz,go_sem,hi',sizeOf,typeInfo,e1,hh,hm]
theorem oshm (ht : P.underlying t = some (.slice e)) (hi : (P.info? e).map (·.size) = some sz) (hx : ex f x = .slice A p c) (hy : ex f y = .int k (h : Nat)) (hz : ex f z = .int k (m : Nat)) (hh : h ≤ m) (hm : m ≤ c) (r : RL P ops Q rest (up f d (.slice A h m)) W) : LS P ops Q ⟨some d,.slice t x none (some y) (some z),ty,pos,aft,none⟩ rest f W := Bq (oshm_ ht hi hx hy hz hh hm) r
theorem osl_ (ht : P.underlying t = some (.slice e)) (hi : (P.info? e).map (·.size) = some sz) (hx : ex f x = .slice A p c) (hy : ex f y = .int k (l : Nat)) (hh : l ≤ p) : Pv P (.slice t x (some y) none none) ty f (.slice (if c = l then A else A.map (·.add (l * sz))) (p - l) (c - l)) := fun W => by
 obtain ⟨inf,hi',rfl⟩ := Option.map_eq_some_iff.1 hi
 simp [Ru,execOp,Instr.sliceAt,Instr.slice,Instr.sliceBounds,Instr.sliceBound,run_underlying ht,hx,hy,go_sem,hi',sizeOf,typeInfo,hh]
theorem osl (ht : P.underlying t = some (.slice e)) (hi : (P.info? e).map (·.size) = some sz) (hx : ex f x = .slice A p c) (hy : ex f y = .int k (l : Nat)) (hh : l ≤ p) (r : RL P ops Q rest (up f d (.slice (if c = l then A else A.map (·.add (l * sz))) (p - l) (c - l))) W) : LS P ops Q ⟨some d,.slice t x (some y) none none,ty,pos,aft,none⟩ rest f W := Bq (osl_ ht hi hx hy hh) r
end
theorem UI3 : Tryz.prog.underlying 3 = some (.int .i64) := by kernel_rfl
theorem UI5 : Tryz.prog.underlying 5 = some (.int .u8) := by kernel_rfl
theorem KU : Tryz.prog.underlying 49 = some (.int .u64) := by kernel_rfl
theorem IZ : Tryz.prog.underlying 222 = some (.int .u64) := by kernel_rfl
section
variable {n : Nat} {P : Program} {ops : Array Oper} {rest : List Oper} {Q : Bd n} {W : World} {f : Fm n} {d ty src dst : Nat} {x : Operand} {pos : String} {aft : Array Edge} {k k' kd : IntKind} {a : Nat}
theorem Lg (hs : P.underlying src = some (.int k')) (hd : P.underlying dst = some (.int kd)) (hx : ex f x = .int k (a : Nat)) (h : a < 2 ^ (kd.bits - 1)) : Pv P (.convert src dst x) ty f (.int kd (a : Nat)) := fun W => by
 have hw := Cl kd a h
 have e : (convert src dst (ex f x)).run P W = .ok (.int kd (a : Nat)) W := by
  rw [hx]
  have e1 : (convert src dst (.int k (a : Nat))).run P W = .ok (.int kd (kd.wrap (a : Nat))) W := by
   simp [convert,run_underlying hs,run_underlying hd,Conv.intToInt,go_sem]
  rw [e1,hw]
 unfold Ru
 simp only [execOp,Sem.run_bind,e,Result.andThen_ok,Sem.run_pure]
theorem CU (hs : P.underlying src = some (.int k')) (hd : P.underlying dst = some (.int kd)) (hx : ex f x = .int k (a : Nat)) (h : a < 2 ^ (kd.bits - 1)) (r : RL P ops Q rest (up f d (.int kd (a : Nat))) W) : LS P ops Q ⟨some d,.convert src dst x,ty,pos,aft,none⟩ rest f W := Bq (Lg hs hd hx h) r
end
section
variable {n : Nat} {P : Program} {ops : Array Oper} {rest : List Oper} {Q : Bd n} {W : World} {f : Fm n} {d ty t e : Nat} {x : Operand} {pos : String} {aft : Array Edge} {α : Type}
theorem Gu {R : α → List Value → Prop} {size : Nat} {p : α} {cs : List Value} (h : R p cs) (hl : cs.length = size) : Reps R size [p] cs := by
 refine ⟨by simp [hl],fun j q hj => ?_⟩
 cases j with
 | zero =>
  injection hj with hj
  subst hj
  rw [Nat.zero_mul,List.drop_zero,← hl,List.take_length]
  exact h
 | succ j => cases hj
theorem BV (k : Kd α) (base : Nat) {p : α} {cs : List Value} {okp : Nat → Prop} (hrun : Ru P (.buildSlice t 1 #[(0,x)]) ty f W = .ok (.value (.slice (some ⟨W.heap.size,0,none⟩) 1 1)) (W.alloc (.cells cs.toArray e)))
  (hp : k.M W base okp p cs) (hl : cs.length = k.sz) (hbase : base ≤ W.heap.size)
  (h : ∀ A c w1,k.R e w1 base (fun _ => True) (.slice A 1 c) [p] → Below W.heap.size W w1 → RL P ops Q rest (up f d (.slice A 1 c)) w1) : LS P ops Q ⟨some d,.buildSlice t 1 #[(0,x)],ty,pos,aft,none⟩ rest f W := by
 refine HW (Kd.R_lit k (w0 := W) base e G G (xs := [p]) (inner := cs) (ok := fun _ => True) (okp := okp) ?_ (Gu hp hl) (fun _ _ => trivial) trivial (Below.refl _ _) hbase (by simp) ?_)
 ·rw [Ba,Ce]; exact hrun
 ·intro v1 w1 hr _ hg _
  obtain ⟨A,c,rfl⟩ := Kd.R_slice hr
  exact Ej (h A c w1 hr ((Below.refl _ _).grown hg (Nat.le_refl _) (fun k e => by cases e)))
end
def SetB (W : World) (base : Nat) (v : Value) (s : Nat) : Prop := ∃ A n c,v = .slice A n c ∧ n ≤ c ∧ ((s = 0 ∧ n = 0) ∨ (s ≠ 0 ∧ n = 1 ∧ ∃ g cs,A = some ⟨g,0,none⟩ ∧ base ≤ g ∧ W.heap[g]? = some (.cells cs 49 (0,0)) ∧ cs[0]? = some (.int .u64 (s : Nat))))
section
variable {W W1 : World} {base base' s : Nat} {v : Value}
theorem SetB.nil (W : World) (base : Nat) : SetB W base (.slice none 0 0) 0 := ⟨none,0,0,rfl,Nat.le_refl _,.inl ⟨rfl,rfl⟩⟩
theorem SetB.below (h : SetB W base v s) (hb : Below W.heap.size W W1) : SetB W1 base v s := by
 obtain ⟨A,n,c,rfl,hc,h | ⟨h0,rfl,g,cs,rfl,hg,hh,h1⟩⟩ := h
 ·exact ⟨A,n,c,rfl,hc,.inl h⟩
 ·exact ⟨_,1,c,rfl,hc,.inr ⟨h0,rfl,g,cs,rfl,hg,Ab hh hb,h1⟩⟩
theorem SetB.lower (h : SetB W base v s) (hb : base' ≤ base) : SetB W base' v s := by
 obtain ⟨A,n,c,rfl,hc,h | ⟨h0,rfl,g,cs,rfl,hg,hh,h1⟩⟩ := h
 ·exact ⟨A,n,c,rfl,hc,.inl h⟩
 ·exact ⟨_,1,c,rfl,hc,.inr ⟨h0,rfl,g,cs,rfl,by omega,hh,h1⟩⟩
theorem SetB.block {p t : Nat} {ds : Array Value} (h : SetB W base v s) (hp : W.heap[p]? = some (.cells ds t (0,0))) (ht : 49 ≠ t) (hg : W.grownBy W1 (some p)) : SetB W1 base v s := by
 obtain ⟨A,n,c,rfl,hc,h | ⟨h0,rfl,g,cs,rfl,hb,hh,h1⟩⟩ := h
 ·exact ⟨A,n,c,rfl,hc,.inl h⟩
 ·exact ⟨_,1,c,rfl,hc,.inr ⟨h0,rfl,g,cs,rfl,hb,(hg.block g (Am hh) (fun e => An hh hp ht (by injection e))).trans hh,h1⟩⟩
end
theorem Ll (v : Value) (s base : Nat) (w : World) (hs : SetB w base v s) :
  Calls Tryz.prog 153 #[v,.int .i64 (0 : Nat)] w fun e w' => e = .returned (.int .u64 (s : Nat)) ∧ w' = w := by
 obtain ⟨A,n,c,rfl,hc,⟨rfl,rfl⟩ | ⟨h0,rfl,g,cs,rfl,hg,hh,h1⟩⟩ := hs
 ·refine enter 13 Tryz.func153 G G _ (by simp) ?_
  refine ai G<|mi G<|ms G<|oln U82 G<|olt G G<|isf (by omega)<|?_
  refine cdf G<|ai G<|?_
  exact rt1 rfl rfl ⟨rfl,rfl⟩
 ·have hcell : w.cell? ((⟨g,0,none⟩ : Addr).add (0 * 1)) = some (.int .u64 (s : Nat)) := by rw [Nat.zero_mul,BF,Ac hh]; exact h1
  refine enter 13 Tryz.func153 G G _ (by simp) ?_
  refine ai G<|mi G<|ms G<|oln U82 G<|olt G G<|ist (by omega)<|?_
  refine cdt G<|ms G<|mi G<|AD U82 Z49 G G (by first | assumption | omega)<|old G49 G ‹_›<|ai G<|?_
  exact rt1 rfl rfl ⟨rfl,rfl⟩
theorem JX (A : Option Addr) (n c : Nat) (w : World) (hc : n ≤ c) :
  Calls Tryz.prog 154 #[.slice A n c] w fun e w' => e = .returned (.slice A n n) ∧ w' = w := by
 refine enter 9 Tryz.func154 G G _ (by simp) ?_
 refine asl G<|ms G<|ms G<|oln U82 G<|ms G<|oln U82 G<|oshm U82 Z49 G G G (Nat.le_refl _) hc<|asl G<|?_
 exact rt1 rfl rfl ⟨rfl,rfl⟩
theorem or146 (x y : Nat) (w : World) (hx : x < 4611686018427387904) (hy : y < 4611686018427387904) :
  Calls Tryz.prog 146 #[.int .u64 (x : Nat),.int .u64 (y : Nat)] w fun e w' => e = .returned (.int .u64 ((x ||| y : Nat) : Int)) ∧ w' = w := by
 have h62 : (4611686018427387904 : Nat) ≤ 2 ^ (IntKind.bits .u64 - 1) := by decide
 have hx' := Nat.lt_of_lt_of_le hx h62
 have hy' := Nat.lt_of_lt_of_le hy h62
 refine enter 8 Tryz.func146 G G _ (by simp) ?_
 refine ai G<|mi G<|mi G<|oor G G (by first | assumption | decide | omega) (by first | assumption | decide | omega)<|ai G<|?_
 exact rt1 rfl rfl ⟨rfl,rfl⟩
theorem and114 (x y : Nat) (w : World) (hx : x < 4611686018427387904) (hy : y < 4611686018427387904) :
  Calls Tryz.prog 114 #[.int .u64 (x : Nat),.int .u64 (y : Nat)] w fun e w' => e = .returned (.int .u64 ((x &&& y : Nat) : Int)) ∧ w' = w := by
 have h62 : (4611686018427387904 : Nat) ≤ 2 ^ (IntKind.bits .u64 - 1) := by decide
 have hx' := Nat.lt_of_lt_of_le hx h62
 have hy' := Nat.lt_of_lt_of_le hy h62
 refine enter 8 Tryz.func114 G G _ (by simp) ?_
 refine ai G<|mi G<|mi G<|oan G G (by first | assumption | decide | omega) (by first | assumption | decide | omega)<|ai G<|?_
 exact rt1 rfl rfl ⟨rfl,rfl⟩
theorem GU (kf : Nat) (op : Nat → Nat → Nat) (hC : Ag Tryz.prog kf) (h00 : op 0 0 = 0)
  (hop : ∀ (x y : Nat) (W : World),x < 4611686018427387904 → y < 4611686018427387904 → Calls Tryz.prog kf #[.int .u64 (x : Nat),.int .u64 (y : Nat)] W fun e w' => e = .returned (.int .u64 ((op x y : Nat) : Int)) ∧ w' = W)
  (u v : Value) (x y bx bb : Nat) (w : World) (hu : SetB w bx u x) (hv : SetB w bb v y) (hx : x < 4611686018427387904) (hy : y < 4611686018427387904) :
  Calls Tryz.prog 113 #[u,v,.func (.func kf) #[] #[]] w fun e w' => ∃ r,e = .returned r ∧ SetB w' w.heap.size r (op x y) ∧ Below w.heap.size w w' := by
 obtain ⟨A,n,c,rfl,hnc,hu'⟩ := id hu
 obtain ⟨B,m,d,rfl,hmd,hv'⟩ := id hv
 have hn1 : n ≤ 1 := by rcases hu' with h | h <;> omega
 have hm1 : m ≤ 1 := by rcases hv' with h | h <;> omega
 refine enter 52 Tryz.func113 G G _ (by simp) ?_
 refine asl G<|pl (.func (.func 153) #[] #[]) (fun _ => by kernel_rfl)<|asl G<|ms G<|oln U82 G<|ms G<|oln U82 G<|omx G G<|omn G G<|mi G<|?_
 have e15 : (if (64 : Int) < (if (n : Int) < m then (m : Int) else n) then (64 : Int) else (if (n : Int) < m then (m : Int) else n)) = ((max n m : Nat) : Int) := by omega
 have hmx : max n m ≤ 1 := by omega
 refine lp (σ := Nat × Option Addr × Nat) (fun q => [(0,.slice A n c),(1,.slice B m d),(2,.func (.func kf) #[] #[]),(7,.func (.func 153) #[] #[]),(8,.slice q.2.1 q.1 q.2.2),(15,.int .i64 (max n m : Nat)),(16,.int .i64 q.1)])
  (fun q V => q.1 ≤ max n m ∧ Below w.heap.size w V ∧ (Kd.int .u64).R 49 V w.heap.size (fun _ => True) (.slice q.2.1 q.1 q.2.2) (if q.1 = 0 then [] else [((op x y : Nat) : Int)])) (fun q => max n m - q.1) (0,none,0) ⟨rfl,rfl,rfl,rfl,rfl,congrArg (Value.int .i64) e15,rfl,rfl⟩ ⟨Nat.zero_le _,Below.refl _ _,Kd.R_nil _ _ _ _ _⟩ ?_
 rintro ⟨k,A',c'⟩ f V ⟨hk,hB,hR⟩
 simp only at hk hR
 refine olt G G<|cdd G (fun hlt => ?_) (fun hge => ?_)
 ·have hlt : k < max n m := Int.ofNat_lt.1 hlt
  have hk0 : k = 0 := by omega
  subst hk0
  refine mi G<|ai G<|ms G<|mf G<|mf G<|ms G<|mi G<|cl L9 [] G ((Ll _ x bx V (hu.below hB)).mono ?_)
  rintro e V1 ⟨rfl,rfl⟩
  refine ⟨_,rfl,?_⟩
  refine mf G<|ms G<|mi G<|cl L9 [] G ((Ll _ y bb V1 (hv.below hB)).mono ?_)
  rintro e V2 ⟨rfl,rfl⟩
  refine ⟨_,rfl,?_⟩
  refine cl hC [] G ((hop x y V2 hx hy).mono ?_)
  rintro e V3 ⟨rfl,rfl⟩
  refine ⟨_,rfl,?_⟩
  refine EJ (bytes := 8) (m := 0) (c := c') (A := A') (Kd.int .u64) (p := ((op x y : Nat) : Int)) (cs := [.int .u64 ((op x y : Nat) : Int)]) U82 I49 G (by decide) (by decide) G (by simp) G (AJ U82 I49 G G) hR (okp := fun i => some i ≠ (Value.slice A' 0 c').ownBlock) G (fun i hi => ⟨trivial,hi⟩) (fun _ _ => trivial) hB.size (by simp) ?_
  intro A2 c2 V4 hR2 hg2
  refine asl G<|oad G G (by first | assumption | omega)<|mi G<|?_
  exact ⟨(1,A2,c2),⟨rfl,rfl,rfl,rfl,rfl,rfl,rfl,rfl⟩,⟨by dsimp only; omega,hB.grown hg2 hB.size (fun b hb => Kd.R_base hR b hb),hR2⟩,by dsimp only; omega⟩
 ·have hkm : k = max n m := by omega
  have hzero : max n m = 0 → op x y = 0 := by
   intro h
   rcases hu' with ⟨rfl,_⟩ | ⟨_,h1,_⟩ <;> rcases hv' with ⟨rfl,_⟩ | ⟨_,h2,_⟩ <;> first | exact h00 | omega
  have hk1 : k ≤ 1 := by omega
  have hkz : k = 0 → op x y = 0 := fun h => hzero (by omega)
  clear hge hk hkm e15 hzero
  refine lp (σ := Nat) (fun q => [(8,.slice A' q c')]) (fun q W => W = V ∧ q ≤ k ∧ (q < k → op x y = 0)) (fun q => q) k ⟨rfl,rfl⟩ ⟨rfl,Nat.le_refl _,fun h => absurd h (Nat.lt_irrefl _)⟩ ?_
  rintro q f W ⟨rfl,hq,hqz⟩
  have hc' : k ≤ c' := by
   have h2 := (Kd.R_reads' hR).2.1
   exact h2
  rcases Nat.eq_zero_or_pos q with rfl | hq0
  ·refine ms G<|oln U82 G<|ogt G G<|isf (by omega)<|mb G<|gof G<|gof G<|gof G<|gof G<|gof G<|gof G<|gof G<|pfb G G<|?_
   refine cdf G ?_
   have hz : op x y = 0 := by
    rcases Nat.eq_zero_or_pos k with h | h
    ·exact hkz h
    ·exact hqz h
   refine ms G<|cl L8 [] G ((JX A' 0 c' W (Nat.zero_le _)).mono ?_)
   rintro e W1 ⟨rfl,rfl⟩
   refine ⟨_,rfl,?_⟩
   refine asl G<|?_
   exact rt1 rfl rfl ⟨_,rfl,⟨A',0,0,rfl,Nat.le_refl _,.inl ⟨hz,rfl⟩⟩,hB⟩
  ·have hq1 : q = 1 := by omega
   have hk' : k = 1 := by omega
   subst hq1 hk'
   obtain ⟨g,_,hv,hgb,_,cells,hg⟩ := Kd.R_form hR (by simp)
   injection hv with hv _ _
   subst hv
   obtain ⟨ad,had,hcell⟩ := Au (Kd.R_reads' hR).2.2 (k := 0) rfl
   cases had
   have hcell : W.cell? ((⟨g,0,none⟩ : Addr).add ((((1 : Nat) : Int) - 1).toNat * 1)) = some (.int .u64 ((op x y : Nat) : Int)) := hcell
   refine ms G<|oln U82 G<|ogt G G<|ist (by omega)<|mb G<|gon G<|ms G<|gon G<|ms G<|gon G<|oln U82 G<|gon G<|osb G G (by first | assumption | omega)<|?_
   refine gon G<|oix (i := ((1 : Nat) : Int) - 1) U82 Z49 G G (by omega) ?_
   by_cases hz : op x y = 0
   ·refine gon G<|old G49 G ‹_›<|gon G<|oeq G G<|ist (by omega)<|ptb G G<|?_
    refine cdt G<|ms G<|ms G<|oln U82 G<|osb G G (by first | assumption | omega)<|?_
    refine osh (h := 0) U82 Z49 G G (Nat.zero_le _)<|asl G<|?_
    exact ⟨0,⟨rfl,rfl⟩,⟨rfl,Nat.zero_le _,fun _ => hz⟩,Nat.zero_lt_one⟩
   ·refine gon G<|old G49 G ‹_›<|gon G<|oeq G G<|isf (by omega)<|ptb G G<|?_
    refine cdf G<|ms G<|cl L8 [] G ((JX (some ⟨g,0,none⟩) 1 c' W hc').mono ?_)
    rintro e W1 ⟨rfl,rfl⟩
    refine ⟨_,rfl,?_⟩
    refine asl G<|?_
    have h0 : cells[0]? = some (.int .u64 ((op x y : Nat) : Int)) := by
     have : W1.cell? ((⟨g,0,none⟩ : Addr).add 0) = _ := hcell
     rw [BF,Ac hg] at this
     exact this
    exact rt1 rfl rfl ⟨_,rfl,⟨some ⟨g,0,none⟩,1,1,rfl,Nat.le_refl _,.inr ⟨hz,rfl,g,cells,rfl,hgb,hg,h0⟩⟩,hB⟩
theorem Ij (u v : Value) (x y bx bb : Nat) (w : World) (hu : SetB w bx u x) (hv : SetB w bb v y) (hx : x < 4611686018427387904) (hy : y < 4611686018427387904) :
  Calls Tryz.prog 107 #[u,v] w fun e w' => ∃ r,e = .returned r ∧ SetB w' w.heap.size r (x ||| y) ∧ Below w.heap.size w w' := by
 have h := GU 146 (· ||| ·) C146 rfl (fun x y W hx hy => or146 x y W hx hy) u v x y bx bb w hu hv hx hy
 obtain ⟨A,n,c,rfl,_,_⟩ := hu
 obtain ⟨B,m,d,rfl,_,_⟩ := hv
 refine enter 8 Tryz.func107 G G _ (by simp) ?_
 refine asl G<|ms G<|ms G<|cl Mf [] G (h.mono ?_)
 rintro e w1 ⟨r,rfl,hr,hb⟩
 obtain ⟨A1,n1,c1,rfl,_,_⟩ := id hr
 refine ⟨_,rfl,?_⟩
 refine asl G<|?_
 exact rt1 rfl rfl ⟨_,rfl,hr,hb⟩
theorem inter74 (u v : Value) (x y bx bb : Nat) (w : World) (hu : SetB w bx u x) (hv : SetB w bb v y) (hx : x < 4611686018427387904) (hy : y < 4611686018427387904) :
  Calls Tryz.prog 74 #[u,v] w fun e w' => ∃ r,e = .returned r ∧ SetB w' w.heap.size r (x &&& y) ∧ Below w.heap.size w w' := by
 have h := GU 114 (· &&& ·) ⟨_,Tryz.func114,by kernel_rfl,by kernel_rfl⟩ rfl (fun x y W hx hy => and114 x y W hx hy) u v x y bx bb w hu hv hx hy
 obtain ⟨A,n,c,rfl,_,_⟩ := hu
 obtain ⟨B,m,d,rfl,_,_⟩ := hv
 refine enter 8 Tryz.func74 G G _ (by simp) ?_
 refine asl G<|ms G<|ms G<|cl Mf [] G (h.mono ?_)
 rintro e w1 ⟨r,rfl,hr,hb⟩
 obtain ⟨A1,n1,c1,rfl,_,_⟩ := id hr
 refine ⟨_,rfl,?_⟩
 refine asl G<|?_
 exact rt1 rfl rfl ⟨_,rfl,hr,hb⟩
theorem DZ (u v : Value) (x y bx bb : Nat) (w : World) (hu : SetB w bx u x) (hv : SetB w bb v y) (hx : x < 4611686018427387904) (hy : y < 4611686018427387904) :
  Calls Tryz.prog 36 #[u,v] w fun e w' => e = .returned (.bool (decide (x &&& y ≠ 0))) ∧ Below w.heap.size w w' := by
 have h := inter74 u v x y bx bb w hu hv hx hy
 obtain ⟨A,n,c,rfl,_,_⟩ := hu
 obtain ⟨B,m,d,rfl,_,_⟩ := hv
 refine enter 10 Tryz.func36 G G _ (by simp) ?_
 refine ab G<|ms G<|ms G<|cl C74 [] G (h.mono ?_)
 rintro e w1 ⟨r,rfl,hr,hb⟩
 obtain ⟨A1,n1,c1,rfl,_,hor⟩ := hr
 refine ⟨_,rfl,?_⟩
 refine oln U82 G<|ogt G G<|ab G<|rt1 G G ⟨?_,hb⟩
 rcases hor with ⟨h0,rfl⟩ | ⟨h0,rfl,_⟩
 ·rw [h0]; rfl
 ·have : (decide (x &&& y ≠ 0)) = true := by simpa using h0
  rw [this]; rfl
theorem Hj (k : Nat) (w : World) (hk : k < 62) :
  Calls Tryz.prog 108 #[.int .i64 (k : Nat)] w fun e w' => ∃ r,e = .returned r ∧ SetB w' w.heap.size r (2 ^ k) ∧ Below w.heap.size w w' := by
 have hp : 1 * 2 ^ k < 2 ^ (IntKind.bits .u64 - 1) := by rw [Nat.one_mul]; exact Nat.pow_lt_pow_right (by decide) (by show k < 63; omega)
 have hk64 : k < IntKind.bits .u64 := by show k < 64; omega
 have hq : (k : Int) / 64 = 0 := by omega
 have hr : (k : Int) % 64 = k := by omega
 have he : Value.int .i64 ((k : Int) / 64 + 1) = .int .i64 ((1 : Nat) : Int) := by rw [hq]; rfl
 have hr' : Value.int .i64 ((k : Int) % 64) = .int .i64 (k : Nat) := by rw [hr]
 refine enter 22 Tryz.func108 G G _ (by simp) ?_
 refine asl G<|mi G<|olt G G<|isf (by omega)<|mb G<|gon G<|mi G<|gon G<|ogt G G<|isf (by omega)<|pfb G G<|?_
 refine cdf G<|mi G<|oqu G G (by omega) (by omega)<|oad G G (by first | assumption | omega)<|?_
 refine omk (Kd.int .u64) U82 I49 (by exact he) (by exact he) 0 (fun _ => rfl) (by decide) G (by decide) (by decide) ?_
 intro A c w1 hR hb1
 obtain ⟨g,_,hv,hgb,_,cells,hg⟩ := Kd.R_form hR (by simp)
 injection hv with hv _ _
 subst hv
 have hc : 1 ≤ c := (Kd.R_reads' hR).2.1
 refine asl G<|ms G<|mi G<|oqu G G (by omega) (by omega)<|mi G<|orm G G (by first | assumption | omega)<|?_
 refine I8 (a := 1) (b := k) G (by exact hr') hk64 hp ?_
 refine oix (i := (k : Int) / 64) U82 Z49 G G (by omega) ?_
 refine CG (enc := fun x => Value.int .u64 x) (h1 := fun _ => rfl) (z := ((1 * 2 ^ k : Nat) : Int)) (k := 0) S49 hR (by decide) (by show Value.pointer _ = _; rw [hq]; rfl) G ?_
 intro w2 hR2 hg2
 refine ms G<|asl G<|?_
 have hR2 : (Kd.int .u64).R 49 w2 w.heap.size (fun _ => True) (.slice (some ⟨g,0,none⟩) 1 c) [((1 * 2 ^ k : Nat) : Int)] := hR2
 rw [Nat.one_mul] at hR2
 have hB := hb1.grown hg2 hb1.size (fun b e => by cases e; exact hgb)
 refine rt1 G G ⟨_,rfl,?_,hB⟩
 obtain ⟨ad,had,hcell⟩ := Au (Kd.R_reads' hR2).2.2 (k := 0) rfl
 cases had
 obtain ⟨cs,hcs⟩ := Kd.R_typed hR2 g rfl
 refine ⟨_,1,c,rfl,hc,.inr ⟨by have := Nat.two_pow_pos k; omega,rfl,g,cs,rfl,hgb,hcs,?_⟩⟩
 rw [Nat.zero_mul,BF,Ac hcs] at hcell
 exact hcell
def AR (l : List Int) : Nat := l.foldl (fun s k => s ||| 2 ^ k.toNat) 0
theorem D9 {l : List Int} (h : ∀ k ∈ l,0 ≤ k ∧ k < 62) : AR l < 4611686018427387904 := by
 unfold AR
 suffices ∀ (l : List Int) (s : Nat),(∀ k ∈ l,0 ≤ k ∧ k < 62) → s < 2 ^ 62 → l.foldl (fun s k => s ||| 2 ^ k.toNat) s < 2 ^ 62 from this l 0 h (by decide)
 intro l
 induction l with
 | nil => exact fun s _ hs => hs
 | cons k l ih =>
  intro s hl hs
  refine ih _ (fun x hx => hl x (List.mem_cons_of_mem _ hx)) (Nat.or_lt_two_pow hs ?_)
  have := hl k (List.mem_cons_self ..)
  exact Nat.pow_lt_pow_right (by decide) (by omega)
theorem Km (u : Value) (x bx k : Nat) (w : World) (hu : SetB w bx u x) (hx : x < 4611686018427387904) (hk : k < 62) :
  Calls Tryz.prog 68 #[u,.int .i64 (k : Nat)] w fun e w' => ∃ r,e = .returned r ∧ SetB w' w.heap.size r (x ||| 2 ^ k) ∧ Below w.heap.size w w' := by
 have hp : 2 ^ k < 4611686018427387904 := Nat.lt_of_lt_of_le (Nat.pow_lt_pow_right (by decide) hk) (Nat.le_refl (2 ^ 62))
 obtain ⟨A,n,c,rfl,hnc,hor⟩ := id hu
 refine enter 9 Tryz.func68 G G _ (by simp) ?_
 refine asl G<|ms G<|mi G<|cl Mg [] G ((Hj k w hk).mono ?_)
 rintro e w1 ⟨r,rfl,hr,hb⟩
 obtain ⟨A1,n1,c1,rfl,_,_⟩ := id hr
 refine ⟨_,rfl,?_⟩
 refine cl Mh [] G ((Ij _ _ x (2 ^ k) bx _ w1 (hu.below hb) hr hx hp).mono ?_)
 rintro e w2 ⟨r,rfl,hr2,hb2⟩
 obtain ⟨A2,n2,c2,rfl,_,_⟩ := id hr2
 refine ⟨_,rfl,?_⟩
 refine asl G<|?_
 exact rt1 rfl rfl ⟨_,rfl,hr2.lower hb.size,Ad hb hb2⟩
theorem has112 (u : Value) (x bx k : Nat) (w : World) (hu : SetB w bx u x) (hx : x < 4611686018427387904) (hk : k < 62) :
  Calls Tryz.prog 112 #[u,.int .i64 (k : Nat)] w fun e w' => e = .returned (.bool (decide (x &&& 2 ^ k ≠ 0))) ∧ Below w.heap.size w w' := by
 have hp : 2 ^ k < 4611686018427387904 := Nat.lt_of_lt_of_le (Nat.pow_lt_pow_right (by decide) hk) (Nat.le_refl (2 ^ 62))
 obtain ⟨A,n,c,rfl,hnc,hor⟩ := id hu
 refine enter 9 Tryz.func112 G G _ (by simp) ?_
 refine ab G<|ms G<|mi G<|cl Mg [] G ((Hj k w hk).mono ?_)
 rintro e w1 ⟨r,rfl,hr,hb⟩
 obtain ⟨A1,n1,c1,rfl,_,_⟩ := id hr
 refine ⟨_,rfl,?_⟩
 refine cl C36 [] G ((DZ _ _ x (2 ^ k) bx _ w1 (hu.below hb) hr hx hp).mono ?_)
 rintro e w2 ⟨rfl,hb2⟩
 refine ⟨_,rfl,?_⟩
 refine ab G<|?_
 exact rt1 rfl rfl ⟨rfl,Ad hb hb2⟩
theorem K5 (A : Option Addr) (c : Nat) (l : List Int) (w : World) (hl : (Kd.int .i64).C w A l.length l) (h : ∀ k ∈ l,0 ≤ k ∧ k < 62) (hb : l.length ≤ 1000000) :
  Calls Tryz.prog 31 #[.slice A l.length c] w fun e w' => ∃ r,e = .returned r ∧ SetB w' w.heap.size r (AR l) ∧ Below w.heap.size w w' := by
 refine enter 16 Tryz.func31 G G _ (by simp) ?_
 refine asl G<|ms G<|oln U22 G<|mi G<|lp (σ := Nat × Value) (fun q => [(2,q.2),(5,.slice A l.length c),(6,.int .i64 l.length),(7,.int .i64 q.1)])
  (fun q V => q.1 ≤ l.length ∧ Below w.heap.size w V ∧ SetB V w.heap.size q.2 (AR (l.take q.1))) (fun q => l.length - q.1) (0,.slice none 0 0) ⟨rfl,rfl,rfl,rfl,rfl⟩ ⟨Nat.zero_le _,Below.refl _ _,SetB.nil _ _⟩ ?_
 rintro ⟨k,u⟩ f V ⟨hk,hB,hS⟩
 simp only at hk hS
 refine olt G G<|cdd G (fun hlt => ?_) (fun hge => ?_)
 ·have hkl : k < l.length := Int.ofNat_lt.1 hlt
  obtain ⟨m,hm⟩ : ∃ m,l[k]? = some m := ⟨_,gE hkl⟩
  obtain ⟨ad,rfl,hcell⟩ := Au hl hm
  have hcell := Ae hB hcell
  have hmr := h m (List.mem_of_getElem? hm)
  obtain ⟨j,rfl⟩ : ∃ j : Nat,m = j := ⟨m.toNat,by omega⟩
  obtain ⟨A1,n1,c1,rfl,_,_⟩ := id hS
  refine AD U22 Z3 G G (by first | assumption | omega)<|old G3 G ‹_›<|ai G<|?_
  refine ms G<|mi G<|cl C68 [] G ((Km _ (AR (l.take k)) w.heap.size j V hS (D9 (fun x hx => h x (List.mem_of_mem_take hx))) (by omega)).mono ?_)
  rintro e V1 ⟨r,rfl,hr,hb1⟩
  obtain ⟨A2,n2,c2,rfl,_,_⟩ := id hr
  refine ⟨_,rfl,?_⟩
  refine asl G<|oad G G (by first | assumption | omega)<|mi G<|?_
  refine ⟨(k + 1,.slice A2 n2 c2),⟨rfl,rfl,rfl,rfl,rfl⟩,⟨hkl,Ad hB hb1,?_⟩,by dsimp only; omega⟩
  have : AR (l.take (k + 1)) = AR (l.take k) ||| 2 ^ j := by
   have e : l.take (k + 1) = l.take k ++ [(j : Int)] := by rw [List.take_succ_eq_append_getElem hkl]; rw [gE hkl] at hm; injection hm with e; rw [e]
   rw [e]
   simp [AR,List.foldl_append]
  rw [this]
  exact hr.lower hB.size
 ·have hkn : k = l.length := by omega
  subst hkn
  rw [List.take_length] at hS
  obtain ⟨A1,n1,c1,rfl,_,_⟩ := id hS
  refine ms G<|asl G<|?_
  exact rt1 rfl rfl ⟨_,rfl,hS,hB⟩
structure Na where
 vars : Nat
 states : Nat
 start : List Int
 fin : List Int
 edges : List Ed
abbrev Na.vals (n : Na) (SA FA EA : Option Addr) (cs cf ce : Nat) : List Value := [.int .i64 (n.vars : Nat),.int .i64 (n.states : Nat),.slice SA n.start.length cs,.slice FA n.fin.length cf,.slice EA n.edges.length ce]
structure NR (n : Na) (W : World) (SA FA EA : Option Addr) : Prop where
 start : (Kd.int .i64).C W SA n.start.length n.start
 fin : (Kd.int .i64).C W FA n.fin.length n.fin
 edges : Ed.kd.C W EA n.edges.length n.edges
theorem NR.below {n : Na} {W W1 : World} {SA FA EA : Option Addr} (h : NR n W SA FA EA) (hb : Below W.heap.size W W1) : NR n W1 SA FA EA := ⟨Kd.C_below h.start hb,Kd.C_below h.fin hb,Kd.C_below h.edges hb⟩
structure Asc (s : Nat) (l : List Int) : Prop where
 bnd : ∀ a ∈ l,0 ≤ a ∧ a < s
 lt : ∀ (i : Nat) (a b : Int),l[i]? = some a → l[i + 1]? = some b → a < b
structure Ed.Ok (v s : Nat) (e : Ed) : Prop where
 src : 0 ≤ e.src ∧ e.src < s
 dst : 0 ≤ e.dst ∧ e.dst < s
 cube : ∃ p q : Nat,e.care = p ∧ e.want = q ∧ p ||| q < 2 ^ v ∧ p &&& q = 0
structure Na.Ok (n : Na) : Prop where
 v : n.vars ≤ 6
 s : n.states ≤ 61
 e : n.edges.length ≤ 512
 start : Asc n.states n.start
 fin : Asc n.states n.fin
 edges : ∀ e ∈ n.edges,e.Ok n.vars n.states
theorem Asc.length {s : Nat} {l : List Int} (h : Asc s l) : l.length ≤ s := by
 have : ∀ (k : Nat) (a : Int),l[k]? = some a → (k : Int) ≤ a := by
  intro k
  induction k with
  | zero => intro a ha; exact (h.bnd a (List.mem_of_getElem? ha)).1
  | succ k ih =>
   intro a ha
   obtain ⟨b,hb⟩ : ∃ b,l[k]? = some b := ⟨_,gE (by have := (List.getElem?_eq_some_iff.1 ha).1; omega)⟩
   have := ih b hb
   have := h.lt k b a hb ha
   omega
 rcases Nat.eq_zero_or_pos l.length with h0 | h0
 ·omega
 ·obtain ⟨a,ha⟩ : ∃ a,l[l.length - 1]? = some a := ⟨_,gE (by omega)⟩
  have h1 := this _ a ha
  have h2 := (h.bnd a (List.mem_of_getElem? ha)).2
  omega
theorem Ip (n : Na) (SA FA EA : Option Addr) (cs cf ce : Nat) (A : Option Addr) (c : Nat) (l : List Int) (w : World) (hl : (Kd.int .i64).C w A l.length l) (h : Asc n.states l) (hs : n.states ≤ 61) :
  Calls Tryz.prog 66 #[.agg (n.vals SA FA EA cs cf ce).toArray,.slice A l.length c] w fun e w' => e = .returned (.bool true) ∧ Below w.heap.size w w' := by
 have hlen := h.length
 refine enter 25 Tryz.func66 G G _ (by simp) ?_
 refine obx (cs := n.vals SA FA EA cs cf ce) G G ?_
 intro b w1 hbe hbb hb1
 refine ab G<|ai G<|ms G<|oln U22 G<|mi G<|lp (σ := Nat × Int) (fun q => [(2,.pointer (some ⟨b,0,none⟩)),(5,.int .i64 q.2),(8,.slice A l.length c),(9,.int .i64 l.length),(10,.int .i64 q.1)])
  (fun q V => q.1 ≤ l.length ∧ V = w1 ∧ ∀ a,l[q.1]? = some a → q.2 < a) (fun q => l.length - q.1) (0,-1) ⟨rfl,rfl,rfl,rfl,rfl,rfl⟩ ⟨Nat.zero_le _,rfl,fun a ha => by have := (h.bnd a (List.mem_of_getElem? ha)).1; dsimp only; omega⟩ ?_
 rintro ⟨k,la⟩ f V ⟨hk,rfl,hla⟩
 simp only at hk hla
 refine olt G G<|cdd G (fun hlt => ?_) (fun hge => ?_)
 ·have hkl : k < l.length := Int.ofNat_lt.1 hlt
  obtain ⟨m,hm⟩ : ∃ m,l[k]? = some m := ⟨_,gE hkl⟩
  obtain ⟨ad,rfl,hcell⟩ := Au hl hm
  have hcell := Ae hb1 hcell
  have hlm := hla m hm
  have hmb := h.bnd m (List.mem_of_getElem? hm)
  have hc : V.cell? ⟨b,0 + 1,none⟩ = some (.int .i64 (n.states : Nat)) := (Ac hbb 1).trans rfl
  refine AD U22 Z3 G G (by first | assumption | omega)<|old G3 G ‹_›<|ai G<|?_
  refine mi G<|mi G<|ole G G<|isf (by omega)<|mb G<|gon G<|mi G<|gon G<|ofa Dq G<|gon G<|old G3 G ‹_›<|gon G<|oge G G<|isf (by omega)<|pfb G G<|?_
  refine cdf G<|mi G<|ai G<|oad G G (by first | assumption | omega)<|mi G<|?_
  exact ⟨(k + 1,m),⟨rfl,rfl,rfl,rfl,rfl,rfl⟩,⟨hkl,rfl,fun a ha => h.lt k m a hm ha⟩,by dsimp only; omega⟩
 ·refine ab G<|?_
  exact rt1 rfl rfl ⟨rfl,hb1⟩
theorem cube67 (v p q : Nat) (w : World) (hv : v ≤ 6) (h1 : p ||| q < 2 ^ v) (h2 : p &&& q = 0) :
  Calls Tryz.prog 67 #[.agg #[.int .u8 (p : Nat),.int .u8 (q : Nat)],.int .i64 (v : Nat)] w fun e w' => e = .returned (.int .i64 0) ∧ Below w.heap.size w w' := by
 have h64 : 2 ^ v ≤ 64 := Nat.pow_le_pow_right (n := 2) (by decide) hv
 have hp : p < 2 ^ (IntKind.bits .u8 - 1) := by have := Nat.left_le_or (n := p) (m := q); show p < 128; omega
 have hq : q < 2 ^ (IntKind.bits .u8 - 1) := by have := Nat.right_le_or (n := p) (m := q); show q < 128; omega
 refine enter 28 Tryz.func67 G G _ (by simp) ?_
 refine obx (cs := [.int .u8 (p : Nat),.int .u8 (q : Nat)]) G G ?_
 intro b w1 hbe hbb hb1
 have hc0 : w1.cell? ⟨b,0 + 0,none⟩ = some (.int .u8 (p : Nat)) := (Ac hbb 0).trans rfl
 have hc1 : w1.cell? ⟨b,0 + 1,none⟩ = some (.int .u8 (q : Nat)) := (Ac hbb 1).trans rfl
 refine ai G<|mi G<|olt G G<|isf (by omega)<|mb G<|gon G<|mi G<|gon G<|ogt G G<|isf (by omega)<|pfb G G<|ab G<|?_
 refine cdf G ?_
 have ho : p ||| q < 2 ^ (IntKind.bits .i64 - 1) := Nat.lt_of_lt_of_le h1 (Nat.le_trans h64 (by decide))
 have hsh : 1 * 2 ^ v < 2 ^ (IntKind.bits .i64 - 1) := by rw [Nat.one_mul]; exact Nat.lt_of_le_of_lt h64 (by decide)
 have hvb : v < IntKind.bits .i64 := by show v < 64; omega
 refine drt mixed 9 (by kernel_rfl) ?_
 intro w2 hb2 _ _
 have hc0 := Ae hb2 hc0
 have hc1 := Ae hb2 hc1
 have hB := Ad hb1 hb2
 refine spu (AQ Dr G)<|sru (Ai G5 G ‹_›)<|spu (AQ FN G)<|sru (Ai G5 G ‹_›)<|spu (LQ G G (by first | assumption | decide | omega) (by first | assumption | decide | omega))<|spu (Lg UI5 UI3 G (by first | assumption | decide | omega))<|spu (mi_ G)<|?_
 refine spu (JI (a := 1) (b := v) G G hvb hsh)<|spu (Iz G G)<|Fr (by omega)<|?_
 refine ab G<|cdf G ?_
 have e26 : (Value.int .u8 ((p &&& q : Nat) : Int)) = .int .u8 0 := by rw [h2]; rfl
 refine ofa Dr G<|old G5 G ‹_›<|ofa FN G<|old G5 G ‹_›<|oan G G hp hq<|one G G<|isf (by rw [h2]; decide) ?_
 refine ab G<|cdf G<|ai G<|?_
 exact rt1 rfl rfl ⟨rfl,hB⟩
theorem c62 (n : Na) (hn : n.Ok) (SA FA EA : Option Addr) (cs cf ce b : Nat) (w : World) (hb : w.heap[b]? = some (.cells (n.vals SA FA EA cs cf ce).toArray 25 (0,0))) :
  Calls Tryz.prog 62 #[.pointer (some ⟨b,0,none⟩)] w fun e w' => e = .returned (.bool false) ∧ Below w.heap.size w w' := by
 have hv := hn.v
 have hc0 : w.cell? ⟨b,0 + 0,none⟩ = some (.int .i64 (n.vars : Nat)) := (Ac hb 0).trans rfl
 refine enter 10 Tryz.func62 G G _ (by simp) ?_
 refine ab G<|ofa DQ G<|old G3 G ‹_›<|olt G G<|isf (by omega)<|mb G<|gon G<|ofa DQ G<|gon G<|old G3 G ‹_›<|gon G<|ogt G G<|isf (by omega)<|pfb G G<|ab G<|?_
 exact rt1 rfl rfl ⟨rfl,Below.refl _ _⟩
theorem c63 (n : Na) (SA FA EA : Option Addr) (cs cf ce b : Nat) (w : World) (hb : w.heap[b]? = some (.cells (n.vals SA FA EA cs cf ce).toArray 25 (0,0))) :
  Calls Tryz.prog 63 #[.pointer (some ⟨b,0,none⟩)] w fun e w' => e = .returned (.bool false) ∧ Below w.heap.size w w' := by
 have hc0 : w.cell? ⟨b,0 + 1,none⟩ = some (.int .i64 (n.states : Nat)) := (Ac hb 1).trans rfl
 refine enter 5 Tryz.func63 G G _ (by simp) ?_
 refine ab G<|ofa Dq G<|old G3 G ‹_›<|olt G G<|isf (by omega)<|ab G<|?_
 exact rt1 rfl rfl ⟨rfl,Below.refl _ _⟩
theorem c64 (n : Na) (hn : n.Ok) (SA FA EA : Option Addr) (cs cf ce b : Nat) (w : World) (hb : w.heap[b]? = some (.cells (n.vals SA FA EA cs cf ce).toArray 25 (0,0))) :
  Calls Tryz.prog 64 #[.pointer (some ⟨b,0,none⟩)] w fun e w' => e = .returned (.bool false) ∧ Below w.heap.size w w' := by
 have hs := hn.s
 have he := hn.e
 have hc0 : w.cell? ⟨b,0 + 1,none⟩ = some (.int .i64 (n.states : Nat)) := (Ac hb 1).trans rfl
 have hc1 : w.cell? ⟨b,0 + 4,none⟩ = some (.slice EA n.edges.length ce) := (Ac hb 4).trans rfl
 refine enter 11 Tryz.func64 G G _ (by simp) ?_
 refine ab G<|ofa Dq G<|old G3 G ‹_›<|ogt G G<|isf (by omega)<|mb G<|gon G<|ofa Dz G<|gon G<|old G23 G ‹_›<|gon G<|oln U23 G<|gon G<|ogt G G<|isf (by omega)<|pfb G G<|ab G<|?_
 exact rt1 rfl rfl ⟨rfl,Below.refl _ _⟩
theorem c65 (n : Na) (hn : n.Ok) (SA FA EA : Option Addr) (cs cf ce b : Nat) (w : World) (hb : w.heap[b]? = some (.cells (n.vals SA FA EA cs cf ce).toArray 25 (0,0))) (hr : NR n w SA FA EA) :
  Calls Tryz.prog 65 #[.pointer (some ⟨b,0,none⟩)] w fun e w' => e = .returned (.bool false) ∧ Below w.heap.size w w' := by
 have hc0 : w.cell? ⟨b,0 + 2,none⟩ = some (.slice SA n.start.length cs) := (Ac hb 2).trans rfl
 refine enter 14 Tryz.func65 G G _ (by simp) ?_
 refine ab G<|AV (vs := n.vals SA FA EA cs cf ce) G25 S25 G (Ak hb)<|ofa EG G<|old G22 G ‹_›<|cl C66 [] G ((Ip n SA FA EA cs cf ce SA cs n.start w hr.start hn.start hn.s).mono ?_)
 rintro e w1 ⟨rfl,hb1⟩
 refine ⟨_,rfl,?_⟩
 have hb := Ab hb hb1
 have hc0 : w1.cell? ⟨b,0 + 3,none⟩ = some (.slice FA n.fin.length cf) := (Ac hb 3).trans rfl
 refine ont G<|mb G<|gon G<|AV (vs := n.vals SA FA EA cs cf ce) G25 S25 G (Ak hb)<|gon G<|ofa Fl G<|gon G<|old G22 G ‹_›<|gon G<|cl C66 [] G ((Ip n SA FA EA cs cf ce FA cf n.fin w1 (hr.below hb1).fin hn.fin hn.s).mono ?_)
 rintro e w2 ⟨rfl,hb2⟩
 refine ⟨_,rfl,?_⟩
 refine gon G<|ont G<|pfb G G<|ab G<|?_
 exact rt1 rfl rfl ⟨rfl,Ad hb1 hb2⟩
theorem I144 : (Tryz.prog.info? 144).map (fun i => (i.zero,i.size,i.bytes)) = some (some (.agg #[.nilFunc,.int .i64 0]),2,16) := by kernel_rfl
def cnd (b fk ek : Nat) : List Value := [.func (.func fk) #[] #[.pointer (some ⟨b,0,none⟩)],.int .i64 (ek : Nat)]
def cfn : Nat → Nat | 0 => 62 | 1 => 63 | 2 => 64 | _ => 65
def cer : Nat → Nat | 0 => 7 | 1 => 1 | 2 => 4 | _ => 8
theorem cfn_ok : ∀ k,Ag Tryz.prog (cfn k)
 | 0 => ⟨_,Tryz.func62,by kernel_rfl,by kernel_rfl⟩
 | 1 => ⟨_,Tryz.func63,by kernel_rfl,by kernel_rfl⟩
 | 2 => ⟨_,Tryz.func64,by kernel_rfl,by kernel_rfl⟩
 | _ + 3 => ⟨_,Tryz.func65,by kernel_rfl,by kernel_rfl⟩
theorem cnd_ok (n : Na) (hn : n.Ok) (SA FA EA : Option Addr) (cs cf ce b : Nat) (w : World) (hb : w.heap[b]? = some (.cells (n.vals SA FA EA cs cf ce).toArray 25 (0,0))) (hr : NR n w SA FA EA) :
  ∀ k,Calls Tryz.prog (cfn k) #[.pointer (some ⟨b,0,none⟩)] w fun e w' => e = .returned (.bool false) ∧ Below w.heap.size w w'
 | 0 => c62 n hn SA FA EA cs cf ce b w hb
 | 1 => c63 n SA FA EA cs cf ce b w hb
 | 2 => c64 n hn SA FA EA cs cf ce b w hb
 | _ + 3 => c65 n hn SA FA EA cs cf ce b w hb hr
abbrev KL (b : Nat) : List Value := cnd b 62 7 ++ cnd b 63 1 ++ cnd b 64 4 ++ cnd b 65 8
theorem cnds_at (b k : Nat) (hk : k < 4) : ∀ j,j < (cnd b (cfn k) (cer k)).length → (KL b)[k * 2 + j]? = (cnd b (cfn k) (cer k))[j]? := by
 intro j hj
 have : k = 0 ∨ k = 1 ∨ k = 2 ∨ k = 3 := by omega
 have hj2 : j = 0 ∨ j = 1 := by simp only [cnd,List.length_cons,List.length_nil] at hj; omega
 clear hj
 rcases this with rfl | rfl | rfl | rfl <;> rcases hj2 with rfl | rfl <;> rfl
theorem Gh (n : Na) (hn : n.Ok) (SA FA EA : Option Addr) (cs cf ce : Nat) (w : World) (hr : NR n w SA FA EA) :
  Calls Tryz.prog 30 #[.agg (n.vals SA FA EA cs cf ce).toArray] w fun e w' => e = .returned (.int .i64 0) ∧ Below w.heap.size w w' := by
 refine enter 63 Tryz.func30 G G _ (by simp) ?_
 refine obx (cs := n.vals SA FA EA cs cf ce) G G ?_
 intro b w1 hbe hbb hb1
 refine ai G<|pl (.func (.func 62) #[] #[.pointer (some ⟨b,0,none⟩)]) (fun _ => by kernel_rfl)<|pl (.agg (cnd b 62 7).toArray) (fun _ => by kernel_rfl)<|pl (.func (.func 63) #[] #[.pointer (some ⟨b,0,none⟩)]) (fun _ => by kernel_rfl)<|pl (.agg (cnd b 63 1).toArray) (fun _ => by kernel_rfl) <|
  pl (.func (.func 64) #[] #[.pointer (some ⟨b,0,none⟩)]) (fun _ => by kernel_rfl)<|pl (.agg (cnd b 64 4).toArray) (fun _ => by kernel_rfl)<|pl (.func (.func 65) #[] #[.pointer (some ⟨b,0,none⟩)]) (fun _ => by kernel_rfl)<|pl (.agg (cnd b 65 8).toArray) (fun _ => by kernel_rfl) ?_
 refine BH (Cj (us := [.agg (cnd b 62 7).toArray,.agg (cnd b 63 1).toArray,.agg (cnd b 64 4).toArray,.agg (cnd b 65 8).toArray]) (cs := cnd b 62 7 ++ cnd b 63 1 ++ cnd b 64 4 ++ cnd b 65 8) (sz := 2) LC I144 rfl (by decide) [.tmp 9,.tmp 11,.tmp 13,.tmp 15] rfl rfl rfl (by intro u hu; simp only [List.mem_cons,List.not_mem_nil,or_false] at hu; rcases hu with rfl | rfl | rfl | rfl <;> rfl) rfl (by simp)) ?_
 have hg2 := World.alloc_heap_new w1 (Obj.cells (KL b).toArray 144 (0,0))
 have hb2 := AP (Below.refl w1.heap.size w1) (Obj.cells (KL b).toArray 144 (0,0))
 generalize (w1.alloc (Obj.cells (KL b).toArray 144 (0,0))) = w2 at hg2 hb2 ⊢
 generalize hge : w1.heap.size = g at hg2
 have hbb := Ab hbb hb2
 have hB := Ad hb1 hb2
 refine oln LC G<|mi G<|cut (σ := Unit) (fun _ => [(1,.pointer (some ⟨b,0,none⟩))]) (fun _ V => Below w.heap.size w V ∧ V.heap[b]? = some (.cells (n.vals SA FA EA cs cf ce).toArray 25 (0,0))) (by repeat' (first | exact BB | exact BD | exact Bl | refine Bi ?_ ?_ | refine Bk ?_ | refine Bj ?_ | refine AX _ ?_)) ?_ ?_
 ·refine lp (σ := Nat) (fun k => [(1,.pointer (some ⟨b,0,none⟩)),(16,.slice (some ⟨g,0,none⟩) 4 4),(17,.int .i64 (4 : Nat)),(18,.int .i64 k)])
   (fun k V => k ≤ 4 ∧ Below w.heap.size w V ∧ V.heap[b]? = some (.cells (n.vals SA FA EA cs cf ce).toArray 25 (0,0)) ∧ V.heap[g]? = some (.cells (KL b).toArray 144 (0,0))) (fun k => 4 - k) 0 ⟨rfl,by rw [← hge]; rfl,rfl,rfl,rfl⟩ ⟨Nat.zero_le _,hB,hbb,hg2⟩ ?_
  clear hg2 hB hbb hb2 hge
  rintro k f V ⟨hk,hB,hbb,hgg⟩
  refine olt G G<|cdd G (fun hlt => ?_) (fun hge => ?_)
  ·have hkl : k < 4 := Int.ofNat_lt.1 hlt
   have hseg := Dx hgg (cnds_at b k hkl)
   refine AD LC Z144 G G (by first | assumption | omega)<|?_
   refine AV (vs := cnd b (cfn k) (cer k)) (fun _ => by kernel_rfl) (fun _ => by kernel_rfl) G (by rw [add_plain]; exact hseg) ?_
   refine oal (v := .agg #[.nilFunc,.int .i64 0]) (cs := [.nilFunc,.int .i64 0]) (fun _ => by kernel_rfl) G ?_
   intro c V1 hce hcb hb1'
   refine Bo (vs := cnd b (cfn k) (cer k)) (cs := [.nilFunc,.int .i64 0]) (fun _ => by kernel_rfl) rfl rfl rfl (by intro u hu; simp only [cnd,List.mem_cons,List.not_mem_nil,or_false] at hu; rcases hu with rfl | rfl <;> rfl) hcb (by simp [cnd]) ?_
   intro V2 hcb2 hg2
   have hcb2 : V2.heap[c]? = some (.cells (cnd b (cfn k) (cer k)).toArray 144 (0,0)) := hcb2
   have hb12 := hb1'.grown hg2 hb1'.size (fun k e => by cases e; omega)
   have hbb := Ab hbb hb12
   have hgg := Ab hgg hb12
   have hB := Ad hB hb12
   have hc0 : V2.cell? ⟨c,0 + 0,none⟩ = some (.func (.func (cfn k)) #[] #[.pointer (some ⟨b,0,none⟩)]) := (Ac hcb2 0).trans rfl
   refine ofa X144_0 G<|old G30 G ‹_›<|cl (cfn_ok k) [.pointer (some ⟨b,0,none⟩)] G ((cnd_ok n hn SA FA EA cs cf ce b V2 hbb (hr.below hB) k).mono ?_)
   rintro e V3 ⟨rfl,hb3⟩
   refine ⟨_,rfl,?_⟩
   refine cdf G<|oad G G (by first | assumption | omega)<|mi G<|?_
   exact ⟨k + 1,⟨rfl,rfl,rfl,rfl,rfl⟩,⟨hkl,Ad hB hb3,Ab hbb hb3,Ab hgg hb3⟩,by omega⟩
  ·exact ⟨(),⟨rfl,rfl⟩,hB,hbb⟩
 ·rintro _ f W ⟨hB,hbb⟩
  have hc0 : W.cell? ⟨b,0 + 4,none⟩ = some (.slice EA n.edges.length ce) := (Ac hbb 4).trans rfl
  refine ofa Dz G<|old G23 G ‹_›<|oln U23 G<|mi G<|lp (σ := Nat) (fun k => [(1,.pointer (some ⟨b,0,none⟩)),(29,.slice EA n.edges.length ce),(30,.int .i64 n.edges.length),(31,.int .i64 k)])
   (fun k V => k ≤ n.edges.length ∧ Below w.heap.size w V ∧ V.heap[b]? = some (.cells (n.vals SA FA EA cs cf ce).toArray 25 (0,0))) (fun k => n.edges.length - k) 0 ⟨rfl,rfl,rfl,rfl,rfl⟩ ⟨Nat.zero_le _,hB,hbb⟩ ?_
  clear hc0 hB hbb
  rintro k f V ⟨hk,hB,hbb⟩
  have hel := hn.e
  refine olt G G<|cdd G (fun hlt => ?_) (fun hge => ?_)
  ·have hkl : k < n.edges.length := Int.ofNat_lt.1 hlt
   obtain ⟨x,hx⟩ : ∃ x,n.edges[k]? = some x := ⟨_,gE hkl⟩
   obtain ⟨ad,rfl,hcell⟩ := Ed.row (hr.below hB).edges hx
   obtain ⟨hsrc,hdst,p,q,hp,hq,h1,h2⟩ := hn.edges x (List.mem_of_getElem? hx)
   refine AD U23 Z71 G G (by first | assumption | omega)<|?_
   refine AV (vs := x.enc) G71 S71 G hcell<|oal (v := .agg #[.int .i64 0,.int .i64 0,.int .u8 0,.int .u8 0]) (cs := [.int .i64 0,.int .i64 0,.int .u8 0,.int .u8 0]) (fun _ => by kernel_rfl) G ?_
   intro c V1 hce hcb hb1'
   refine Bo (vs := x.enc) (cs := [.int .i64 0,.int .i64 0,.int .u8 0,.int .u8 0]) S71 G G G (Ed.enc_one _) hcb (by simp [Ed.enc]) ?_
   intro V2 hcb2 hg2
   have hcb2 : V2.heap[c]? = some (.cells x.enc.toArray 71 (0,0)) := hcb2
   have hb12 := hb1'.grown hg2 hb1'.size (fun k e => by cases e; omega)
   have hbb := Ab hbb hb12
   have hB := Ad hB hb12
   have d0 : V2.cell? ⟨c,0 + 0,none⟩ = some (.int .i64 x.src) := (Ac hcb2 0).trans rfl
   have d1 : V2.cell? ⟨c,0 + 1,none⟩ = some (.int .i64 x.dst) := (Ac hcb2 1).trans rfl
   have d2 : V2.cell? ⟨c,0 + 2,none⟩ = some (.int .u8 (p : Nat)) := by rw [← hp]; exact (Ac hcb2 2).trans rfl
   have d3 : V2.cell? ⟨c,0 + 3,none⟩ = some (.int .u8 (q : Nat)) := by rw [← hq]; exact (Ac hcb2 3).trans rfl
   have n0 : V2.cell? ⟨b,0 + 0,none⟩ = some (.int .i64 (n.vars : Nat)) := (Ac hbb 0).trans rfl
   have n1 : V2.cell? ⟨b,0 + 1,none⟩ = some (.int .i64 (n.states : Nat)) := (Ac hbb 1).trans rfl
   refine ofa DO G<|old G3 G ‹_›<|ofa Fk G<|old G3 G ‹_›<|omn G G<|olt G G<|isf (by omega)<|mb G<|gon G<|ofa DO G<|gon G<|old G3 G ‹_›<|gon G<|ofa Fk G<|gon G<|old G3 G ‹_›<|gon G<|omx G G<|gon G<|ofa Dq G<|gon G<|old G3 G ‹_›<|gon G<|oge G G<|isf (by omega)<|pfb G G<|?_
   refine cdf G<|ofa IX G<|old G5 G ‹_›<|ofa IW G<|old G5 G ‹_›<|pl (.agg #[.int .u8 (p : Nat),.int .u8 (q : Nat)]) (fun _ => by kernel_rfl)<|ofa DQ G<|old G3 G ‹_›<|cl C67 [] G ((cube67 n.vars p q V2 hn.v h1 h2).mono ?_)
   rintro e V3 ⟨rfl,hb3⟩
   refine ⟨_,rfl,?_⟩
   refine ai G<|mi G<|one G G<|isf (by omega)<|?_
   refine cdf G<|oad G G (by first | assumption | omega)<|mi G<|?_
   exact ⟨k + 1,⟨rfl,rfl,rfl,rfl,rfl⟩,⟨hkl,Ad hB hb3,Ab hbb hb3⟩,by omega⟩
  ·refine ai G<|?_
   exact rt1 rfl rfl ⟨rfl,hB⟩
def Hc (p q x : Nat) : Bool := decide (x &&& p = p) && decide (x &&& q = 0)
theorem has152 (p q x : Nat) (w : World) (hp : p < 128) (hq : q < 128) (hx : x < 128) :
  Calls Tryz.prog 152 #[.agg #[.int .u8 (p : Nat),.int .u8 (q : Nat)],.int .u8 (x : Nat)] w fun e w' => e = .returned (.bool (Hc p q x)) ∧ Below w.heap.size w w' := by
 have hp' : p < 2 ^ (IntKind.bits .u8 - 1) := hp
 have hq' : q < 2 ^ (IntKind.bits .u8 - 1) := hq
 have hx' : x < 2 ^ (IntKind.bits .u8 - 1) := hx
 refine enter 19 Tryz.func152 G G _ (by simp) ?_
 refine obx (cs := [.int .u8 (p : Nat),.int .u8 (q : Nat)]) G G ?_
 intro b w1 hbe hbb hb1
 have hc0 : w1.cell? ⟨b,0 + 0,none⟩ = some (.int .u8 (p : Nat)) := (Ac hbb 0).trans rfl
 have hc1 : w1.cell? ⟨b,0 + 1,none⟩ = some (.int .u8 (q : Nat)) := (Ac hbb 1).trans rfl
 refine ab G<|?_
 by_cases h1 : x &&& p = p
 ·by_cases h2 : x &&& q = 0
  ·have e : Hc p q x = true := by simp [Hc,h1,h2]
   rw [e]
   refine mi G<|ofa Dr G<|old G5 G ‹_›<|oan G G (by first | assumption | decide | omega) (by first | assumption | decide | omega)<|ofa Dr G<|old G5 G ‹_›<|?_
   refine oeq G G<|ist (by rw [h1]) ?_
   refine mb G<|gon G<|mi G<|gon G<|ofa FN G<|gon G<|old G5 G ‹_›<|gon G<|oan G G (by first | assumption | decide | omega) (by first | assumption | decide | omega)<|?_
   have hz : ((x &&& q : Nat) : Int) = 0 := by rw [h2]; rfl
   refine gon G<|oeq G G<|ist hz<|ptb G G<|ab G<|?_
   exact rt1 rfl rfl ⟨rfl,hb1⟩
  ·have e : Hc p q x = false := by simp [Hc,h2]
   rw [e]
   refine mi G<|ofa Dr G<|old G5 G ‹_›<|oan G G (by first | assumption | decide | omega) (by first | assumption | decide | omega)<|ofa Dr G<|old G5 G ‹_›<|?_
   refine oeq G G<|ist (by rw [h1]) ?_
   refine mb G<|gon G<|mi G<|gon G<|ofa FN G<|gon G<|old G5 G ‹_›<|gon G<|oan G G (by first | assumption | decide | omega) (by first | assumption | decide | omega)<|?_
   have hz : ¬ ((x &&& q : Nat) : Int) = 0 := by omega
   refine gon G<|oeq G G<|isf hz<|ptb G G<|ab G<|?_
   exact rt1 rfl rfl ⟨rfl,hb1⟩
 ·have e : Hc p q x = false := by simp [Hc,h1]
  rw [e]
  refine mi G<|ofa Dr G<|old G5 G ‹_›<|oan G G (by first | assumption | decide | omega) (by first | assumption | decide | omega)<|ofa Dr G<|old G5 G ‹_›<|?_
  have hz : ¬ ((x &&& p : Nat) : Int) = (p : Nat) := by omega
  refine oeq G G<|isf hz<|mb G<|gof G<|gof G<|gof G<|gof G<|gof G<|pfb G G<|ab G<|?_
  exact rt1 rfl rfl ⟨rfl,hb1⟩
def KpO (n0 b : Nat) (A B : World) : Prop := A.heap.size ≤ B.heap.size ∧ ∀ i,i < n0 → i ≠ b → B.heap[i]? = A.heap[i]?
theorem KpO.refl (n0 b : Nat) (A : World) : KpO n0 b A A := ⟨Nat.le_refl _,fun _ _ _ => rfl⟩
theorem KpO.trans {n0 b : Nat} {A B C : World} (h : KpO n0 b A B) (k : KpO n0 b B C) : KpO n0 b A C := ⟨Nat.le_trans h.1 k.1,fun i hi hne => (k.2 i hi hne).trans (h.2 i hi hne)⟩
theorem KpO.low {n0 b : Nat} {A B : World} (h : Below n0 A B) : KpO n0 b A B := ⟨h.size,fun i hi _ => h.block i hi⟩
theorem KpO.new {n0 b : Nat} {w A B : World} (h : KpO n0 b w A) (k : Below A.heap.size A B) (hn : n0 ≤ A.heap.size) : KpO n0 b w B := ⟨Nat.le_trans h.1 k.size,fun i hi hne => (k.block i (Nat.lt_of_lt_of_le hi hn)).trans (h.2 i hi hne)⟩
theorem KpO.cells {n0 b c t : Nat} {A B : World} {cs : Array Value} (h : KpO n0 b A B) (hc : A.heap[c]? = some (.cells cs t (0,0))) (hn : c < n0) (hne : c ≠ b) : B.heap[c]? = some (.cells cs t (0,0)) := (h.2 c hn hne).trans hc
theorem KpO.cell {b : Nat} {wa w0 V : World} (hb : Below wa.heap.size wa w0) (h : KpO w0.heap.size b w0 V) (hlt : wa.heap.size ≤ b) {a : Addr} {v : Value} (hc : wa.cell? a = some v) : V.cell? a = some v := by
 have hl := World.block_lt_of_cell? wa a hc
 have h1 := Ae hb hc
 have e : V.heap[a.block]? = w0.heap[a.block]? := h.2 _ (Nat.lt_of_lt_of_le hl hb.size) (by omega)
 have : V.cell? a = w0.cell? a := by unfold World.cell?; rw [e]
 rw [this,h1]
abbrev Na.E (n : Na) := { e : Ed // e ∈ n.edges }
def Ed.has (e : Ed) (x : Nat) : Bool := Hc e.care.toNat e.want.toNat x
theorem match151 (n : Na) (hn : n.Ok) (SA FA EA : Option Addr) (cs cf ce x : Nat) (hx : x < 128) (c1 c2 b : Nat) (wa w0 : World) (hba : Below wa.heap.size wa w0) (hE : Ed.kd.C wa EA n.edges.length n.edges) (hlt : wa.heap.size ≤ b)
  (h1 : w0.heap[c1]? = some (.cells (n.vals SA FA EA cs cf ce).toArray 25 (0,0))) (h2 : w0.heap[c2]? = some (.cells #[.int .u8 (x : Nat)] 5 (0,0))) (hb1 : c1 ≠ b) (hb2 : c2 ≠ b) (mm : Nat) :
  SeqStopsK Fence.wide mm Tryz.prog 151 #[.pointer (some ⟨c1,0,none⟩),.pointer (some ⟨c2,0,none⟩)] (fun e : n.E => #[.agg e.1.enc.toArray]) (KpO w0.heap.size b) (fun xs => xs.map (·.1) = n.edges.filter (·.has x)) (fun _ => True) (n.edges.length + 1) w0 := by
 have hel := hn.e
 intro l J Jx W hW hJ hJx hY h0
 refine H3 27 Tryz.func151 G G [.func (.yield l) #[] #[],.pointer (some ⟨c1,0,none⟩),.pointer (some ⟨c2,0,none⟩)] (by simp) ?_ mm
 have hl1 := Am h1
 have hl2 := Am h2
 have hk0 : KpO w0.heap.size b w0 W := KpO.low hW
 have hc1 : W.cell? ⟨c1,0 + 4,none⟩ = some (.slice EA n.edges.length ce) := (Ac (hk0.cells h1 hl1 hb1) 4).trans rfl
 refine oj (fun _ _ h => h)<|ofa Dz G<|oj (fun _ _ h => h)<|old G23 G ‹_›<|oj (fun _ _ h => h)<|oln U23 G<|oj (fun _ _ h => h)<|mi G<|lpj (σ := Nat × List n.E) (fun q => [(0,.func (.yield l) #[] #[]),(1,.pointer (some ⟨c1,0,none⟩)),(2,.pointer (some ⟨c2,0,none⟩)),(7,.slice EA n.edges.length ce),(8,.int .i64 n.edges.length),(9,.int .i64 q.1)])
  (fun q V => KpO w0.heap.size b w0 V ∧ w0.heap.size ≤ V.heap.size ∧ W.heap.size ≤ V.heap.size ∧ q.1 ≤ n.edges.length ∧ J q.2 V ∧ q.2.map (·.1) = (n.edges.take q.1).filter (·.has x)) (fun q => n.edges.length - q.1) (0,[]) ⟨rfl,rfl,rfl,rfl,rfl,rfl,rfl⟩ ⟨hk0,hW.size,Nat.le_refl _,Nat.zero_le _,h0,rfl⟩ ?_
 clear hc1 hk0
 rintro ⟨k,pre⟩ f V ⟨hK,hVs,hWV,hk,hJp,hpre⟩
 simp only at hk hJp hpre
 refine oj (fun _ _ h => h)<|olt G G<|cdd G (fun h => ?_) (fun h => ?_)
 ·have hkl : k < n.edges.length := Int.ofNat_lt.1 h
  obtain ⟨e,he⟩ : ∃ e,n.edges[k]? = some e := ⟨_,gE hkl⟩
  obtain ⟨ad,rfl,hcell⟩ := Ed.row hE he
  have hcell : ∀ j v,e.enc[j]? = some v → V.cell? ((ad.add (k * 4)).add j) = some v := fun j v hj => hK.cell hba hlt (hcell j v hj)
  obtain ⟨hsrc,hdst,p,q,hp,hq,hpq,_⟩ := hn.edges e (List.mem_of_getElem? he)
  have h64 : 2 ^ n.vars ≤ 64 := Nat.pow_le_pow_right (n := 2) (by decide) hn.v
  have hpl : p < 128 := by have := Nat.left_le_or (n := p) (m := q); omega
  have hql : q < 128 := by have := Nat.right_le_or (n := p) (m := q); omega
  have htake : n.edges.take (k + 1) = n.edges.take k ++ [e] := by rw [List.take_succ_eq_append_getElem hkl]; rw [gE hkl] at he; injection he with he; rw [he]
  have hhas : e.has x = Hc p q x := by unfold Ed.has; rw [hp,hq]; rfl
  refine oj (fun _ _ h => h)<|AD U23 Z71 G G (by first | assumption | omega)<|?_
  refine oj (fun _ _ h => h) (AV (vs := e.enc) G71 S71 G hcell ?_)
  refine oj (fun _ _ h => h) (oal (v := .agg #[.int .i64 0,.int .i64 0,.int .u8 0,.int .u8 0]) (cs := [.int .i64 0,.int .i64 0,.int .u8 0,.int .u8 0]) (fun _ => by kernel_rfl) G ?_)
  intro c V1 hce hcb hb1'
  refine oj (fun _ _ h => h) (Bo (vs := e.enc) (cs := [.int .i64 0,.int .i64 0,.int .u8 0,.int .u8 0]) S71 G G G (Ed.enc_one _) hcb (by simp [Ed.enc]) ?_)
  intro V2 hcb2 hg2
  have hcb2 : V2.heap[c]? = some (.cells e.enc.toArray 71 (0,0)) := hcb2
  have hb12 := hb1'.grown hg2 hb1'.size (fun k e => by cases e; omega)
  have hJ2 := hJ pre V V2 none hJp (Ap hb12 none) (fun r e => by cases e)
  have hs12 := hb12.size
  have hK2 := hK.new hb12 hVs
  have d2 : V2.cell? ⟨c,0 + 2,none⟩ = some (.int .u8 (p : Nat)) := by rw [← hp]; exact (Ac hcb2 2).trans rfl
  have d3 : V2.cell? ⟨c,0 + 3,none⟩ = some (.int .u8 (q : Nat)) := by rw [← hq]; exact (Ac hcb2 3).trans rfl
  have n2 : V2.cell? ⟨c2,0,none⟩ = some (.int .u8 (x : Nat)) := (Ac (hK2.cells h2 hl2 hb2) 0).trans rfl
  refine oj (fun _ _ h => h)<|ofa IX G<|oj (fun _ _ h => h)<|old G5 G ‹_›<|oj (fun _ _ h => h)<|ofa IW G<|oj (fun _ _ h => h)<|old G5 G ‹_›<|oj (fun _ _ h => h) (pl (.agg #[.int .u8 (p : Nat),.int .u8 (q : Nat)]) (fun _ => by kernel_rfl) ?_)
  refine oj (fun _ _ h => h)<|old G5 G ‹_›<|oj (fun _ _ h => h) (cl (⟨_,Tryz.func152,by kernel_rfl,by kernel_rfl⟩ : Ag Tryz.prog 152) [] G ((has152 p q x V2 hpl hql hx).mono ?_))
  rintro e' V3 ⟨rfl,hb3⟩
  refine ⟨_,rfl,?_⟩
  have hJ3 := hJ pre V2 V3 none hJ2 (Ap hb3 none) (fun r e => by cases e)
  have hs3 := hb3.size
  have hK3 := hK2.new hb3 (by omega)
  have hcb3 := Ab hcb2 hb3
  cases hh : Hc p q x with
  | false =>
   refine oj (fun _ _ h => h)<|mb G<|oj (fun _ _ h => h)<|gof G<|oj (fun _ _ h => h)<|gof G<|oj (fun _ _ h => h)<|gof G<|oj (fun _ _ h => h)<|gof G<|oj (fun _ _ h => h)<|pfb G G<|cdf G<|oj (fun _ _ h => h)<|oad G G (by first | assumption | omega)<|oj (fun _ _ h => h)<|mi G<|?_
   refine ⟨(k + 1,pre),⟨rfl,rfl,rfl,rfl,rfl,rfl,rfl⟩,⟨hK3,by omega,by omega,hkl,hJ3,?_⟩,Nat.sub_lt_sub_left hkl (Nat.lt_succ_self k)⟩
   show pre.map (·.1) = _
   rw [htake,List.filter_append,hpre]
   simp [hhas,hh]
  | true =>
   refine oj (fun _ _ h => h)<|mb G<|IH G<|oj (fun _ _ h => h)<|mf G<|IH G<|oj (fun _ _ h => h) (AV (vs := e.enc) G71 S71 G (Ak hcb3) ?_)
   refine IH G<|HS (l := l) G (fun m1 => ?_)
   have hpl' : pre.length ≤ k := by rw [← List.length_map (f := fun e : n.E => e.1),hpre]; exact Nat.le_trans (List.length_filter_le _ _) (by rw [List.length_take]; omega)
   refine YieldAt.mono (Eo (hY pre ⟨e,List.mem_of_getElem? he⟩ V3 hJ3 (by omega))) ?_
   rintro e' V4 (⟨rfl,hJ4,hk4⟩ | ⟨rfl,hJx⟩)
   ·refine ⟨_,rfl,?_⟩
    have hs4 := hk4.1
    refine IH G<|oj (fun _ _ h => h) (ont G ?_)
    refine oj (fun _ _ h => h) (ptb G G ?_)
    refine cdf G<|oj (fun _ _ h => h)<|oad G G (by first | assumption | omega)<|oj (fun _ _ h => h)<|mi G<|?_
    refine ⟨(k + 1,pre ++ [⟨e,List.mem_of_getElem? he⟩]),⟨rfl,rfl,rfl,rfl,rfl,rfl,rfl⟩,⟨hK3.trans hk4,by omega,by omega,hkl,hJ4,?_⟩,Nat.sub_lt_sub_left hkl (Nat.lt_succ_self k)⟩
    show (pre ++ [(⟨e,_⟩ : n.E)]).map (·.1) = _
    rw [List.map_append,htake,List.filter_append,hpre]
    simp [hhas,hh]
   ·refine ⟨_,rfl,?_⟩
    refine IH G<|oj (fun _ _ h => h) (ont G ?_)
    refine oj (fun _ _ h => h) (ptb G G ?_)
    refine cdt G ?_
    exact rt0 rfl ⟨⟨_,rfl⟩,.inr ⟨_,trivial,hJx⟩⟩
 ·refine rt0 G ⟨⟨_,rfl⟩,.inl ⟨pre,?_,hJp⟩⟩
  have : k = n.edges.length := by omega
  show pre.map (·.1) = _
  rw [hpre,this,List.take_length]
theorem KpO.turn {n0 b : Nat} {A B : World} (h : A.grownBy B (some b)) (hn : n0 ≤ A.heap.size) : KpO n0 b A B := ⟨h.size,fun i hi hne => h.block i (Nat.lt_of_lt_of_le hi hn) (fun e => hne (by injection e))⟩
theorem SetB.mark {W : World} {base s D : Nat} {v : Value} (h : SetB W base v s) (hD : W.heap[D]? = some (.deferred (some []))) : SetB (W.putObj D (.deferred none)) base v s := by
 obtain ⟨A,n,c,rfl,hc,h' | ⟨h0,rfl,g,cs,rfl,hb,hh,h1⟩⟩ := h
 ·exact ⟨A,n,c,rfl,hc,.inl h'⟩
 ·exact ⟨_,1,c,rfl,hc,.inr ⟨h0,rfl,g,cs,rfl,hb,EK hD hh,h1⟩⟩
theorem JG {β : Type} {B base s : Nat} {v : Value} : OwnFrom B (fun (_ : β) V => SetB V base v s) := fun _ _ _ _ h hg hr => by
 obtain ⟨A,n,c,rfl,hc,h' | ⟨h0,rfl,g,cs,rfl,hb,hh,h1⟩⟩ := h
 ·exact ⟨A,n,c,rfl,hc,.inl h'⟩
 ·refine ⟨_,1,c,rfl,hc,.inr ⟨h0,rfl,g,cs,rfl,hb,?_,h1⟩⟩
  exact BT (β := Unit) () _ _ _ hh hg hr
theorem matching111 (n : Na) (SA FA EA : Option Addr) (cs cf ce x : Nat) (w : World) :
  Calls Tryz.prog 111 #[.agg (n.vals SA FA EA cs cf ce).toArray,.int .u8 (x : Nat)] w fun e w' => ∃ c1 c2,e = .returned (.func (.func 151) #[] #[.pointer (some ⟨c1,0,none⟩),.pointer (some ⟨c2,0,none⟩)]) ∧ w.heap.size ≤ c1 ∧ w.heap.size ≤ c2 ∧ w'.heap[c1]? = some (.cells (n.vals SA FA EA cs cf ce).toArray 25 (0,0)) ∧ w'.heap[c2]? = some (.cells #[.int .u8 (x : Nat)] 5 (0,0)) ∧ Below w.heap.size w w' := by
 refine enter 6 Tryz.func111 G G _ (by simp) ?_
 refine obx (cs := n.vals SA FA EA cs cf ce) G G ?_
 intro c1 w1 h1e h1 hb1
 refine obx G G ?_
 intro c2 w2 h2e h2 hb2
 have h1 := Ab h1 hb2
 have hs1 := hb1.size
 refine av G<|pl (.func (.func 151) #[] #[.pointer (some ⟨c1,0,none⟩),.pointer (some ⟨c2,0,none⟩)]) (fun _ => by kernel_rfl)<|af G<|?_
 exact rt1 rfl rfl ⟨c1,c2,rfl,by omega,by omega,h1,h2,Ad hb1 hb2⟩
def Cz (s o : Nat) (e : Ed) : Nat := if s &&& 2 ^ e.src.toNat ≠ 0 then o ||| 2 ^ e.dst.toNat else o
def Na.step (n : Na) (s x : Nat) : Nat := (n.edges.filter (·.has x)).foldl (Cz s) 0
theorem Io {n : Na} (hn : n.Ok) (s : Nat) (l : List Ed) (hl : ∀ e ∈ l,e ∈ n.edges) : l.foldl (Cz s) 0 < 2 ^ n.states := by
 suffices ∀ (l : List Ed) (o : Nat),(∀ e ∈ l,e ∈ n.edges) → o < 2 ^ n.states → l.foldl (Cz s) o < 2 ^ n.states from this l 0 hl (Nat.two_pow_pos _)
 intro l
 induction l with
 | nil => exact fun o _ h => h
 | cons e l ih =>
  intro o hl ho
  refine ih _ (fun x hx => hl x (List.mem_cons_of_mem _ hx)) ?_
  unfold Cz
  split
  ·have := (hn.edges e (hl e (List.mem_cons_self ..))).dst
   exact Nat.or_lt_two_pow ho (Nat.pow_lt_pow_right (by decide) (by omega))
  ·exact ho
theorem Na.step_lt {n : Na} (hn : n.Ok) (s x : Nat) : n.step s x < 2 ^ n.states := Io hn s _ (fun _ h => (List.mem_filter.1 h).1)
theorem J4 (n : Na) (hn : n.Ok) (SA FA EA : Option Addr) (cs cf ce x s bx : Nat) (u : Value) (w : World) (hr : NR n w SA FA EA) (hx : x < 128) (hs : s < 4611686018427387904) (hu : SetB w bx u s) :
  Calls Tryz.prog 72 #[.agg (n.vals SA FA EA cs cf ce).toArray,u,.int .u8 (x : Nat)] w fun e w' => ∃ r,e = .returned r ∧ SetB w' w.heap.size r (n.step s x) ∧ Below w.heap.size w w' := by
 have hst : 2 ^ n.states ≤ 2 ^ 61 := Nat.pow_le_pow_right (by decide) hn.s
 obtain ⟨A,m,c,rfl,hmc,hor⟩ := id hu
 refine enter 21 Tryz.func72 G G _ (by simp) ?_
 refine obx (cs := n.vals SA FA EA cs cf ce) G G ?_
 intro b3 w1 h3e h3 hb1
 refine obx (cs := [.slice A m c]) G G ?_
 intro b4 w2 h4e h4 hb2
 refine oal (v := .slice none 0 0) (cs := [.slice none 0 0]) (fun _ => by kernel_rfl) G ?_
 intro b6 w3 h6e h6 hb3
 have hb46 : b4 < b6 := by have := Am h4; omega
 have h3 := Ab (Ab h3 hb2) hb3
 have h4 := Ab h4 hb3
 have hB := Ad (Ad hb1 hb2) hb3
 have hs1 := hb1.size
 have hs2 := hb2.size
 refine AV (vs := n.vals SA FA EA cs cf ce) G25 S25 G (Ak h3)<|mi G<|cl C111 [] G ((matching111 n SA FA EA cs cf ce x w3).mono ?_)
 rintro e w4 ⟨c1,c2,rfl,hl1,hl2,hc1,hc2,hb4⟩
 refine ⟨_,rfl,?_⟩
 have h4 := Ab h4 hb4
 have h6 := Ab h6 hb4
 have hlt4 := Am h4
 have hlt6 := Am h6
 have hl63 := hb3.size
 have hne : b6 < w3.heap.size := by have := Am (by assumption : w3.heap[b6]? = some (.cells [.slice none 0 0].toArray 82 (0,0))); exact this
 have hB := Ad hB hb4
 have hsz := hB.size
 have hu4 := hu.below hB
 refine Kv (α := n.E) (gf := 151) (lb := #[.pointer (some ⟨c1,0,none⟩),.pointer (some ⟨c2,0,none⟩)]) (w0 := w4) G (⟨_,Tryz.func151,by kernel_rfl,by kernel_rfl⟩ : Ag Tryz.prog 151) (by kernel_rfl) (by kernel_rfl)
  (fun mm => match151 n hn SA FA EA cs cf ce x hx c1 c2 b6 w w4 hB hr.edges (by omega) hc1 hc2 (by omega) (by omega) mm)
  (fun h k => h.trans k) (fun V l o o' hl ho hoc how => KpO.low (belowK_b (Nat.le_refl _) V l o o' hl ho hoc how)) (Below.refl _ _) (fun _ => rfl)
  (fun (pre : List n.E) (V : World) => w4.heap.size ≤ V.heap.size ∧ Below w.heap.size w V ∧ V.heap[b4]? = some (.cells [.slice A m c].toArray 82 (0,0)) ∧ SetB V bx (.slice A m c) s ∧ ∃ r,V.heap[b6]? = some (.cells [r].toArray 82 (0,0)) ∧ SetB V w.heap.size r ((pre.map (·.1)).foldl (Cz s) 0))
  (fun _ _ _ => False) ?_ ?_ ⟨Nat.le_refl _,hB,h4,hu4,_,h6,SetB.nil _ _⟩
  (σ := Nat) (fun e b7 => [(4,.pointer (some ⟨b4,0,none⟩)),(6,.pointer (some ⟨b6,0,none⟩)),(7,.pointer (some ⟨b7,0,none⟩))]) (fun e b7 V => V.heap[b7]? = some (.cells e.1.enc.toArray 71 (0,0))) (fun e b7 => BT) ?_ ?_ ?_ ?_
 ·intro pre V V' row ⟨h1,h2,h3,h4,r,h5,h6⟩ hg hr
  exact ⟨Nat.le_trans h1 hg.size,h2.grown hg (Nat.le_trans hsz h1) (fun k e => by have := (hr k e).1; omega),BT (β := Unit) () V V' row h3 hg hr,JG (β := Unit) () V V' row h4 hg hr,r,BT (β := Unit) () V V' row h5 hg hr,JG (β := Unit) () V V' row h6 hg hr⟩
 ·intro c pre V V' row h hg hr
  exact h
 ·rintro l pre e V ⟨h1,h2,h3,h4,r,h5,h6⟩
  refine oal (v := .agg #[.int .i64 0,.int .i64 0,.int .u8 0,.int .u8 0]) (cs := [.int .i64 0,.int .i64 0,.int .u8 0,.int .u8 0]) (fun _ => by kernel_rfl) G ?_
  intro b7 V1 hbe hbb hb2
  refine Bo (vs := e.1.enc) (cs := [.int .i64 0,.int .i64 0,.int .u8 0,.int .u8 0]) S71 G G G (Ed.enc_one _) hbb (by simp [Ed.enc]) ?_
  intro V2 hbb2 hg2
  have hb12 := hb2.grown hg2 hb2.size (fun k e => by cases e; omega)
  refine ⟨KeepsFrom.of_grownBy (Ap hb12 none) (fun j e => by cases e),KpO.new (KpO.refl _ _ _) hb12 h1,⟨Nat.le_trans h1 hb12.size,Ad h2 hb12,Ab h3 hb12,h4.below hb12,r,Ab h5 hb12,h6.below hb12⟩,b7,⟨rfl,rfl,rfl,rfl⟩,hbb2⟩
 ·rintro l pre e b7 g' V hl ⟨h1,h2,h3,h4,r,h5,h6⟩ h7 _
  obtain ⟨hsrc,hdst,_⟩ := hn.edges e.1 e.2
  have d0 : V.cell? ⟨b7,0 + 0,none⟩ = some (.int .i64 (e.1.src.toNat : Nat)) := by rw [show (e.1.src.toNat : Int) = e.1.src by omega]; exact (Ac h7 0).trans rfl
  have u0 : V.cell? ⟨b4,0,none⟩ = some (.slice A m c) := (Ac h3 0).trans rfl
  have hns := hn.s
  refine old G82 G ‹_›<|ofa DO G<|old G3 G ‹_›<|cl (⟨_,Tryz.func112,by kernel_rfl,by kernel_rfl⟩ : Ag Tryz.prog 112) [] G ((has112 _ s bx e.1.src.toNat V h4 hs (by omega)).mono ?_)
  rintro e' V1 ⟨rfl,hb1⟩
  refine ⟨_,rfl,?_⟩
  have hfl := Io hn s (pre.map (·.1)) (fun x hx => by obtain ⟨y,_,rfl⟩ := List.mem_map.1 hx; exact y.2)
  obtain ⟨A',m',c',rfl,_,_⟩ := id h6
  have h3 := Ab h3 hb1
  have h5 := Ab h5 hb1
  have h6 := h6.below hb1
  have h4 := h4.below hb1
  have h7 := Ab h7 hb1
  have h2 := Ad h2 hb1
  have hs1 := hb1.size
  refine cdd G (fun hin => ?_) (fun hout => ?_)
  ·have d1 : V1.cell? ⟨b7,0 + 1,none⟩ = some (.int .i64 (e.1.dst.toNat : Nat)) := by rw [show (e.1.dst.toNat : Int) = e.1.dst by omega]; exact (Ac h7 1).trans rfl
   have r0 : V1.cell? ⟨b6,0,none⟩ = some (.slice A' m' c') := (Ac h5 0).trans rfl
   refine old G82 G ‹_›<|ofa Fk G<|old G3 G ‹_›<|cl C68 [] G ((Km _ _ w.heap.size e.1.dst.toNat V1 h6 (Nat.lt_of_lt_of_le hfl (Nat.le_trans hst (by decide))) (by omega)).mono ?_)
   rintro e' V2 ⟨r,rfl,hr2,hb2⟩
   obtain ⟨A2,m2,c2',rfl,_,_⟩ := id hr2
   refine ⟨_,rfl,?_⟩
   have hs2 := hb2.size
   have h5 := Ab h5 hb2
   refine Bc (v := .slice A2 m2 c2') (cs := [.slice A' m' c']) (i := 0) S82 G G G h5 (by simp) ?_
   intro V3 h53 hg3
   have hr3 : SetB V3 w.heap.size (.slice A2 m2 c2') ((((pre ++ [e]).map (·.1)).foldl (Cz s) 0)) := by
    have := (hr2.lower h2.size).block h5 (by decide) hg3
    rw [List.map_append,List.foldl_append]
    have e2 : Cz s ((pre.map (·.1)).foldl (Cz s) 0) e.1 = (pre.map (·.1)).foldl (Cz s) 0 ||| 2 ^ e.1.dst.toNat := by unfold Cz; rw [if_pos hin]
    show SetB V3 w.heap.size _ (Cz s ((pre.map (·.1)).foldl (Cz s) 0) e.1)
    rw [e2]
    exact this
   have hk12 : Below V.heap.size V V2 := Ad hb1 hb2
   refine ⟨(KeepsFrom.of_grownBy (Ap hk12 none) (fun j e => by cases e)).trans (KeepsFrom.of_grownBy hg3 (fun j e => by cases e; omega)),(KpO.new (KpO.refl _ _ _) hk12 h1).trans (KpO.turn hg3 (by omega)),⟨by have := hg3.size; omega,(Ad h2 hb2).grown hg3 (Ad h2 hb2).size (fun k e => by cases e; omega),?_,(h4.below hb2).block h5 (by decide) hg3,_,h53,hr3⟩⟩
   have h3 := Ab h3 hb2
   exact Ar h3 hg3 (fun e => by injection e with e; omega)
  ·have e2 : Cz s ((pre.map (·.1)).foldl (Cz s) 0) e.1 = (pre.map (·.1)).foldl (Cz s) 0 := by unfold Cz; rw [if_neg hout]
   refine ⟨KeepsFrom.of_grownBy (Ap hb1 none) (fun j e => by cases e),KpO.new (KpO.refl _ _ _) hb1 h1,⟨by omega,h2,h3,h4,_,h5,?_⟩⟩
   rw [List.map_append,List.foldl_append]
   show SetB V1 w.heap.size _ (Cz s ((pre.map (·.1)).foldl (Cz s) 0) e.1)
   rw [e2]
   exact h6
 ·rintro D xs V hD hS ⟨h1,h2,h3,h4,r,h5,h6⟩ hK
  have hS : xs.map (·.1) = n.edges.filter (·.has x) := hS
  obtain ⟨A',m',c',rfl,_,_⟩ := id h6
  have r0 : V.cell? ⟨b6,0,none⟩ = some (.slice A' m' c') := (Ac h5 0).trans rfl
  refine old G82 G ‹_›<|Bc (v := .slice A' m' c') (cs := [.slice A' m' c']) (i := 0) S82 G G G h5 (by simp) ?_
  intro V2 h52 hg2
  have hK2 := (hg2.block D (Array.getElem?_eq_some_iff.1 hK).1 (fun e => by cases e; rw [hK] at h5; cases h5)).trans hK
  have h6 := h6.block h5 (by decide) hg2
  rw [hS] at h6
  refine rtm G G G hK2 h52 G82 ⟨_,rfl,h6.mark hK2,?_⟩
  exact (h2.grown hg2 h2.size (fun k e => by cases e; omega)).grown (Cm V2 D) (Nat.le_trans h2.size hg2.size) (fun k e => by cases e; omega)
 ·rintro D c pre V hD hS h hK
  exact h.elim
theorem indexf120 (A : Option Addr) (c : Nat) (l : List Int) (kf : Nat) (caps : List Value) (pr : Int → Bool) (w : World) (hC : Ag Tryz.prog kf) (hl : (Kd.int .u8).C w A l.length l) (hb : l.length ≤ 1000000)
  (hf : ∀ x ∈ l,∀ V,Below w.heap.size w V → Calls Tryz.prog kf (Value.int .u8 x :: caps).toArray V fun e V' => e = .returned (.bool (pr x)) ∧ Below V.heap.size V V') :
  Calls Tryz.prog 120 #[.slice A l.length c,.func (.func kf) #[] caps.toArray] w fun e w' => ∃ i : Int,e = .returned (.int .i64 i) ∧ (0 ≤ i ↔ ∃ x ∈ l,pr x = true) ∧ Below w.heap.size w w' := by
 refine enter 19 Tryz.func120 G G _ (by simp) ?_
 refine ai G<|ms G<|oln U26 G<|mi G<|lp (σ := Nat) (fun k => [(0,.slice A l.length c),(1,.func (.func kf) #[] caps.toArray),(7,.int .i64 l.length),(8,.int .i64 k)])
  (fun k V => k ≤ l.length ∧ Below w.heap.size w V ∧ ∀ x ∈ l.take k,pr x = false) (fun k => l.length - k) 0 ⟨rfl,rfl,rfl,rfl,rfl⟩ ⟨Nat.zero_le _,Below.refl _ _,by simp⟩ ?_
 rintro k f V ⟨hk,hB,hno⟩
 refine olt G G<|cdd G (fun hlt => ?_) (fun hge => ?_)
 ·have hkl : k < l.length := Int.ofNat_lt.1 hlt
  obtain ⟨m,hm⟩ : ∃ m,l[k]? = some m := ⟨_,gE hkl⟩
  obtain ⟨ad,rfl,hcell⟩ := Au hl hm
  have hcell := Ae hB hcell
  have hmem := List.mem_of_getElem? hm
  refine mi G<|ai G<|mf G<|ms G<|mi G<|AD U26 Z5 G G (by first | assumption | omega)<|old G5 G ‹_›<|?_
  refine cl hC caps G ((hf m hmem V hB).mono ?_)
  rintro e V1 ⟨rfl,hb1⟩
  refine ⟨_,rfl,?_⟩
  cases hp : pr m with
  | true =>
   refine cdt G<|mi G<|ai G<|?_
   exact rt1 rfl rfl ⟨k,rfl,⟨fun _ => ⟨m,hmem,hp⟩,fun _ => Int.natCast_nonneg _⟩,Ad hB hb1⟩
  | false =>
   refine cdf G<|oad G G (by first | assumption | omega)<|mi G<|?_
   refine ⟨k + 1,⟨rfl,rfl,rfl,rfl,rfl⟩,⟨hkl,Ad hB hb1,?_⟩,by omega⟩
   have htake : l.take (k + 1) = l.take k ++ [m] := by rw [List.take_succ_eq_append_getElem hkl]; rw [gE hkl] at hm; injection hm with hm; rw [hm]
   rw [htake]
   intro x hx
   rcases List.mem_append.1 hx with h | h
   ·exact hno x h
   ·rw [List.mem_singleton.1 h]; exact hp
 ·have : k = l.length := by omega
  rw [this,List.take_length] at hno
  refine ai G<|?_
  exact rt1 rfl rfl ⟨-1,rfl,⟨fun h => by omega,fun ⟨x,hx,hp⟩ => by rw [hno x hx] at hp; cases hp⟩,hB⟩
theorem FY (A : Option Addr) (c : Nat) (l : List Int) (kf : Nat) (caps : List Value) (pr : Int → Bool) (w : World) (hC : Ag Tryz.prog kf) (hl : (Kd.int .u8).C w A l.length l) (hb : l.length ≤ 1000000)
  (hf : ∀ x ∈ l,∀ V,Below w.heap.size w V → Calls Tryz.prog kf (Value.int .u8 x :: caps).toArray V fun e V' => e = .returned (.bool (pr x)) ∧ Below V.heap.size V V') :
  Calls Tryz.prog 78 #[.slice A l.length c,.func (.func kf) #[] caps.toArray] w fun e w' => e = .returned (.bool (l.any pr)) ∧ Below w.heap.size w w' := by
 refine enter 9 Tryz.func78 G G _ (by simp) ?_
 refine ab G<|ms G<|mf G<|cl C120 [] G ((indexf120 A c l kf caps pr w hC hl hb hf).mono ?_)
 rintro e w1 ⟨i,rfl,hi,hb1⟩
 refine ⟨_,rfl,?_⟩
 refine oge G G<|ab G<|rt1 G G ⟨?_,hb1⟩
 have : decide (0 ≤ i) = l.any pr := by
  rw [Bool.eq_iff_iff,decide_eq_true_eq,hi,List.any_eq_true]
 rw [← this]; rfl
def Cn (v : Nat) (x : Int) : Bool := decide ((2 ^ v : Nat) ≤ x)
theorem word110 (n : Na) (hn : n.Ok) (SA FA EA : Option Addr) (cs cf ce b : Nat) (x : Int) (hx : 0 ≤ x ∧ x ≤ 255) (w : World) (hb : w.heap[b]? = some (.cells (n.vals SA FA EA cs cf ce).toArray 25 (0,0))) :
  Calls Tryz.prog 110 #[.int .u8 x,.pointer (some ⟨b,0,none⟩)] w fun e w' => e = .returned (.bool (Cn n.vars x)) ∧ Below w.heap.size w w' := by
 obtain ⟨y,rfl⟩ : ∃ y : Nat,x = y := ⟨x.toNat,by omega⟩
 have h64 : 2 ^ n.vars ≤ 64 := Nat.pow_le_pow_right (n := 2) (by decide) hn.v
 have hv := hn.v
 have hy : y < 2 ^ (IntKind.bits .i64 - 1) := Nat.lt_of_le_of_lt (by omega : y ≤ 255) (by decide)
 have hsh : 1 * 2 ^ n.vars < 2 ^ (IntKind.bits .i64 - 1) := by rw [Nat.one_mul]; exact Nat.lt_of_le_of_lt h64 (by decide)
 have hvb : n.vars < IntKind.bits .i64 := by show n.vars < 64; omega
 have hc0 : w.cell? ⟨b,0 + 0,none⟩ = some (.int .i64 (n.vars : Nat)) := (Ac hb 0).trans rfl
 refine enter 10 Tryz.func110 G G _ (by simp) ?_
 refine ab G<|mi G<|CU UI5 UI3 G (by first | assumption | decide | omega)<|ofa DQ G<|old G3 G ‹_›<|?_
 refine I8 (a := 1) (b := n.vars) G G hvb hsh<|oge G G<|ab G<|rt1 G G ⟨?_,Below.refl _ _⟩
 have e : decide (((1 * 2 ^ n.vars : Nat) : Int) ≤ (y : Nat)) = Cn n.vars y := by rw [Nat.one_mul]; rfl
 rw [← e]; rfl
theorem Kl (n : Na) (hn : n.Ok) (SA FA EA : Option Addr) (cs cf ce : Nat) (A : Option Addr) (c : Nat) (l : List Int) (w : World) (hl : (Kd.int .u8).C w A l.length l) (hb : l.length ≤ 64) (hx : ∀ x ∈ l,0 ≤ x ∧ x ≤ 255) :
  Calls Tryz.prog 71 #[.agg (n.vals SA FA EA cs cf ce).toArray,.slice A l.length c] w fun e w' => e = .returned (.int .i64 (if l.any (Cn n.vars) = true then 1 else 0)) ∧ Below w.heap.size w w' := by
 refine enter 13 Tryz.func71 G G _ (by simp) ?_
 refine obx (cs := n.vals SA FA EA cs cf ce) G G ?_
 intro b w1 hbe hbb hb1
 refine ai G<|ms G<|oln U26 G<|ogt G G<|isf (by omega)<|ab G<|?_
 refine cdf G<|ms G<|pl (.func (.func 110) #[] #[.pointer (some ⟨b,0,none⟩)]) (fun _ => by kernel_rfl)<|cl C78 [] G ((FY A c l 110 [.pointer (some ⟨b,0,none⟩)] (Cn n.vars) w1 ⟨_,Tryz.func110,by kernel_rfl,by kernel_rfl⟩ (Kd.C_below hl hb1) (by omega) (fun x hx' V hV => word110 n hn SA FA EA cs cf ce b x (hx x hx') V (Ab hbb hV))).mono ?_)
 rintro e w2 ⟨rfl,hb2⟩
 refine ⟨_,rfl,?_⟩
 refine ab G<|?_
 cases hbad : l.any (Cn n.vars) with
 | true =>
  refine cdt G<|ai G<|?_
  exact rt1 rfl rfl ⟨rfl,Ad hb1 hb2⟩
 | false =>
  refine cdf G<|ai G<|?_
  exact rt1 rfl rfl ⟨rfl,Ad hb1 hb2⟩
theorem J5 (n : Na) (hn : n.Ok) (SA FA EA : Option Addr) (cs cf ce x s bx : Nat) (u : Value) (w : World) (hr : NR n w SA FA EA) (hx : x < 2 ^ n.vars) (hs : s < 4611686018427387904) (hu : SetB w bx u s) :
  Calls Tryz.prog 34 #[.agg (n.vals SA FA EA cs cf ce).toArray,u,.int .u8 (x : Nat)] w fun e w' => ∃ r,e = .returned (.tuple #[r,.int .i64 0]) ∧ SetB w' w.heap.size r (n.step s x) ∧ Below w.heap.size w w' := by
 have h64 : 2 ^ n.vars ≤ 64 := Nat.pow_le_pow_right (n := 2) (by decide) hn.v
 obtain ⟨A,m,c,rfl,hmc,hor⟩ := id hu
 refine enter 24 Tryz.func34 G G _ (by simp) ?_
 refine obx (cs := n.vals SA FA EA cs cf ce) G G ?_
 intro b w1 hbe hbb hb1
 refine asl G<|ai G<|AV (vs := n.vals SA FA EA cs cf ce) G25 S25 G (Ak hbb)<|cl C30 [] G ((Gh n hn SA FA EA cs cf ce w1 (hr.below hb1)).mono ?_)
 rintro e w2 ⟨rfl,hb2⟩
 refine ⟨_,rfl,?_⟩
 have hbb := Ab hbb hb2
 have hB := Ad hb1 hb2
 refine ai G<|mi G<|oeq G G<|ist (by omega)<|?_
 refine cut (σ := Unit) (fun _ => [(1,.slice A m c),(2,.int .u8 (x : Nat)),(3,.pointer (some ⟨b,0,none⟩)),(8,.int .i64 0)]) (fun _ V => Below w.heap.size w V ∧ V.heap[b]? = some (.cells (n.vals SA FA EA cs cf ce).toArray 25 (0,0))) (by repeat' (first | exact BB | exact BD | exact Bl | refine Bi ?_ ?_ | refine Bk ?_ | refine Bj ?_ | refine AX _ ?_)) ?_ ?_
 ·refine cdt G<|AV (vs := n.vals SA FA EA cs cf ce) G25 S25 G (Ak hbb)<|mi G<|BV (Kd.int .u8) w2.heap.size (p := (x : Int)) (okp := fun _ => True) (AJ (u := .int .u8 (x : Nat)) U26 I5 G G) G G (Nat.le_refl _) ?_
  intro B c' w3 hR hb3
  refine cl C71 [] G ((Kl n hn SA FA EA cs cf ce B c' [(x : Int)] w3 (Kd.R_reads' hR).2.2 (by simp) (by simp; omega)).mono ?_)
  rintro e w4 ⟨rfl,hb4⟩
  refine ⟨_,rfl,?_⟩
  have hgood : (if ([(x : Int)].any (Cn n.vars)) = true then (1 : Int) else 0) = 0 := by
   have : Cn n.vars x = false := by unfold Cn; simp only [decide_eq_false_iff_not]; omega
   simp [this]
  rw [hgood]
  refine ai G<|?_
  exact ⟨(),⟨rfl,rfl,rfl,rfl,rfl⟩,Ad (Ad hB hb3) hb4,Ab (Ab hbb hb3) hb4⟩
 ·rintro _ f V ⟨hB,hbb⟩
  refine mi G<|one G G<|isf (by omega)<|?_
  refine cdf G<|AV (vs := n.vals SA FA EA cs cf ce) G25 S25 G (Ak hbb)<|ms G<|mi G<|cl C72 [] G ((J4 n hn SA FA EA cs cf ce x s bx _ V (hr.below hB) (by omega) hs (hu.below hB)).mono ?_)
  rintro e w5 ⟨r,rfl,hr5,hb5⟩
  obtain ⟨A5,m5,c5,rfl,_,_⟩ := id hr5
  refine ⟨_,rfl,?_⟩
  refine asl G<|ai G<|?_
  exact rt2 rfl rfl rfl ⟨_,rfl,hr5.lower hB.size,Ad hB hb5⟩
def Na.run (n : Na) (l : List Int) : Nat := l.foldl (fun s x => n.step s x.toNat) (AR n.start)
theorem Asc.small {s : Nat} {l : List Int} (h : Asc s l) (hs : s ≤ 61) : ∀ k ∈ l,0 ≤ k ∧ k < 62 := fun k hk => by have := h.bnd k hk; omega
theorem Na.run_lt {n : Na} (hn : n.Ok) (l : List Int) : n.run l < 4611686018427387904 := by
 unfold Na.run
 suffices ∀ (l : List Int) (s : Nat),s < 4611686018427387904 → l.foldl (fun s x => n.step s x.toNat) s < 4611686018427387904 from this l _ (D9 (hn.start.small hn.s))
 intro l
 induction l with
 | nil => exact fun s h => h
 | cons x l ih =>
  intro s _
  exact ih _ (Nat.lt_of_lt_of_le (Na.step_lt hn s _) (Nat.le_trans (Nat.pow_le_pow_right (by decide) hn.s) (by decide)))
theorem run41 (n : Na) (hn : n.Ok) (SA FA EA : Option Addr) (cs cf ce : Nat) (A : Option Addr) (c : Nat) (l : List Int) (w : World) (hr : NR n w SA FA EA) (hl : (Kd.int .u8).C w A l.length l) (hb : l.length ≤ 64) (hx : ∀ x ∈ l,0 ≤ x ∧ x ≤ 255) :
  Calls Tryz.prog 41 #[.agg (n.vals SA FA EA cs cf ce).toArray,.slice A l.length c] w fun e w' => ∃ r,Below w.heap.size w w' ∧ ((l.any (Cn n.vars) = true ∧ r = .slice none 0 0 ∧ e = .returned (.tuple #[r,.int .i64 1])) ∨ (l.any (Cn n.vars) = false ∧ e = .returned (.tuple #[r,.int .i64 0]) ∧ SetB w' w.heap.size r (n.run l))) := by
 refine enter 35 Tryz.func41 G G _ (by simp) ?_
 refine obx (cs := n.vals SA FA EA cs cf ce) G G ?_
 intro b w1 hbe hbb hb1
 refine asl G<|ai G<|AV (vs := n.vals SA FA EA cs cf ce) G25 S25 G (Ak hbb)<|cl C30 [] G ((Gh n hn SA FA EA cs cf ce w1 (hr.below hb1)).mono ?_)
 rintro e w2 ⟨rfl,hb2⟩
 refine ⟨_,rfl,?_⟩
 have hbb := Ab hbb hb2
 have hB := Ad hb1 hb2
 refine ai G<|mi G<|oeq G G<|ist (by omega)<|?_
 refine cut (σ := Unit) (fun _ => [(1,.slice A l.length c),(2,.pointer (some ⟨b,0,none⟩)),(6,.int .i64 (if l.any (Cn n.vars) = true then 1 else 0))]) (fun _ V => Below w.heap.size w V ∧ V.heap[b]? = some (.cells (n.vals SA FA EA cs cf ce).toArray 25 (0,0))) (by repeat' (first | exact BB | exact BD | exact Bl | refine Bi ?_ ?_ | refine Bk ?_ | refine Bj ?_ | refine AX _ ?_)) ?_ ?_
 ·refine cdt G<|AV (vs := n.vals SA FA EA cs cf ce) G25 S25 G (Ak hbb)<|ms G<|cl C71 [] G ((Kl n hn SA FA EA cs cf ce A c l w2 (Kd.C_below hl hB) hb hx).mono ?_)
  rintro e w4 ⟨rfl,hb4⟩
  refine ⟨_,rfl,?_⟩
  refine ai G<|?_
  exact ⟨(),⟨rfl,rfl,rfl,rfl⟩,Ad hB hb4,Ab hbb hb4⟩
 ·rintro _ f V ⟨hB,hbb⟩
  cases hbad : l.any (Cn n.vars) with
  | true =>
   refine mi G<|one G G<|ist (by rw [if_pos rfl]; decide) ?_
   refine cdt G<|mi G<|asl G<|ai G<|?_
   exact rt2 rfl rfl rfl ⟨_,hB,.inl ⟨rfl,rfl,rfl⟩⟩
  | false =>
   refine mi G<|one G G<|isf (by simp) ?_
   refine cdf G ?_
   have hc2 : V.cell? ⟨b,0 + 2,none⟩ = some (.slice SA n.start.length cs) := (Ac hbb 2).trans rfl
   have hsl := hn.start.length
   have hns := hn.s
   refine ofa EG G<|old G22 G ‹_›<|cl C31 [] G ((K5 SA cs n.start V (hr.below hB).start (hn.start.small hn.s) (by omega)).mono ?_)
   rintro e w5 ⟨r,rfl,hr5,hb5⟩
   obtain ⟨A5,m5,c5,rfl,_,_⟩ := id hr5
   refine ⟨_,rfl,?_⟩
   refine asl G<|ms G<|oln U26 G<|mi G<|lp (σ := Nat × Value) (fun q => [(2,.pointer (some ⟨b,0,none⟩)),(7,q.2),(23,.slice A l.length c),(24,.int .i64 l.length),(25,.int .i64 q.1)])
    (fun q U => q.1 ≤ l.length ∧ Below w.heap.size w U ∧ U.heap[b]? = some (.cells (n.vals SA FA EA cs cf ce).toArray 25 (0,0)) ∧ SetB U w.heap.size q.2 (n.run (l.take q.1))) (fun q => l.length - q.1) (0,.slice A5 m5 c5) ⟨rfl,rfl,rfl,rfl,rfl,rfl⟩ ⟨Nat.zero_le _,Ad hB hb5,Ab hbb hb5,hr5.lower hB.size⟩ ?_
   clear hr5 hb5 hc2 hB hbb
   rintro ⟨k,u⟩ f U ⟨hk,hB,hbb,hu⟩
   simp only at hk hu
   obtain ⟨A6,m6,c6,rfl,_,_⟩ := id hu
   refine olt G G<|cdd G (fun hlt => ?_) (fun hge => ?_)
   ·have hkl : k < l.length := Int.ofNat_lt.1 hlt
    obtain ⟨m,hm⟩ : ∃ m,l[k]? = some m := ⟨_,gE hkl⟩
    obtain ⟨ad,rfl,hcell⟩ := Au hl hm
    have hcell := Ae hB hcell
    have hmr := hx m (List.mem_of_getElem? hm)
    have hgood : Cn n.vars m = false := by
     cases h : Cn n.vars m with
     | false => rfl
     | true => rw [List.any_eq_false] at hbad; exact absurd h (hbad m (List.mem_of_getElem? hm))
    obtain ⟨y,rfl⟩ : ∃ y : Nat,m = y := ⟨m.toNat,by omega⟩
    have h64 : 2 ^ n.vars ≤ 64 := Nat.pow_le_pow_right (n := 2) (by decide) hn.v
    have hy : y < 2 ^ n.vars := by unfold Cn at hgood; simp only [decide_eq_false_iff_not] at hgood; omega
    refine AD U26 Z5 G G (by first | assumption | omega)<|old G5 G ‹_›<|ai G<|?_
    refine AV (vs := n.vals SA FA EA cs cf ce) G25 S25 G (Ak hbb)<|ms G<|mi G<|cl C72 [] G ((J4 n hn SA FA EA cs cf ce y _ w.heap.size _ U (hr.below hB) (by omega) (Na.run_lt hn _) hu).mono ?_)
    rintro e U1 ⟨r,rfl,hr7,hb7⟩
    obtain ⟨A7,m7,c7,rfl,_,_⟩ := id hr7
    refine ⟨_,rfl,?_⟩
    refine asl G<|oad G G (by first | assumption | omega)<|mi G<|?_
    refine ⟨(k + 1,.slice A7 m7 c7),⟨rfl,rfl,rfl,rfl,rfl,rfl⟩,⟨hkl,Ad hB hb7,Ab hbb hb7,?_⟩,by dsimp only; omega⟩
    have htake : l.take (k + 1) = l.take k ++ [(y : Int)] := by rw [List.take_succ_eq_append_getElem hkl]; rw [gE hkl] at hm; injection hm with hm; rw [hm]
    have : n.run (l.take (k + 1)) = n.step (n.run (l.take k)) y := by unfold Na.run; rw [htake,List.foldl_append]; rfl
    rw [this]
    exact hr7.lower hB.size
   ·have : k = l.length := by omega
    rw [this,List.take_length] at hu
    refine ms G<|asl G<|ai G<|?_
    exact rt2 rfl rfl rfl ⟨_,hB,.inr ⟨rfl,rfl,hu⟩⟩
theorem HL (n : Na) (hn : n.Ok) (SA FA EA : Option Addr) (cs cf ce : Nat) (A : Option Addr) (c : Nat) (l : List Int) (w : World) (hr : NR n w SA FA EA) (hl : (Kd.int .u8).C w A l.length l) (hb : l.length ≤ 64) (hx : ∀ x ∈ l,0 ≤ x ∧ x ≤ 255) :
  Calls Tryz.prog 10 #[.agg (n.vals SA FA EA cs cf ce).toArray,.slice A l.length c] w fun e w' => Below w.heap.size w w' ∧ ((l.any (Cn n.vars) = true ∧ e = .returned (.tuple #[.bool false,.int .i64 1])) ∨ (l.any (Cn n.vars) = false ∧ e = .returned (.tuple #[.bool (decide (n.run l &&& AR n.fin ≠ 0)),.int .i64 0]))) := by
 have hsl := hn.fin.length
 have hns := hn.s
 refine enter 24 Tryz.func10 G G _ (by simp) ?_
 refine obx (cs := n.vals SA FA EA cs cf ce) G G ?_
 intro b w1 hbe hbb hb1
 refine ab G<|ai G<|AV (vs := n.vals SA FA EA cs cf ce) G25 S25 G (Ak hbb)<|ms G<|cl C41 [] G ((run41 n hn SA FA EA cs cf ce A c l w1 (hr.below hb1) (Kd.C_below hl hb1) hb hx).mono ?_)
 rintro e w2 ⟨r,hb2,⟨hbad,rfl,rfl⟩ | ⟨hbad,rfl,hr2⟩⟩
 ·refine ⟨_,rfl,?_⟩
  refine mv G<|oex G G<|oex G G<|asl G<|ai G<|mi G<|oeq G G<|isf (by omega)<|mb G<|gof G<|gof G<|gof G<|gof G<|gof G<|pfb G G<|mi G<|ab G<|ai G<|?_
  exact rt2 rfl rfl rfl ⟨Ad hb1 hb2,.inl ⟨hbad,rfl⟩⟩
 ·obtain ⟨A2,m2,c2,rfl,_,_⟩ := id hr2
  refine ⟨_,rfl,?_⟩
  have hbb := Ab hbb hb2
  have hB := Ad hb1 hb2
  have hc3 : w2.cell? ⟨b,0 + 3,none⟩ = some (.slice FA n.fin.length cf) := (Ac hbb 3).trans rfl
  refine mv G<|oex G G<|oex G G<|asl G<|ai G<|mi G<|oeq G G<|ist (by omega)<|mb G<|gon G<|ms G<|gon G<|ofa Fl G<|gon G<|old G22 G ‹_›<|?_
  refine gon G<|cl C31 [] G ((K5 FA cf n.fin w2 (hr.below hB).fin (hn.fin.small hn.s) (by omega)).mono ?_)
  rintro e w3 ⟨r3,rfl,hr3,hb3⟩
  obtain ⟨A3,m3,c3,rfl,_,_⟩ := id hr3
  refine ⟨_,rfl,?_⟩
  refine gon G<|cl C36 [] G ((DZ _ _ (n.run l) (AR n.fin) w1.heap.size _ w3 (hr2.below hb3) hr3 (Na.run_lt hn l) (D9 (hn.fin.small hn.s))).mono ?_)
  rintro e w4 ⟨rfl,hb4⟩
  refine ⟨_,rfl,?_⟩
  refine ptb G G<|mi G<|ab G<|ai G<|?_
  exact rt2 rfl rfl rfl ⟨Ad (Ad hB hb3) hb4,.inr ⟨hbad,rfl⟩⟩
end
end Go.Proofs.YtmjllchdhcdinaaGreatDoor

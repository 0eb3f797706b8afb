/- Part of the proof: K G1 G2 G3 Z1 Z2 Z3 Z4 Z5 ZH. -/
import Derived.Test.YtmjllchdhcdinaaGreatDoorX03
import Derived.Laws.CopyRow
set_option linter.unusedVariables false
set_option linter.unusedSimpArgs false
set_option maxRecDepth 100000
set_option maxHeartbeats 8000000
namespace Go.Proofs.YtmjllchdhcdinaaGreatDoor
section
open Go Fm Go.RowKit Go.Proofs.YtmjllchdhcdinaaGreatDoorW.PrintWords
section
variable {n : Nat} {P : Program}
def Rs (Q : Bd n) : Prop := ∀ e (f g : Fm n) W,EW f g → Q e f W → Q e g W
def Rk (K : Fm n → World → Prop) : Prop := ∀ (f g : Fm n) W,EW f g → K f W → K g W
theorem Hs {f g : Fm n} (h : EW f g) : EW g f := ⟨h.1.symm,h.2.symm⟩
theorem ex_like {f g : Fm n} (h : EW f g) (x : Operand) : ex f x = ex g x := by rw [← Ba,← Ba,CS h]
theorem Bi {K : Fm n → World → Prop} {Q : Bd n} (hK : Rk K) (hQ : Rs Q) : Rs (thn K Q) := fun e f g W h q => by
 cases e with
 | normal => exact hK f g W h q
 | _ => exact hQ _ f g W h q
theorem Bk {i : Nat} {Q : Bd n} (hQ : Rs Q) : Rs (blk i Q) := fun e f g W h q => by
 cases e with
 | exit j =>
  have q' : bif Nat.beq j i then Q .normal f W else Q (.exit j) f W := q
  show bif Nat.beq j i then Q .normal g W else Q (.exit j) g W
  revert q'
  cases Nat.beq j i with
  | true => exact hQ _ f g W h
  | false => exact hQ _ f g W h
 | _ => exact hQ _ f g W h q
theorem Bj {Q : Bd n} (hQ : Rs Q) : Rs (noG Q) := fun e f g W h q => by
 cases e with
 | goto j => exact q
 | _ => exact hQ _ f g W h q
theorem BB {fn : Func} {R : Ending → World → Prop} : Rs (bp (n := n) P fn R) := fun e f g W h q => by
 cases e with
 | normal => exact ⟨by rw [← h.1,← h.2]; exact RT.out q⟩
 | ret => exact ⟨by rw [← h.1,← h.2]; exact RT.out q⟩
 | _ => exact q
theorem Bl {σ : Type} {d : List Deferred} {S : σ → List (Nat × Value)} {J : σ → World → Prop} : Rk (n := n) fun f W => ∃ s,has f d (S s) ∧ J s W := fun _ _ _ h ⟨s,a,b⟩ => ⟨s,Ei (Hs h) _ a,b⟩
theorem BD {σ : Type} {d : List Deferred} {S : σ → List (Nat × Value)} {J : σ → World → Prop} {M : σ → Prop} : Rk (n := n) fun f W => ∃ s,has f d (S s) ∧ J s W ∧ M s := fun _ _ _ h ⟨s,a,b⟩ => ⟨s,Ei (Hs h) _ a,b⟩
theorem LS_like {ops : Array Oper} {Q : Bd n} {o : Oper} {rest : List Oper} {f g : Fm n} {W : World} (h : EW f g) (q : LS P ops Q o rest f W) : LS P ops Q o rest g W := ⟨by rw [← CS h]; exact q.out⟩
theorem RL_like {ops : Array Oper} {Q : Bd n} (hQ : Rs Q) : ∀ {l : List Oper} {f g : Fm n} {W : World},EW f g → RL P ops Q l f W → RL P ops Q l g W
 | [],f,g,W,h,q => hQ _ f g W h q
 | _ :: _,_,_,_,h,q => LS_like h q
theorem Fq {c : Code} {Q : Bd n} {f g : Fm n} {W : World} (h : EW f g) (q : CW P c Q f W) : CW P c Q g W := ⟨by rw [← CS h]; exact q.out⟩
theorem AX : ∀ (c : Code) {Q : Bd n},Rs Q → Rk (wpc P c Q)
 | .skip,Q,hQ => fun f g W h q => hQ _ f g W h q
 | .region _ ops false,Q,hQ => fun f g W h q => RL_like hQ h q
 | .seq a b,Q,hQ => AX a (Bi (AX b hQ) hQ)
 | .cond c a b,Q,hQ => fun f g W h q => by
  obtain ⟨t,hc,hh⟩ := CD.out q
  refine ⟨t,by rw [← ex_like h]; exact hc,?_⟩
  cases t with
  | true => exact AX a hQ f g W h (by simpa using hh)
  | false => exact AX b hQ f g W h (by simpa using hh)
 | .block i b,Q,hQ => AX b (Bk hQ)
 | .exit i,Q,hQ => fun f g W h q => hQ _ f g W h q
 | .ret,Q,hQ => fun f g W h q => hQ _ f g W h q
 | .label _,Q,hQ => fun f g W h q => hQ _ f g W h q
 | .scope b,Q,hQ => AX b (Bj hQ)
 | .region _ _ true,_,_ => fun _ _ _ h q => Fq h q
 | .loop _,_,_ => fun _ _ _ h q => Fq h q
 | .rangeFunc ..,_,_ => fun _ _ _ h q => Fq h q
 | .goto _,_,_ => fun _ _ _ h q => Fq h q
 | .refuse _,_,_ => fun _ _ _ h q => Fq h q
theorem Fp {c : Code} {Q Q' : Bd n} {f : Fm n} {W : World} (hq : ∀ e f W,Q e f W → Q' e f W) (h : CW P c Q f W) : CW P c Q' f W := ⟨Code.wp_mono (fun e _ w ⟨g,h1,h2⟩ => ⟨g,h1,hq e g w h2⟩) h.out⟩
theorem wpList_mono {ops : Array Oper} {Q Q' : Bd n} (hq : ∀ e f W,Q e f W → Q' e f W) : ∀ (l : List Oper) (a : Act) (w : World),wpList P ops (Cd Q) l a w → wpList P ops (Cd Q') l a w := by
 have hl : ∀ e a w,Cd Q e a w → Cd Q' e a w := fun e a w ⟨g,h1,h2⟩ => ⟨g,h1,hq _ _ _ h2⟩
 intro l
 induction l with
 | nil => exact fun a w h => hl _ _ _ h
 | cons o l ih =>
  intro a w h
  unfold wpList at h ⊢
  split
  ·rename_i hw
   rw [if_pos hw] at h
   rcases h with h | ⟨h1,a',w',h2⟩
   ·refine .inl ?_
    have h := Oper.wp_mono (K' := wpList P ops (Cd Q') l) ih h
    unfold Oper.wp at h ⊢
    revert h
    generalize (execOp a.eval o).run P w = r
    cases r with
    | ok x w =>
     cases x with
     | enter k args =>
      intro h
      refine Calls.mono h ?_
      intro e w'
      cases e with
      | returned v => exact id
      | panicked ch => exact hl _ _ _
      | outgrown => exact fun ⟨a,w,h2⟩ => ⟨a,w,hl _ _ _ h2⟩
     | _ => exact id
    | halt x w => cases x <;> first | exact id | exact hl _ _ _
   ·exact .inr ⟨h1,a',w',hl _ _ _ h2⟩
  ·rename_i hw
   rw [if_neg hw] at h
   exact ih _ _ h
theorem RL_mono {ops : Array Oper} {Q Q' : Bd n} (hq : ∀ e f W,Q e f W → Q' e f W) : ∀ (l : List Oper) (f : Fm n) (W : World),RL P ops Q l f W → RL P ops Q' l f W
 | [],_,_ => hq _ _ _
 | _ :: _,_,_ => fun h => ⟨wpList_mono hq _ _ _ (LS.out h)⟩
theorem Dh : ∀ (c : Code) (Q Q' : Bd n),(∀ e f W,Q e f W → Q' e f W) → ∀ (f : Fm n) (W : World),wpc P c Q f W → wpc P c Q' f W
 | .skip,_,_ => fun hq _ _ => hq _ _ _
 | .region _ ops false,_,_ => fun hq f W => RL_mono hq ops.toList f W
 | .seq a b,Q,Q' => fun hq f W => Dh a _ _ (fun e f W q => by
   cases e with
   | normal => exact Dh b _ _ hq _ _ q
   | _ => exact hq _ _ _ q) f W
 | .cond c a b,_,_ => fun hq f W h => by
  obtain ⟨t,hc,hh⟩ := CD.out h
  refine ⟨t,hc,?_⟩
  cases t with
  | true => simp only [if_true] at hh ⊢; exact Dh a _ _ hq _ _ hh
  | false => simp only [Bool.false_eq_true,if_false] at hh ⊢; exact Dh b _ _ hq _ _ hh
 | .block i b,Q,Q' => fun hq f W => Dh b _ _ (fun e f W q => by
   cases e with
   | exit j =>
    have q' : bif Nat.beq j i then Q .normal f W else Q (.exit j) f W := q
    show bif Nat.beq j i then Q' .normal f W else Q' (.exit j) f W
    revert q'
    cases Nat.beq j i with
    | true => exact hq _ f W
    | false => exact hq _ f W
   | _ => exact hq _ _ _ q) f W
 | .exit _,_,_ => fun hq _ _ => hq _ _ _
 | .ret,_,_ => fun hq _ _ => hq _ _ _
 | .label _,_,_ => fun hq _ _ => hq _ _ _
 | .scope b,_,_ => fun hq f W => Dh b _ _ (fun e f W q => by
   cases e with
   | goto l => exact q
   | _ => exact hq _ _ _ q) f W
 | .region _ _ true,_,_ => fun hq _ _ => Fp hq
 | .loop _,_,_ => fun hq _ _ => Fp hq
 | .rangeFunc ..,_,_ => fun hq _ _ => Fp hq
 | .goto _,_,_ => fun hq _ _ => Fp hq
 | .refuse _,_,_ => fun hq _ _ => Fp hq
theorem cut {σ : Type} {a b : Code} {Q : Bd n} {f : Fm n} {W : World} (S : σ → List (Nat × Value)) (J : σ → World → Prop) (hQ : Rs Q) (h : wpc P a (thn (fun g W => ∃ s,has g f.ds (S s) ∧ J s W) Q) f W)
  (k : ∀ s (g : Fm n) W,J s W → wpc P b Q (ups (re g f.ds) (S s)) W) : wpc P (.seq a b) Q f W :=
 Dh a _ _ (fun e f W q => by
  cases e with
  | normal =>
   obtain ⟨s,h1,h2⟩ := q
   exact AX b hQ _ _ W (BS _ _ h1) (k s f W h2)
  | _ => exact q) f W h
end
section
variable {n : Nat} {P : Program} {ops : Array Oper} {rest : List Oper} {Q : Bd n} {W : World} {f : Fm n} {ty t : TypeId} {x y : Operand} {pos : String} {aft : Array Edge}
theorem ru_storeA {g o tt : Nat} {cs vs : List Value} {v : Value} (hsz : ∀ w,(sizeOf t).run P w = .ok vs.length w) (ha : ex f x = .pointer (some ⟨g,o,none⟩)) (hv : ex f y = v) (hcs : v.cells = vs.toArray) (h1 : ∀ u ∈ vs,u.oneCell' = true) (hb : W.heap[g]? = some (.cells cs.toArray tt (0,0))) (ho : o + vs.length ≤ cs.length) :
  ∃ w1,Ru P (.store t x y) ty f W = .ok .skip w1 ∧ w1.heap[g]? = some (.cells (cs.take o ++ vs ++ cs.drop (o + vs.length)).toArray tt (0,0)) ∧ W.grownBy w1 (some g) := by
 have hs := run_storeCells_at (P := P) g o tt vs 0 cs.toArray W hb (by simpa using ho) h1
 refine ⟨W.setRow g (cs.take o ++ vs ++ cs.drop (o + vs.length)).toArray,?_,?_,?_⟩
 ·show (do (Instr.storeAt t (ex f x) (ex f y)); pure Next.skip : Sem Next).run P W = _
  rw [ha,hv]
  unfold Instr.storeAt storeVar
  simp only [hcs,Instr.sureAddr]
  simp only [Nat.add_zero] at hs
  simp [hsz,hs,go_sem]
 ·simp only [World.setRow,Array.getElem?_modify,hb,if_true,Option.map_some]
 ·refine ⟨rfl,rfl,rfl,by simp [World.setRow],fun k hk hne => ?_⟩
  have : g ≠ k := fun e => hne (by rw [e])
  simp [World.setRow,Array.getElem?_modify,this]
theorem Bo {g o tt : Nat} {cs vs : List Value} {v : Value} (hsz : ∀ w,(sizeOf t).run P w = .ok vs.length w) (ha : ex f x = .pointer (some ⟨g,o,none⟩)) (hv : ex f y = v) (hcs : v.cells = vs.toArray) (h1 : ∀ u ∈ vs,u.oneCell' = true) (hb : W.heap[g]? = some (.cells cs.toArray tt (0,0))) (ho : o + vs.length ≤ cs.length)
  (h : ∀ w1,w1.heap[g]? = some (.cells (cs.take o ++ vs ++ cs.drop (o + vs.length)).toArray tt (0,0)) → W.grownBy w1 (some g) → RL P ops Q rest f w1) : LS P ops Q ⟨none,.store t x y,ty,pos,aft,none⟩ rest f W := by
 obtain ⟨w1,e,h2,h3⟩ := ru_storeA (ty := ty) hsz ha hv hcs h1 hb ho
 exact HV e (h w1 h2 h3)
theorem run_loadVarA {vs : List Value} {p : Addr} (hag : ∀ w,(isAgg t).run P w = .ok true w) (hsz : ∀ w,(sizeOf t).run P w = .ok vs.length w) (hc : ∀ j v,vs[j]? = some v → W.cell? (p.add j) = some v) : (loadVar t p).run P W = .ok (.agg vs.toArray) W := by
 have := B9 (P := P) W p vs 0 #[] (fun j v hj => by simpa using hc j v hj)
 unfold loadVar loadCells
 simp [hag,hsz,this,go_sem]
theorem Ak {g tt : Nat} {vs : List Value} (hb : W.heap[g]? = some (.cells vs.toArray tt (0,0))) : ∀ j v,vs[j]? = some v → W.cell? (Addr.add ⟨g,0,none⟩ j) = some v := fun j v hj => by
 rw [add_plain,Ac hb]; simpa using hj
variable {fn : Func} {R : Ending → World → Prop}
theorem rtc {p : Tmp} {g tt : Nat} {vs : List Value} (hr : fn.results = #[.cell p ty]) (hp : gt f p = .pointer (some ⟨g,0,none⟩)) (hb : W.heap[g]? = some (.cells vs.toArray tt (0,0))) (hag : ∀ w,(isAgg ty).run P w = .ok true w) (hsz : ∀ w,(sizeOf ty).run P w = .ok vs.length w)
  (h : R (.returned (.agg vs.toArray)) W) (hd : f.ds = [] := by rfl) : RT P fn R f W := rtv hd (v := .agg vs.toArray) (by
 have h1 := run_loadVarA (P := P) hag hsz (Ak hb)
 have h3 : f.toL[p]?.getD undef = .pointer (some ⟨g,0,none⟩) := by rw [← hp,B5,gD]
 simp [results,hr,h3,asAddr,h1]) h
theorem K2 {p u : Tmp} {g tt : Nat} {vs : List Value} {v : Value} (hr : fn.results = #[.cell p ty,.tmp u]) (hp : gt f p = .pointer (some ⟨g,0,none⟩)) (hu : gt f u = v) (hb : W.heap[g]? = some (.cells vs.toArray tt (0,0))) (hag : ∀ w,(isAgg ty).run P w = .ok true w) (hsz : ∀ w,(sizeOf ty).run P w = .ok vs.length w)
  (h : R (.returned (.tuple #[.agg vs.toArray,v])) W) (hd : f.ds = [] := by rfl) : RT P fn R f W := rtv hd (v := .tuple #[.agg vs.toArray,v]) (by
 have h3 : f.toL[p]?.getD undef = .pointer (some ⟨g,0,none⟩) := by rw [← hp,B5,gD]
 have h5 : f.toL[u]?.getD undef = v := by rw [← hu,B5,gD]
 have h6 := B9 (P := P) W ⟨g,0,none⟩ vs 0 #[] (fun j v hj => by simpa using Ak hb j v hj)
 simp [results,hr,h3,h5,asAddr,hag,hsz,h6,go_sem]) h
end
end
section
structure PGame where
 n : Nat
 own : Nat → Nat
 pri : Nat → Nat
 suc : Nat → List Nat
namespace PGame
def Good (g : PGame) (i : Nat) (φ : Nat → Nat → Nat) (v u : Nat) : Prop :=
 ∀ p,p % 2 ≠ i → g.pri v ≤ p → φ p u ≤ φ p v ∧ (g.pri v = p → φ p u < φ p v)
def Cert (g : PGame) (i : Nat) (A Z : Nat → Prop) (φ : Nat → Nat → Nat) : Prop :=
 ∀ v,Z v → A v ∧ (g.own v = i → ∃ u,u ∈ g.suc v ∧ Z u ∧ g.Good i φ v u) ∧
  (g.own v ≠ i → ∀ u,u ∈ g.suc v → A u → Z u ∧ g.Good i φ v u)
theorem exists_min (Q : Nat → Prop) (f : Nat → Nat) (h : ∃ v,Q v) : ∃ v,Q v ∧ ∀ u,Q u → f v ≤ f u := by
 obtain ⟨v,hv⟩ := h
 generalize hk : f v = k
 induction k using Nat.strongRecOn generalizing v with
 | ind k ih =>
  by_cases c : ∃ u,Q u ∧ f u < k
  ·obtain ⟨u,hu,hlt⟩ := c
   exact ih (f u) hlt u hu rfl
  ·refine ⟨v,hv,fun u hu => ?_⟩
   have : ¬ f u < k := fun h => c ⟨u,hu,h⟩
   omega
theorem cert_apart (g : PGame) (A Z0 Z1 : Nat → Prop) (φ0 φ1 : Nat → Nat → Nat) (h0 : g.Cert 0 A Z0 φ0) (h1 : g.Cert 1 A Z1 φ1)
  (hown : ∀ v,A v → g.own v = 0 ∨ g.own v = 1) (B : Nat) (hB : ∀ v,A v → g.pri v < B) :
  ∀ v,Z0 v → Z1 v → False := by
 have step : ∀ v,Z0 v → Z1 v → ∃ u,Z0 u ∧ Z1 u ∧ g.Good 0 φ0 v u ∧ g.Good 1 φ1 v u := by
  intro v a b
  obtain ⟨hA,a1,a2⟩ := h0 v a
  obtain ⟨_,b1,b2⟩ := h1 v b
  rcases hown v hA with e | e
  ·obtain ⟨u,hu,hz,hg⟩ := a1 e
   have hAu := (h0 u hz).1
   obtain ⟨z1,g1⟩ := b2 (by omega) u hu hAu
   exact ⟨u,hz,z1,hg,g1⟩
  ·obtain ⟨u,hu,hz,hg⟩ := b1 e
   have hAu := (h1 u hz).1
   obtain ⟨z1,g1⟩ := a2 (by omega) u hu hAu
   exact ⟨u,z1,hz,g1,hg⟩
 have key : ∀ p,∀ T : Nat → Prop,(∀ v,T v → g.pri v < p ∧ ∃ u,T u ∧ g.Good 0 φ0 v u ∧ g.Good 1 φ1 v u) → ∀ v,T v → False := by
  intro p
  induction p with
  | zero => intro T hT v hv; have := (hT v hv).1; omega
  | succ p ih =>
   intro T hT v hv
   have hf : ∃ f : Nat → Nat,∀ v u,g.pri v < p + 1 → g.Good 0 φ0 v u → g.Good 1 φ1 v u → f u ≤ f v ∧ (g.pri v = p → f u < f v) := by
    by_cases e : p % 2 = 0
    ·exact ⟨φ1 p,fun v u hv _ h => h p (by omega) (by omega)⟩
    ·exact ⟨φ0 p,fun v u hv h _ => h p (by omega) (by omega)⟩
   obtain ⟨f,hf⟩ := hf
   obtain ⟨m,hm,hmin⟩ := exists_min T f ⟨v,hv⟩
   refine ih (fun u => T u ∧ f u = f m) ?_ m ⟨hm,rfl⟩
   rintro u ⟨hu,hfu⟩
   obtain ⟨hp,x,hx,g0,g1⟩ := hT u hu
   obtain ⟨l1,l2⟩ := hf u x hp g0 g1
   have := hmin x hx
   refine ⟨?_,x,⟨hx,by omega⟩,g0,g1⟩
   by_cases c : g.pri u = p
   ·have := l2 c; omega
   ·omega
 intro v a b
 refine key B (fun v => Z0 v ∧ Z1 v) ?_ v ⟨a,b⟩
 rintro v ⟨a,b⟩
 obtain ⟨u,x,y,z,t⟩ := step v a b
 exact ⟨hB v (h0 v a).1,u,⟨x,y⟩,z,t⟩
def Arena (g : PGame) (A : Nat → Prop) : Prop := ∀ v,A v → v < g.n ∧ ∃ u,u ∈ g.suc v ∧ A u
structure Attr (g : PGame) (i : Nat) (A T O : Nat → Prop) (rk : Nat → Nat) : Prop where
 inn : ∀ v,O v → A v
 tgt : ∀ v,T v → O v
 won : ∀ v,O v → ¬ T v → (g.own v = i → ∃ u,u ∈ g.suc v ∧ A u ∧ O u ∧ rk u < rk v) ∧ (g.own v ≠ i → ∀ u,u ∈ g.suc v → A u → O u ∧ rk u < rk v)
 out : ∀ v,A v → ¬ O v → (g.own v = i → ∀ u,u ∈ g.suc v → A u → ¬ O u) ∧ (g.own v ≠ i → ∃ u,u ∈ g.suc v ∧ A u ∧ ¬ O u)
theorem Attr.arena {g : PGame} {i : Nat} {A T O : Nat → Prop} {rk : Nat → Nat} (h : g.Attr i A T O rk) (hA : g.Arena A) : g.Arena fun v => A v ∧ ¬ O v := by
 rintro v ⟨a,o⟩
 obtain ⟨hn,u,hu,au⟩ := hA v a
 refine ⟨hn,?_⟩
 obtain ⟨h1,h2⟩ := h.out v a o
 by_cases e : g.own v = i
 ·exact ⟨u,hu,au,h1 e u hu au⟩
 ·obtain ⟨x,hx,ax,ox⟩ := h2 e
  exact ⟨x,hx,ax,ox⟩
theorem GZ (f : Nat → Nat) (n : Nat) : ∃ M,∀ v,v < n → f v < M := by
 induction n with
 | zero => exact ⟨0,fun v h => by omega⟩
 | succ n ih =>
  obtain ⟨M,hM⟩ := ih
  refine ⟨M + f n + 1,fun v h => ?_⟩
  by_cases e : v = n
  ·subst e; omega
  ·have := hM v (by omega); omega
open Classical in
theorem cert_all (g : PGame) (i d : Nat) (A O Z : Nat → Prop) (rk : Nat → Nat) (φ : Nat → Nat → Nat) (hA : g.Arena A)
  (hd : ∀ v,A v → g.pri v ≤ d) (hi : d % 2 = i) (hO : g.Attr i A (fun v => A v ∧ g.pri v = d) O rk)
  (hZ : g.Cert i (fun v => A v ∧ ¬ O v) Z φ) (hall : ∀ v,A v → ¬ O v → Z v) : ∃ φ',g.Cert i A A φ' := by
 obtain ⟨M,hM⟩ := GZ rk g.n
 refine ⟨fun p v => if d < p then 0 else if g.pri v = d then 0 else if O v then rk v + 1 else M + 1 + φ p v,?_⟩
 have hsub : ∀ v u,A v → ¬ O v → A u → ¬ O u → g.Good i φ v u → g.Good i (fun p v => if d < p then 0 else if g.pri v = d then 0 else if O v then rk v + 1 else M + 1 + φ p v) v u := by
  intro v u av ov au ou hg p hp hpv
  have hv : g.pri v ≠ d := fun e => ov (hO.tgt v ⟨av,e⟩)
  have hu : g.pri u ≠ d := fun e => ou (hO.tgt u ⟨au,e⟩)
  have hvd := hd v av
  by_cases c : d < p
  ·simp only [c,if_true]
   exact ⟨Nat.le_refl _,fun e => by omega⟩
  ·simp only [c,hv,hu,ov,ou,if_false]
   obtain ⟨x,y⟩ := hg p hp hpv
   exact ⟨by omega,fun e => by have := y e; omega⟩
 have hinto : ∀ v u,A v → ¬ O v → A u → O u → g.Good i (fun p v => if d < p then 0 else if g.pri v = d then 0 else if O v then rk v + 1 else M + 1 + φ p v) v u := by
  intro v u av ov au ou p hp hpv
  have hv : g.pri v ≠ d := fun e => ov (hO.tgt v ⟨av,e⟩)
  have hvd := hd v av
  have hr := hM u (hA u au).1
  by_cases c : d < p
  ·simp only [c,if_true]
   exact ⟨Nat.le_refl _,fun e => by omega⟩
  ·simp only [c,hv,ov,ou,if_false,if_true]
   split <;> exact ⟨by omega,fun _ => by omega⟩
 have hdown : ∀ v u,A v → O v → g.pri v ≠ d → A u → O u → rk u < rk v → g.Good i (fun p v => if d < p then 0 else if g.pri v = d then 0 else if O v then rk v + 1 else M + 1 + φ p v) v u := by
  intro v u av ov hv au ou hlt p hp hpv
  have hvd := hd v av
  by_cases c : d < p
  ·simp only [c,if_true]
   exact ⟨Nat.le_refl _,fun e => by omega⟩
  ·simp only [c,hv,ov,ou,if_false,if_true]
   split <;> exact ⟨by omega,fun _ => by omega⟩
 have htop : ∀ v u,A v → g.pri v = d → A u → g.Good i (fun p v => if d < p then 0 else if g.pri v = d then 0 else if O v then rk v + 1 else M + 1 + φ p v) v u := by
  intro v u av hv au p hp hpv
  have c : d < p := by
   rcases Nat.lt_or_ge d p with h | h
   ·exact h
   ·exfalso; have : p = d := by omega
    subst this; exact hp hi
  simp only [c,if_true]
  exact ⟨Nat.le_refl _,fun e => by omega⟩
 intro v av
 refine ⟨av,fun e => ?_,fun e u hu au => ⟨au,?_⟩⟩
 ·by_cases hv : g.pri v = d
  ·obtain ⟨_,u,hu,au⟩ := hA v av
   exact ⟨u,hu,au,htop v u av hv au⟩
  ·by_cases ov : O v
   ·obtain ⟨u,hu,au,ou,hlt⟩ := (hO.won v ov (fun c => hv c.2)).1 e
    exact ⟨u,hu,au,hdown v u av ov hv au ou hlt⟩
   ·obtain ⟨_,h1,_⟩ := hZ v (hall v av ov)
    obtain ⟨u,hu,zu,hg⟩ := h1 e
    obtain ⟨⟨au,ou⟩,_⟩ := hZ u zu
    exact ⟨u,hu,au,hsub v u av ov au ou hg⟩
 ·by_cases hv : g.pri v = d
  ·exact htop v u av hv au
  ·by_cases ov : O v
   ·obtain ⟨ou,hlt⟩ := (hO.won v ov (fun c => hv c.2)).2 e u hu au
    exact hdown v u av ov hv au ou hlt
   ·by_cases ou : O u
    ·exact hinto v u av ov au ou
    ·obtain ⟨_,_,h2⟩ := hZ v (hall v av ov)
     exact hsub v u av ov au ou (h2 e u hu ⟨au,ou⟩).2
open Classical in
theorem cert_split (g : PGame) (i j : Nat) (A O T X L Zi Zj : Nat → Prop) (rk rk2 : Nat → Nat) (φx φj ψ : Nat → Nat → Nat) (hA : g.Arena A)
  (hown : ∀ v,A v → g.own v = i ∨ g.own v = j) (hO : g.Attr i A T O rk) (hX : g.Cert j (fun v => A v ∧ ¬ O v) X φx)
  (hL : g.Attr j A X L rk2) (hZj : g.Cert j (fun v => A v ∧ ¬ L v) Zj φj) (hZi : g.Cert i (fun v => A v ∧ ¬ L v) Zi ψ) :
  g.Cert i A Zi ψ ∧ ∃ φ',g.Cert j A (fun v => L v ∨ Zj v) φ' := by
 constructor
 ·intro v hv
  obtain ⟨⟨av,lv⟩,h1,h2⟩ := hZi v hv
  refine ⟨av,h1,fun e u hu au => h2 e u hu ⟨au,?_⟩⟩
  have hj : g.own v = j := (hown v av).resolve_left e
  exact (hL.out v av lv).1 hj u hu au
 ·have hM1 : ∀ p,∃ M,∀ v,v < g.n → φx p v < M := fun p => GZ (φx p) g.n
  obtain ⟨M2,hM2⟩ := GZ rk2 g.n
  let M1 : Nat → Nat := fun p => Classical.choose (hM1 p)
  have hM : ∀ p v,v < g.n → φx p v < M1 p := fun p => Classical.choose_spec (hM1 p)
  refine ⟨fun p v => if X v then φx p v else if L v then M1 p + rk2 v else M1 p + M2 + φj p v,?_⟩
  have hXL : ∀ v,X v → L v := hL.tgt
  have inX : ∀ v u,X v → X u → g.Good j φx v u → g.Good j (fun p v => if X v then φx p v else if L v then M1 p + rk2 v else M1 p + M2 + φj p v) v u := by
   intro v u xv xu hg p hp hpv
   simp only [xv,xu,if_true]
   exact hg p hp hpv
  have inL : ∀ v u,¬ X v → L v → A u → L u → rk2 u < rk2 v → g.Good j (fun p v => if X v then φx p v else if L v then M1 p + rk2 v else M1 p + M2 + φj p v) v u := by
   intro v u xv lv au lu hlt p hp hpv
   have := hM p u (hA u au).1
   simp only [xv,lv,lu,if_true,if_false]
   split <;> exact ⟨by omega,fun _ => by omega⟩
  have toL : ∀ v u,¬ L v → A u → L u → g.Good j (fun p v => if X v then φx p v else if L v then M1 p + rk2 v else M1 p + M2 + φj p v) v u := by
   intro v u lv au lu p hp hpv
   have := hM p u (hA u au).1
   have := hM2 u (hA u au).1
   have xv : ¬ X v := fun h => lv (hXL v h)
   simp only [xv,lv,lu,if_true,if_false]
   split <;> exact ⟨by omega,fun _ => by omega⟩
  have inZ : ∀ v u,¬ L v → ¬ L u → g.Good j φj v u → g.Good j (fun p v => if X v then φx p v else if L v then M1 p + rk2 v else M1 p + M2 + φj p v) v u := by
   intro v u lv lu hg p hp hpv
   have xv : ¬ X v := fun h => lv (hXL v h)
   have xu : ¬ X u := fun h => lu (hXL u h)
   simp only [xv,lv,xu,lu,if_false]
   obtain ⟨a,b⟩ := hg p hp hpv
   exact ⟨by omega,fun e => by have := b e; omega⟩
  intro v hv
  by_cases xv : X v
  ·obtain ⟨⟨av,ov⟩,h1,h2⟩ := hX v xv
   refine ⟨av,fun e => ?_,fun e u hu au => ?_⟩
   ·obtain ⟨u,hu,xu,hg⟩ := h1 e
    exact ⟨u,hu,.inl (hXL u xu),inX v u xv xu hg⟩
   ·have hi : g.own v = i := (hown v av).resolve_right e
    obtain ⟨xu,hg⟩ := h2 e u hu ⟨au,(hO.out v av ov).1 hi u hu au⟩
    exact ⟨.inl (hXL u xu),inX v u xv xu hg⟩
  ·by_cases lv : L v
   ·have av := hL.inn v lv
    obtain ⟨h1,h2⟩ := hL.won v lv xv
    refine ⟨av,fun e => ?_,fun e u hu au => ?_⟩
    ·obtain ⟨u,hu,au,lu,hlt⟩ := h1 e
     exact ⟨u,hu,.inl lu,inL v u xv lv au lu hlt⟩
    ·obtain ⟨lu,hlt⟩ := h2 e u hu au
     exact ⟨.inl lu,inL v u xv lv au lu hlt⟩
   ·have zv : Zj v := hv.resolve_left lv
    obtain ⟨⟨av,_⟩,h1,h2⟩ := hZj v zv
    refine ⟨av,fun e => ?_,fun e u hu au => ?_⟩
    ·obtain ⟨u,hu,zu,hg⟩ := h1 e
     have lu := (hZj u zu).1.2
     exact ⟨u,hu,.inr zu,inZ v u lv lu hg⟩
    ·by_cases lu : L u
     ·exact ⟨.inl lu,toL v u lv au lu⟩
     ·obtain ⟨zu,hg⟩ := h2 e u hu ⟨au,lu⟩
      exact ⟨.inr zu,inZ v u lv lu hg⟩
end PGame
namespace PGame
def W (lim : Nat → Nat) : Nat → Nat
 | 0 => 1
 | k + 1 => W lim k * (lim k + 1)
theorem HM (lim : Nat → Nat) : ∀ k,0 < W lim k
 | 0 => Nat.one_pos
 | k + 1 => Nat.mul_pos (HM lim k) (Nat.succ_pos _)
theorem Lo (lim : Nat → Nat) (k d : Nat) : W lim k ∣ W lim (k + d) := by
 induction d with
 | zero => exact Nat.dvd_refl _
 | succ d ih => exact Nat.dvd_trans ih ⟨lim (k + d) + 1,rfl⟩
theorem W_dvd' (lim : Nat → Nat) {k m : Nat} (h : k ≤ m) : W lim k ∣ W lim m := by
 obtain ⟨d,rfl⟩ := Nat.exists_eq_add_of_le h
 exact Lo lim k d
def val (lim : Nat → Nat) (c : Nat → Nat) : Nat → Nat
 | 0 => 0
 | k + 1 => val lim c k + c k * W lim k
theorem val_lt (lim c : Nat → Nat) : ∀ k,(∀ j,j < k → c j ≤ lim j) → val lim c k < W lim k
 | 0,_ => Nat.one_pos
 | k + 1,h => by
  have ih := val_lt lim c k (fun j hj => h j (by omega))
  have hk := h k (by omega)
  show val lim c k + c k * W lim k < W lim k * (lim k + 1)
  have : c k * W lim k ≤ lim k * W lim k := Nat.mul_le_mul_right _ hk
  rw [Nat.mul_add,Nat.mul_one,Nat.mul_comm (W lim k)]
  omega
def upper (lim c : Nat → Nat) (k : Nat) : Nat → Nat
 | 0 => 0
 | d + 1 => upper lim c k d + c (k + d) * (W lim (k + d) / W lim k)
theorem val_split (lim c : Nat → Nat) (k d : Nat) : val lim c (k + d) = val lim c k + W lim k * upper lim c k d := by
 induction d with
 | zero => simp [upper]
 | succ d ih =>
  show val lim c (k + d) + c (k + d) * W lim (k + d) = _
  rw [ih,upper,Nat.mul_add]
  have : W lim k * (c (k + d) * (W lim (k + d) / W lim k)) = c (k + d) * W lim (k + d) := by
   rw [Nat.mul_left_comm,Nat.mul_div_cancel' (Lo lim k d)]
  omega
theorem val_div (lim c : Nat → Nat) (k d : Nat) (h : ∀ j,j < k → c j ≤ lim j) : val lim c (k + d) / W lim k = upper lim c k d := by
 rw [val_split,Nat.add_mul_div_left _ _ (HM lim k),Nat.div_eq_of_lt (val_lt lim c k h)]
 omega
theorem Gi (lim c c' : Nat → Nat) (k : Nat) : ∀ d,(∀ j,k ≤ j → j < k + d → c j ≤ c' j) → upper lim c k d ≤ upper lim c' k d
 | 0,_ => Nat.le_refl _
 | d + 1,h => by
  have ih := Gi lim c c' k d (fun j a b => h j a (by omega))
  have := h (k + d) (by omega) (by omega)
  exact Nat.add_le_add ih (Nat.mul_le_mul_right _ this)
theorem Ii (lim c c' : Nat → Nat) (k : Nat) : ∀ d,0 < d → (∀ j,k ≤ j → j < k + d → c j ≤ c' j) → c k < c' k → upper lim c k d < upper lim c' k d
 | 0,h,_,_ => by omega
 | 1,_,_,hk => by
  simp only [upper,Nat.add_zero,Nat.zero_add,Nat.div_self (HM lim k),Nat.mul_one]
  exact hk
 | d + 2,_,h,hk => by
  have ih := Ii lim c c' k (d + 1) (by omega) (fun j a b => h j a (by omega)) hk
  have := h (k + (d + 1)) (by omega) (by omega)
  exact Nat.add_lt_add_of_lt_of_le ih (Nat.mul_le_mul_right _ this)
def via (lim : Nat → Nat) (N p r : Nat) : Nat :=
 if N ≤ r then N else if p % 2 = 0 then r / W lim (p / 2) * W lim (p / 2) else r / W lim (p / 2) * W lim (p / 2) + W lim (p / 2)
theorem via_top (lim : Nat → Nat) {N p r : Nat} (h : N ≤ r) : via lim N p r = N := if_pos h
theorem step_le {w N r : Nat} (hw : 0 < w) (hd : w ∣ N) (h : r < N) : r / w * w + w ≤ N := by
 obtain ⟨q,rfl⟩ := hd
 have : r / w < q := (Nat.div_lt_iff_lt_mul hw).2 (by rw [Nat.mul_comm]; exact h)
 calc r / w * w + w = (r / w + 1) * w := by rw [Nat.add_mul,Nat.one_mul]
  _ ≤ q * w := Nat.mul_le_mul_right _ this
  _ = w * q := Nat.mul_comm _ _
theorem via_le (lim : Nat → Nat) {N p r : Nat} (hd : W lim (p / 2) ∣ N) : via lim N p r ≤ N := by
 unfold via
 split
 ·exact Nat.le_refl _
 ·rename_i h
  have := step_le (HM lim (p / 2)) hd (Nat.lt_of_not_le h)
  split <;> omega
theorem via_mono (lim : Nat → Nat) {N p r r' : Nat} (hd : W lim (p / 2) ∣ N) (h : r ≤ r') : via lim N p r ≤ via lim N p r' := by
 by_cases c : N ≤ r'
 ·rw [via_top lim c]; exact via_le lim hd
 ·unfold via
  rw [if_neg c,if_neg (by omega)]
  have : r / W lim (p / 2) * W lim (p / 2) ≤ r' / W lim (p / 2) * W lim (p / 2) := Nat.mul_le_mul_right _ (Nat.div_le_div_right h)
  split <;> omega
def Pre (g : PGame) (lim : Nat → Nat) (N : Nat) (ρ : Nat → Nat) : Prop :=
 ∀ v,v < g.n → (g.own v = 0 → ∃ u,u ∈ g.suc v ∧ via lim N (g.pri v) (ρ u) ≤ ρ v) ∧ (g.own v ≠ 0 → ∀ u,u ∈ g.suc v → via lim N (g.pri v) (ρ u) ≤ ρ v)
theorem Ih (lim : Nat → Nat) {N q r s : Nat} (h : via lim N q r ≤ s) (hs : s < N) :
  r < N ∧ ∀ p,p % 2 ≠ 0 → q ≤ p → r / W lim (p / 2) ≤ s / W lim (p / 2) ∧ (q = p → r / W lim (p / 2) < s / W lim (p / 2)) := by
 have hr : r < N := by
  rcases Nat.lt_or_ge r N with c | c
  ·exact c
  ·rw [via_top lim c] at h; omega
 refine ⟨hr,fun p hp hqp => ?_⟩
 unfold via at h
 rw [if_neg (by omega)] at h
 have hdv : W lim (q / 2) ∣ W lim (p / 2) := W_dvd' lim (by omega)
 have key : r / W lim (q / 2) * W lim (q / 2) / W lim (p / 2) = r / W lim (p / 2) := by
  obtain ⟨e,he⟩ := hdv
  rw [he,← Nat.div_div_eq_div_mul,← Nat.div_div_eq_div_mul,Nat.mul_div_cancel _ (HM lim _)]
 constructor
 ·split at h
  ·rw [← key]; exact Nat.div_le_div_right h
  ·rw [← key]; exact Nat.div_le_div_right (by omega)
 ·intro e
  subst e
  rw [if_neg (by omega)] at h
  have hw := HM lim (q / 2)
  refine (Nat.le_div_iff_mul_le hw).2 ?_
  show (r / W lim (q / 2) + 1) * W lim (q / 2) ≤ s
  rw [Nat.add_mul,Nat.one_mul]; exact h
theorem pre_cert (g : PGame) (lim : Nat → Nat) (N : Nat) (ρ : Nat → Nat) (h : g.Pre lim N ρ)
  (hs : ∀ v u,v < g.n → u ∈ g.suc v → u < g.n) : g.Cert 0 (fun v => v < g.n) (fun v => v < g.n ∧ ρ v < N) (fun p v => ρ v / W lim (p / 2)) := by
 rintro v ⟨hv,hN⟩
 obtain ⟨h1,h2⟩ := h v hv
 refine ⟨hv,fun e => ?_,fun e u hu _ => ?_⟩
 ·obtain ⟨u,hu,hl⟩ := h1 e
  obtain ⟨a,b⟩ := Ih lim hl hN
  exact ⟨u,hu,⟨hs v u hv hu,a⟩,b⟩
 ·obtain ⟨a,b⟩ := Ih lim (h2 e u hu) hN
  exact ⟨⟨hs v u hv hu,a⟩,b⟩
def CK (n : Nat) (t : Nat → Bool) : Nat := ((List.range n).filter t).length
theorem Dv (n : Nat) (t : Nat → Bool) : CK (n + 1) t = CK n t + if t n = true then 1 else 0 := by
 unfold CK
 rw [List.range_succ,List.filter_append]
 by_cases c : t n <;> simp [c]
theorem Ek (n : Nat) (s t : Nat → Bool) (h : ∀ v,v < n → s v = true → t v = true) : CK n s ≤ CK n t := by
 induction n with
 | zero => simp [CK]
 | succ n ih =>
  rw [Dv,Dv]
  have := ih (fun v hv => h v (by omega))
  by_cases c : s n = true
  ·rw [if_pos c,if_pos (h n (by omega) c)]; omega
  ·rw [if_neg c]; omega
theorem countP_lt (n : Nat) (s t : Nat → Bool) (h : ∀ v,v < n → s v = true → t v = true) (x : Nat) (hx : x < n) (hs : s x = false) (ht : t x = true) : CK n s < CK n t := by
 induction n with
 | zero => omega
 | succ n ih =>
  rw [Dv,Dv]
  by_cases e : x = n
  ·subst e
   have := Ek x s t (fun v hv => h v (by omega))
   rw [hs,ht]
   simp; omega
  ·have := ih (fun v hv => h v (by omega)) (by omega)
   by_cases c : s n = true
   ·rw [if_pos c,if_pos (h n (by omega) c)]; omega
   ·rw [if_neg c]; omega
open Classical in
theorem cert_pre (g : PGame) (lim : Nat → Nat) (K : Nat) (Z : Nat → Prop) (φ : Nat → Nat → Nat) (hZ : g.Cert 0 (fun v => v < g.n) Z φ)
  (hlim : ∀ j,lim j = CK g.n (fun u => decide (g.pri u = 2 * j + 1))) (hK : ∀ v,v < g.n → g.pri v / 2 < K ∨ (g.pri v % 2 = 0 ∧ g.pri v / 2 ≤ K))
  (hs : ∀ v,v < g.n → (∃ u,u ∈ g.suc v) ∧ ∀ u,u ∈ g.suc v → u < g.n) :
  ∃ ρ,g.Pre lim (W lim K) ρ ∧ (∀ v,ρ v ≤ W lim K) ∧ ∀ v,Z v → ρ v < W lim K := by
 let c : Nat → Nat → Nat := fun v j => CK g.n (fun u => decide (g.pri u = 2 * j + 1 ∧ φ (2 * j + 1) u ≤ φ (2 * j + 1) v))
 have hc : ∀ v j,c v j ≤ lim j := fun v j => by
  rw [hlim]
  exact Ek _ _ _ (fun u _ h => by simp only [decide_eq_true_eq] at h ⊢; exact h.1)
 have hlt : ∀ v,val lim (c v) K < W lim K := fun v => val_lt lim (c v) K (fun j _ => hc v j)
 have hgood : ∀ v u,v < g.n → g.Good 0 φ v u → via lim (W lim K) (g.pri v) (val lim (c u) K) ≤ val lim (c v) K := by
  intro v u hv hg
  have hle : ∀ j,g.pri v ≤ 2 * j + 1 → c u j ≤ c v j := fun j hj => by
   have := (hg (2 * j + 1) (by omega) hj).1
   exact Ek _ _ _ (fun x _ h => by simp only [decide_eq_true_eq] at h ⊢; exact ⟨h.1,Nat.le_trans h.2 this⟩)
  generalize hk : g.pri v / 2 = k at *
  have hkK : k ≤ K := by have := hK v hv; omega
  obtain ⟨d,rfl⟩ := Nat.exists_eq_add_of_le hkK
  have e1 : val lim (c u) (k + d) / W lim k = upper lim (c u) k d := val_div lim (c u) k d (fun j _ => hc u j)
  have e2 := val_split lim (c v) k d
  unfold via
  rw [if_neg (by have := hlt u; omega),hk,e1,e2]
  split
  ·have := Gi lim (c u) (c v) k d (fun j hj _ => hle j (by omega))
   have := Nat.mul_le_mul_left (W lim k) this
   rw [Nat.mul_comm (upper lim (c u) k d)]
   omega
  ·rename_i hp
   have hd0 : 0 < d := by have := hK v hv; omega
   have hpk : g.pri v = 2 * k + 1 := by omega
   have hlt' : c u k < c v k := by
    have := (hg (2 * k + 1) (by omega) (by omega)).2 hpk
    refine countP_lt _ _ _ (fun x _ h => ?_) v hv ?_ ?_
    ·simp only [decide_eq_true_eq] at h ⊢
     exact ⟨h.1,by omega⟩
    ·simp only [decide_eq_false_iff_not]; omega
    ·simp only [decide_eq_true_eq]; exact ⟨hpk,Nat.le_refl _⟩
   have := Ii lim (c u) (c v) k d hd0 (fun j hj _ => hle j (by omega)) hlt'
   have h2 := Nat.mul_le_mul_left (W lim k) (show upper lim (c u) k d + 1 ≤ upper lim (c v) k d from this)
   rw [Nat.mul_add,Nat.mul_one] at h2
   rw [Nat.mul_comm (upper lim (c u) k d)]
   omega
 refine ⟨fun v => if Z v then val lim (c v) K else W lim K,?_,fun v => ?_,fun v hv => ?_⟩
 ·have hdv : ∀ v,v < g.n → W lim (g.pri v / 2) ∣ W lim K := fun v hv => W_dvd' lim (by have := hK v hv; omega)
  intro v hv
  by_cases z : Z v
  ·obtain ⟨_,h1,h2⟩ := hZ v z
   refine ⟨fun e => ?_,fun e u hu => ?_⟩
   ·obtain ⟨u,hu,zu,hg⟩ := h1 e
    exact ⟨u,hu,by simp only [z,zu,if_true]; exact hgood v u hv hg⟩
   ·obtain ⟨zu,hg⟩ := h2 e u hu ((hs v hv).2 u hu)
    simp only [z,zu,if_true]; exact hgood v u hv hg
  ·simp only [z,if_false]
   refine ⟨fun _ => ?_,fun _ u _ => via_le lim (hdv v hv)⟩
   obtain ⟨u,hu⟩ := (hs v hv).1
   exact ⟨u,hu,via_le lim (hdv v hv)⟩
 ·simp only
  split
  ·exact Nat.le_of_lt (hlt v)
  ·exact Nat.le_refl _
 ·simp only [hv,if_true]; exact hlt v
theorem lift_below (g : PGame) (lim : Nat → Nat) (N : Nat) (μ ρ : Nat → Nat) (hρ : g.Pre lim N ρ) (h : ∀ v,v < g.n → μ v ≤ ρ v)
  (hd : ∀ v,v < g.n → W lim (g.pri v / 2) ∣ N) (hs : ∀ v,v < g.n → ∀ u,u ∈ g.suc v → u < g.n) (v x : Nat) (hv : v < g.n)
  (hx : (g.own v = 0 ∧ ∀ u,u ∈ g.suc v → x ≤ via lim N (g.pri v) (μ u)) ∨ (g.own v ≠ 0 ∧ ∃ u,u ∈ g.suc v ∧ x ≤ via lim N (g.pri v) (μ u))) : x ≤ ρ v := by
 obtain ⟨h1,h2⟩ := hρ v hv
 have hm : ∀ u,u ∈ g.suc v → via lim N (g.pri v) (μ u) ≤ via lim N (g.pri v) (ρ u) := fun u hu => via_mono lim (hd v hv) (h u (hs v hv u hu))
 rcases hx with ⟨e,hx⟩ | ⟨e,u,hu,hx⟩
 ·obtain ⟨u,hu,hl⟩ := h1 e
  have := hx u hu
  have := hm u hu
  omega
 ·have := h2 e u hu
  have := hm u hu
  omega
theorem top_iff (g : PGame) (lim : Nat → Nat) (K : Nat) (μ : Nat → Nat) (Z0 Z1 : Nat → Prop) (φ0 φ1 : Nat → Nat → Nat)
  (hlim : ∀ j,lim j = CK g.n (fun u => decide (g.pri u = 2 * j + 1))) (hK : ∀ v,v < g.n → g.pri v / 2 < K ∨ (g.pri v % 2 = 0 ∧ g.pri v / 2 ≤ K))
  (hs : ∀ v,v < g.n → (∃ u,u ∈ g.suc v) ∧ ∀ u,u ∈ g.suc v → u < g.n) (hown : ∀ v,v < g.n → g.own v = 0 ∨ g.own v = 1)
  (h0 : g.Cert 0 (fun v => v < g.n) Z0 φ0) (h1 : g.Cert 1 (fun v => v < g.n) Z1 φ1) (hall : ∀ v,v < g.n → Z0 v ∨ Z1 v)
  (hμ : g.Pre lim (W lim K) μ) (hleast : ∀ ρ,g.Pre lim (W lim K) ρ → ∀ v,v < g.n → μ v ≤ ρ v) (v : Nat) (hv : v < g.n) :
  W lim K ≤ μ v ↔ Z1 v := by
 have hB : ∀ v,v < g.n → g.pri v < 2 * K + 1 := fun v hv => by have := hK v hv; omega
 constructor
 ·intro h
  rcases hall v hv with z | z
  ·obtain ⟨ρ,hρ,_,hlt⟩ := cert_pre g lim K Z0 φ0 h0 hlim hK hs
   have := hleast ρ hρ v hv
   have := hlt v z
   omega
  ·exact z
 ·intro z
  rcases Nat.lt_or_ge (μ v) (W lim K) with c | c
  ·exact (cert_apart g _ _ _ _ _ (pre_cert g lim (W lim K) μ hμ (fun v u hv hu => (hs v hv).2 u hu)) h1 hown _ hB v ⟨hv,c⟩ z).elim
  ·exact c
end PGame
structure GL where
 own : List Int
 pri : List Int
 suc : List (List Int)
structure GL.Ok (g : GL) : Prop where
 pos : 0 < g.own.length
 max : g.own.length ≤ 4096
 lp : g.pri.length = g.own.length
 ls : g.suc.length = g.own.length
 own : ∀ (v : Nat) (x : Int),g.own[v]? = some x → x = 0 ∨ x = 1
 pri : ∀ (v : Nat) (x : Int),g.pri[v]? = some x → 0 ≤ x ∧ x ≤ 16
 row : ∀ (v : Nat) (r : List Int),g.suc[v]? = some r → r ≠ [] ∧ r.length ≤ 4096 ∧ ∀ u ∈ r,0 ≤ u ∧ u < g.own.length
def GL.gm (g : GL) : PGame := { n := g.own.length,own := fun v => (g.own.getD v 0).toNat,pri := fun v => (g.pri.getD v 0).toNat,suc := fun v => (g.suc.getD v []).map Int.toNat }
def mem (a : List Bool) (v : Nat) : Prop := a[v]? = some true
theorem GC {a : List Bool} {v : Nat} (h : mem a v) : v < a.length := (List.getElem?_eq_some_iff.1 h).1
theorem mem_set {a : List Bool} {v u : Nat} (hv : v < a.length) : mem (a.set v true) u ↔ u = v ∨ mem a u := by
 unfold mem
 rw [List.getElem?_set]
 by_cases e : v = u
 ·subst e; simp [hv]
 ·simp [e,Ne.symm e]
def Grow (g : PGame) (i : Nat) (a t o : List Bool) : Prop :=
 ∃ (rk : Nat → Nat) (N : Nat),(∀ v,mem o v → mem a v) ∧ (∀ v,mem t v → mem o v) ∧ (∀ v,mem o v → rk v < N) ∧
  ∀ v,mem o v → ¬ mem t v → (g.own v = i → ∃ u,u ∈ g.suc v ∧ mem a u ∧ mem o u ∧ rk u < rk v) ∧ (g.own v ≠ i → ∀ u,u ∈ g.suc v → mem a u → mem o u ∧ rk u < rk v)
theorem Grow.start (g : PGame) (i : Nat) (a t : List Bool) (h : ∀ v,mem t v → mem a v) : Grow g i a t t :=
 ⟨fun _ => 0,1,h,fun _ h => h,fun _ _ => Nat.one_pos,fun _ h h' => absurd h h'⟩
theorem Grow.step {g : PGame} {i : Nat} {a t o : List Bool} (h : Grow g i a t o) (v : Nat) (hv : v < o.length) (ha : mem a v) (ho : ¬ mem o v)
  (hc : (g.own v = i ∧ ∃ u,u ∈ g.suc v ∧ mem a u ∧ mem o u) ∨ (g.own v ≠ i ∧ ∀ u,u ∈ g.suc v → mem a u → mem o u)) : Grow g i a t (o.set v true) := by
 obtain ⟨rk,N,h1,h2,h3,h4⟩ := h
 have hset : ∀ u,mem (o.set v true) u ↔ u = v ∨ mem o u := fun u => mem_set hv
 have hne : ∀ u,mem o u → u ≠ v := fun u hu e => ho (e ▸ hu)
 refine ⟨fun u => if u = v then N else rk u,N + 1,fun u hu => ?_,fun u hu => (hset u).2 (.inr (h2 u hu)),fun u hu => ?_,fun u hu htu => ?_⟩
 ·rcases (hset u).1 hu with e | e
  ·exact e ▸ ha
  ·exact h1 u e
 ·rcases (hset u).1 hu with e | e
  ·simp [e]
  ·have := h3 u e
   simp only [hne u e,if_false]; omega
 ·rcases (hset u).1 hu with e | e
  ·subst e
   simp only [if_true]
   refine ⟨fun he => ?_,fun he x hx hax => ?_⟩
   ·rcases hc with ⟨_,x,hx,hax,hox⟩ | ⟨hn,_⟩
    ·exact ⟨x,hx,hax,(hset x).2 (.inr hox),by simp only [hne x hox,if_false]; exact h3 x hox⟩
    ·exact absurd he hn
   ·rcases hc with ⟨hn,_⟩ | ⟨_,hall⟩
    ·exact absurd hn he
    ·have hox := hall x hx hax
     exact ⟨(hset x).2 (.inr hox),by simp only [hne x hox,if_false]; exact h3 x hox⟩
  ·obtain ⟨p,q⟩ := h4 u e htu
   simp only [hne u e,if_false]
   refine ⟨fun he => ?_,fun he x hx hax => ?_⟩
   ·obtain ⟨x,hx,hax,hox,hlt⟩ := p he
    exact ⟨x,hx,hax,(hset x).2 (.inr hox),by simp only [hne x hox,if_false]; exact hlt⟩
   ·obtain ⟨hox,hlt⟩ := q he x hx hax
    exact ⟨(hset x).2 (.inr hox),by simp only [hne x hox,if_false]; exact hlt⟩
def F4 (g : PGame) (i : Nat) (a o : List Bool) (v : Nat) : Prop :=
 mem a v → ¬ mem o v → (g.own v = i → ∀ u,u ∈ g.suc v → mem a u → ¬ mem o u) ∧ (g.own v ≠ i → ∃ u,u ∈ g.suc v ∧ mem a u ∧ ¬ mem o u)
theorem Grow.attr {g : PGame} {i : Nat} {a t o : List Bool} (h : Grow g i a t o) (hs : ∀ v,v < a.length → F4 g i a o v) : ∃ rk,g.Attr i (mem a) (mem t) (mem o) rk := by
 obtain ⟨rk,N,h1,h2,h3,h4⟩ := h
 exact ⟨rk,⟨h1,h2,h4,fun v hv ho => hs v (GC hv) hv ho⟩⟩
def cnt (o : List Bool) : Nat := o.count true
theorem cnt_set {o : List Bool} {v : Nat} (hv : v < o.length) (h : ¬ mem o v) : cnt (o.set v true) = cnt o + 1 := by
 have hf : o[v] = false := by
  cases e : o[v] with
  | false => rfl
  | true => exact absurd (by unfold mem; rw [gE hv,e]) h
 unfold cnt
 rw [List.count_set hv]
 simp [hf]
theorem cnt_le (o : List Bool) : cnt o ≤ o.length := List.count_le_length
end
section
open Go Fm Go.RowKit Go.Proofs.YtmjllchdhcdinaaGreatDoorW.PrintWords
theorem index168 (A : Option Addr) (c : Nat) (xs : List Bool) (b : Bool) (w : World) (hs : Kd.bool.C w A xs.length xs) (hb : xs.length ≤ 4096) :
  Calls Tryz.prog 168 #[.slice A xs.length c,.bool b] w fun e w' => ∃ i : Int,e = .returned (.int .i64 i) ∧ w' = w ∧ decide (0 ≤ i) = xs.contains b := by
 refine enter 19 Tryz.func168 G G _ (by simp) ?_
 refine ai G<|ms G<|oln Bn G<|mi G<|lp (σ := Nat) (fun k => [(0,.slice A xs.length c),(1,.bool b),(7,.int .i64 xs.length),(8,.int .i64 k)])
  (fun k W => W = w ∧ k ≤ xs.length ∧ (xs.take k).contains b = false) (fun k => xs.length - k) 0 ⟨rfl,rfl,rfl,rfl,rfl⟩ ⟨rfl,Nat.zero_le _,by simp⟩ ?_
 rintro k f W ⟨rfl,hk,hno⟩
 refine olt G G<|cdd G (fun h => ?_) (fun h => ?_)
 ·have h : k < xs.length := by omega
  obtain ⟨ad,rfl,hc⟩ := Au hs (gE h)
  refine mi G<|ai G<|mb G<|ms G<|mi G<|AD Bn Z4 G G (by first | assumption | omega)<|old G4 G ‹_›<|obq Ub G G<|?_
  refine cdb G (fun e => ?_) (fun e => ?_)
  ·refine mi G<|ai G<|rt1 G G ⟨_,rfl,rfl,?_⟩
   have : xs.contains b = true := by
    simp only [beq_iff_eq] at e
    subst e; simp
   rw [this]; simp
  ·refine oad G G (by first | assumption | omega)<|mi G<|?_
   refine ⟨k + 1,⟨rfl,rfl,rfl,rfl,rfl⟩,⟨rfl,by omega,?_⟩,by omega⟩
   rw [List.take_succ_eq_append_getElem h]
   simp only [List.contains_eq_mem,List.mem_append,List.mem_singleton,decide_eq_false_iff_not,beq_eq_false_iff_ne,ne_eq] at hno e ⊢
   rintro (x | x)
   ·exact hno x
   ·exact e x
 ·have hkn : k = xs.length := by omega
  subst hkn
  rw [List.take_length] at hno
  refine ai G<|?_
  exact rt1 rfl rfl ⟨_,rfl,rfl,by rw [hno]; rfl⟩
theorem contains144 (A : Option Addr) (c : Nat) (xs : List Bool) (b : Bool) (w : World) (hs : Kd.bool.C w A xs.length xs) (hb : xs.length ≤ 4096) :
  Calls Tryz.prog 144 #[.slice A xs.length c,.bool b] w fun e w' => e = .returned (.bool (xs.contains b)) ∧ w' = w := by
 refine enter 9 Tryz.func144 G G _ (by simp) ?_
 refine ab G<|ms G<|mb G<|cl C168 [] G ((index168 A c xs b w hs hb).mono ?_)
 rintro e w' ⟨i,rfl,rfl,hi⟩
 refine ⟨_,rfl,?_⟩
 refine oge G G<|ab G<|?_
 exact rt1 rfl rfl ⟨by rw [← hi]; rfl,rfl⟩
theorem empty98 (A : Option Addr) (c : Nat) (xs : List Bool) (w : World) (hs : Kd.bool.C w A xs.length xs) (hb : xs.length ≤ 4096) :
  Calls Tryz.prog 98 #[.slice A xs.length c] w fun e w' => e = .returned (.bool (!xs.contains true)) ∧ w' = w := by
 refine enter 6 Tryz.func98 G G _ (by simp) ?_
 refine ab G<|ms G<|cl C144 [] G ((contains144 A c xs true w hs hb).mono ?_)
 rintro e w' ⟨rfl,rfl⟩
 refine ⟨_,rfl,?_⟩
 refine ont G<|ab G<|?_
 exact rt1 rfl rfl ⟨rfl,rfl⟩
theorem IP (A : Option Addr) (c : Nat) (xs : List Bool) (w : World) (hs : Kd.bool.C w A xs.length xs) (hb : xs.length ≤ 1000000) :
  Calls Tryz.prog 101 #[.slice A xs.length c] w fun e w' => ∃ B c',e = .returned (.slice B xs.length c') ∧ Kd.bool.R 4 w' w.heap.size (fun _ => True) (.slice B xs.length c') xs ∧ Below w.heap.size w w' := by
 refine enter 8 Tryz.func101 G G _ (by simp) ?_
 refine asl G<|ms G<|oen Bn G<|?_
 cases A with
 | none =>
  refine cdt G<|asl G<|?_
  have h0 : xs.length = 0 := by
   have := hs.2.2
   rcases Nat.eq_zero_or_pos xs.length with h | h
   ·exact h
   ·obtain ⟨ad,h1,_⟩ := this h; cases h1
  have h1 : xs = [] := List.length_eq_zero_iff.1 h0
  subst h1
  exact rt1 rfl rfl ⟨_,_,rfl,Kd.R_nil _ _ _ _ _,Below.refl _ _⟩
 | some ad =>
  refine cdf G<|Hr Kd.bool Bn I4 ?_
  intro A1 c1 w1 hr hb1
  refine ms G<|BW Kd.bool Bn I4 G (by decide) (by decide) G G hr (Kd.C_below hs hb1) (okp := fun i => some i ≠ (Value.slice A1 0 c1).ownBlock) (fun _ _ h => h) (fun _ h => ⟨trivial,h⟩) (fun _ _ => trivial) hb1.size (by simp; omega) ?_
  intro A2 c2 w2 hr2 hg2
  refine asl G<|?_
  simp only [List.nil_append] at hr2
  exact rt1 rfl rfl ⟨_,_,rfl,hr2,hb1.grown hg2 hb1.size (fun k hk => Kd.R_base hr k hk)⟩
structure GR (g : GL) (w : World) (OA : Option Addr) (PA : Option Addr) (SA : Option Addr) : Prop where
 own : (Kd.int .u8).C w OA g.own.length g.own
 pri : (Kd.int .i64).C w PA g.pri.length g.pri
 suc : (Kd.slice 3 (Kd.int .i64)).C w SA g.suc.length g.suc
theorem GR.below {g : GL} {w w1 : World} {OA PA SA : Option Addr} (h : GR g w OA PA SA) (hb : Below w.heap.size w w1) : GR g w1 OA PA SA :=
 ⟨Kd.C_below h.own hb,Kd.C_below h.pri hb,Kd.C_below h.suc hb⟩
structure SV (g : GL) (w0 : World) (p gs : Nat) (OA PA SA : Option Addr) (co cp cS cs : Nat) (W : World) : Prop where
 low : Below w0.heap.size w0 W
 blk : W.heap[p]? = some (.cells #[.slice OA g.own.length co,.slice PA g.pri.length cp,.slice SA g.suc.length cS,.slice (some ⟨gs,0,none⟩) g.own.length cs] 132 (0,0))
 st : ∃ xs,(Kd.int .i64).R 3 W w0.heap.size (fun _ => True) (.slice (some ⟨gs,0,none⟩) g.own.length cs) xs
section
variable {g : GL} {w0 W W1 w : World} {p gs : Nat} {OA PA SA : Option Addr} {co cp cS cs : Nat}
theorem SV.gs_typed (h : SV g w0 p gs OA PA SA co cp cS cs W) : ∃ cells,W.heap[gs]? = some (.cells cells 3 (0,0)) := by
 obtain ⟨xs,hx⟩ := h.st
 exact Kd.R_typed hx gs (by simp [Value.ownBlock])
theorem SV.gs_base (h : SV g w0 p gs OA PA SA co cp cS cs W) : w0.heap.size ≤ gs := by
 obtain ⟨xs,hx⟩ := h.st
 exact Kd.R_base hx gs (by simp [Value.ownBlock])
theorem SV.below (h : SV g w0 p gs OA PA SA co cp cS cs W) (hb : Below W.heap.size W W1) : SV g w0 p gs OA PA SA co cp cS cs W1 := by
 obtain ⟨xs,hx⟩ := h.st
 exact ⟨Ad h.low hb,(hb.block p (Am h.blk)).trans h.blk,xs,Kd.R_below hx hb⟩
theorem An {W : World} {a b : Nat} {ca cb : Array Value} {s t : Nat} (ha : W.heap[a]? = some (.cells ca s (0,0))) (hb : W.heap[b]? = some (.cells cb t (0,0))) (h : s ≠ t) : a ≠ b := by
 rintro rfl
 rw [ha] at hb
 injection hb with hb; injection hb with _ hb; exact h hb
theorem SV.row (h : SV g w0 p gs OA PA SA co cp cS cs W) {base : Nat} {ok : Nat → Prop} {v : Value} {xs : List Bool} (hr : Kd.bool.R 4 W base ok v xs) (hbase : w0.heap.size ≤ base) (hg : W.grownBy W1 v.ownBlock) : SV g w0 p gs OA PA SA co cp cS cs W1 := by
 obtain ⟨ys,hy⟩ := h.st
 have hne : ∀ b,v.ownBlock = some b → b ≠ p ∧ b ≠ gs ∧ w0.heap.size ≤ b := fun b hb => by
  obtain ⟨cells,hc⟩ := Kd.R_typed hr b hb
  obtain ⟨cells',hc'⟩ := h.gs_typed
  exact ⟨An hc h.blk (by decide),An hc hc' (by decide),Nat.le_trans hbase (Kd.R_base hr b hb)⟩
 refine ⟨h.low.grown hg h.low.size (fun k hk => (hne k hk).2.2),(hg.block p (Am h.blk) (fun e => (hne p e.symm).1 G)).trans h.blk,ys,?_⟩
 exact Kd.R_over hy hr (by decide) hg
theorem SV.move (h : SV g w0 p gs OA PA SA co cp cS cs W) {xs : List Int} (hx : (Kd.int .i64).R 3 W1 w0.heap.size (fun _ => True) (.slice (some ⟨gs,0,none⟩) g.own.length cs) xs) (hg : W.grownBy W1 (some gs)) : SV g w0 p gs OA PA SA co cp cS cs W1 := by
 obtain ⟨cells,hc⟩ := h.gs_typed
 have hne : p ≠ gs := An h.blk hc (by decide)
 exact ⟨h.low.grown hg h.low.size (fun k hk => by cases hk; exact h.gs_base),(hg.block p (Am h.blk) (fun e => hne (by injection e))).trans h.blk,xs,hx⟩
theorem SV.set (h : SV g w0 p gs OA PA SA co cp cS cs W) {base : Nat} {ok : Nat → Prop} {v : Value} {xs : List Bool} (hr : Kd.bool.R 4 W base ok v xs) (hg : W.grownBy W1 (some gs)) : Kd.bool.R 4 W1 base ok v xs := by
 obtain ⟨ys,hy⟩ := h.st
 exact Kd.R_over hr hy (by decide) hg
theorem B6 (w : World) (r : Option Nat) : w.grownBy w r := ⟨rfl,rfl,rfl,Nat.le_refl _,fun _ _ _ => rfl⟩
theorem Cr {w W W1 : World} {r : Option Nat} (h : w.grownBy W r) (k : W.grownBy W1 r) : w.grownBy W1 r :=
 ⟨k.os.trans h.os,k.tape.trans h.tape,k.output.trans h.output,Nat.le_trans h.size k.size,fun i hi hne => (k.block i (Nat.lt_of_lt_of_le hi h.size) hne).trans (h.block i hi hne)⟩
theorem AF {w W W1 : World} {r s : Option Nat} (h : w.grownBy W r) (k : W.grownBy W1 s) (hs : ∀ b,s = some b → w.heap.size ≤ b) : w.grownBy W1 r :=
 ⟨k.os.trans h.os,k.tape.trans h.tape,k.output.trans h.output,Nat.le_trans h.size k.size,fun i hi hne => (k.block i (Nat.lt_of_lt_of_le hi h.size) (fun e => by have := hs i e.symm; omega)).trans (h.block i hi hne)⟩
theorem B7 {w W W1 : World} {r : Option Nat} (h : w.grownBy W r) (k : Below W.heap.size W W1) : w.grownBy W1 r := AF h (Ap k none) (by simp)
end
def AS (a o : List Bool) (l : List Int) (su : Int) (al : Bool) : Prop :=
 ((su = -1 ∧ ∀ u ∈ l,¬ (mem a u.toNat ∧ mem o u.toNat)) ∨ (0 ≤ su ∧ su ∈ l ∧ mem a su.toNat ∧ mem o su.toNat)) ∧ (al = true ↔ ∀ u ∈ l,mem a u.toNat → mem o u.toNat)
theorem AS.nil (a o : List Bool) : AS a o [] (-1) true := ⟨.inl ⟨rfl,by simp⟩,by simp⟩
theorem AS.snoc {a o : List Bool} {l : List Int} {su : Int} {al : Bool} (h : AS a o l su al) (m : Nat) (x y : Bool) (hx : a[m]? = some x) (hy : o[m]? = some y) :
  AS a o (l ++ [(m : Int)]) (if (x && y && decide (su < 0)) = true then (m : Int) else su) (al && (!x || y)) := by
 obtain ⟨h1,h2⟩ := h
 have ma : mem a m ↔ x = true := by unfold mem; rw [hx]; simp
 have mo : mem o m ↔ y = true := by unfold mem; rw [hy]; simp
 constructor
 ·split
  ·rename_i c
   simp only [Bool.and_eq_true,decide_eq_true_eq] at c
   exact .inr ⟨by omega,by simp,by simpa using ma.2 c.1.1,by simpa using mo.2 c.1.2⟩
  ·rename_i c
   rcases h1 with ⟨e,h1⟩ | ⟨p,q,r,s⟩
   ·refine .inl ⟨e,fun u hu => ?_⟩
    rcases List.mem_append.1 hu with hu | hu
    ·exact h1 u hu
    ·rw [List.mem_singleton.1 hu]
     simp only [Int.toNat_natCast,ma,mo]
     rintro ⟨rfl,rfl⟩
     exact c (by simp; omega)
   ·exact .inr ⟨p,List.mem_append_left _ q,r,s⟩
 ·rw [Bool.and_eq_true,h2]
  simp only [List.mem_append,List.mem_singleton]
  constructor
  ·rintro ⟨p,q⟩ u (hu | rfl)
   ·exact p u hu
   ·simp only [Int.toNat_natCast,ma,mo]
    intro hx'; simpa [hx'] using q
  ·intro p
   refine ⟨fun u hu => p u (.inl hu),?_⟩
   have := p (m : Int) (.inr rfl)
   simp only [Int.toNat_natCast,ma,mo] at this
   cases x <;> simp_all
theorem Cf {W : World} {base e : Nat} {ok : Nat → Prop} {A : Option Addr} {n c : Nat} {xs : List Bool} (h : Kd.bool.R e W base ok (.slice A n c) xs) {k : Nat} {x : Bool} (hx : xs[k]? = some x) : ∃ ad,A = some ad ∧ W.cell? (ad.add (k * 1)) = some (.bool x) :=
 Au (Kd.R_reads' h).2.2 hx
theorem GK {g : GL} {k : Nat} {x : Int} (h : g.own[k]? = some x) : g.gm.own k = x.toNat := by simp [GL.gm,h]
theorem FC {g : GL} {k : Nat} {r : List Int} (h : g.suc[k]? = some r) : g.gm.suc k = r.map Int.toNat := by simp [GL.gm,h]
theorem H1 {g : GL} {k : Nat} {x : Int} (h : g.pri[k]? = some x) : g.gm.pri k = x.toNat := by simp [GL.gm,h]
theorem shut_step {g : PGame} {i : Nat} {a o : List Bool} {k : Nat} (h : ∀ v,v < k → F4 g i a o v) (hk : F4 g i a o k) : ∀ v,v < k + 1 → F4 g i a o v := fun v hv => by
 by_cases e : v = k
 ·rw [e]; exact hk
 ·exact h v (by omega)
theorem shut_out {g : PGame} {i : Nat} {a o : List Bool} {k : Nat} (h : a[k]? = some false) : F4 g i a o k := fun ha => by unfold mem at ha; rw [h] at ha; cases ha
theorem shut_in {g : PGame} {i : Nat} {a o : List Bool} {k : Nat} (h : o[k]? = some true) : F4 g i a o k := fun _ ho => absurd h ho
theorem shut_own {g : PGame} {i : Nat} {a o : List Bool} {k : Nat} {r : List Int} (hs : g.suc k = r.map Int.toNat) (ho : g.own k = i) (h : ∀ u ∈ r,¬ (mem a u.toNat ∧ mem o u.toNat)) : F4 g i a o k := fun _ _ =>
 ⟨fun _ u hu ha hoo => by rw [hs] at hu; obtain ⟨x,hx,rfl⟩ := List.mem_map.1 hu; exact h x hx ⟨ha,hoo⟩,fun he => absurd ho he⟩
theorem shut_opp {g : PGame} {i : Nat} {a o : List Bool} {k : Nat} {r : List Int} (hs : g.suc k = r.map Int.toNat) (ho : g.own k ≠ i) (h : ¬ ∀ u ∈ r,mem a u.toNat → mem o u.toNat) : F4 g i a o k := fun _ _ =>
 ⟨fun e => absurd e ho,fun _ => by
  refine Classical.byContradiction fun hn => h fun u hu ha => Classical.byContradiction fun hno => hn ⟨u.toNat,by rw [hs]; exact List.mem_map_of_mem hu,ha,hno⟩⟩
theorem EE (g : GL) (hg : g.Ok) (w0 w : World) (p gs : Nat) (OA PA SA : Option Addr) (co cp cS cs : Nat) (hG : GR g w0 OA PA SA) (hSV : SV g w0 p gs OA PA SA co cp cS cs w) (i : Int) (hi : i = 0 ∨ i = 1)
  (A B : Option Addr) (ca cb : Nat) (a t : List Bool) (hla : a.length = g.own.length) (hlt : t.length = g.own.length) (hA : Kd.bool.R 4 w 0 (fun k => k < w.heap.size) (.slice A g.own.length ca) a) (hB : Kd.bool.R 4 w 0 (fun _ => True) (.slice B g.own.length cb) t)
  (hta : ∀ v,mem t v → mem a v) :
  Calls Tryz.prog 97 #[.pointer (some ⟨p,0,none⟩),.slice A g.own.length ca,.int .u8 i,.slice B g.own.length cb] w fun e w' => ∃ C cc o,e = .returned (.slice C g.own.length cc) ∧ o.length = g.own.length ∧ Kd.bool.R 4 w' w.heap.size (fun _ => True) (.slice C g.own.length cc) o ∧
   SV g w0 p gs OA PA SA co cp cS cs w' ∧ w.grownBy w' (some gs) ∧ ∃ rk,g.gm.Attr i.toNat (mem a) (mem t) (mem o) rk := by
 have hn := hg.max
 refine enter 119 Tryz.func97 G G _ (by simp) ?_
 refine asl G<|ms G<|?_
 have hcl := IP B cb t w (by have := (Kd.R_reads' hB).2.2; exact this) (by omega)
 rw [hlt] at hcl
 refine cl LH [] G (hcl.mono ?_)
 rintro e w1 ⟨C,cc,rfl,hC,hb1⟩
 refine ⟨_,rfl,?_⟩
 refine asl G<|lp (σ := List Bool) (fun _ => [(0,.pointer (some ⟨p,0,none⟩)),(1,.slice A g.own.length ca),(2,.int .u8 i),(9,.slice C g.own.length cc)])
  (fun o W => o.length = g.own.length ∧ Kd.bool.R 4 W 0 (fun k => k < w.heap.size) (.slice A g.own.length ca) a ∧ Kd.bool.R 4 W w.heap.size (fun _ => True) (.slice C g.own.length cc) o ∧ SV g w0 p gs OA PA SA co cp cS cs W ∧ w.grownBy W (some gs) ∧ Grow g.gm i.toNat a t o)
  (fun o => g.own.length - cnt o) t ⟨rfl,rfl,rfl,rfl,rfl⟩ ⟨hlt,Kd.R_below hA hb1,hC,hSV.below hb1,B7 (B6 _ _) hb1,Grow.start _ _ _ _ hta⟩ ?_
 rintro o0 f W ⟨hlo,hAW,hCW,hSW,hgW,hgr⟩
 refine ab G<|?_
 have hp2 : W.cell? ⟨p,0 + 0 + 2,none⟩ = some (.slice SA g.suc.length cS) := (Ac hSW.blk 2).trans rfl
 refine mp G<|onc G<|ofa CO G<|ofa Dp G<|old G27 G ‹_›<|oln U27 G<|mi G<|lp (σ := Nat × List Bool × Bool) (fun s => [(0,.pointer (some ⟨p,0,none⟩)),(1,.slice A g.own.length ca),(2,.int .u8 i),(9,.slice C g.own.length cc),(10,.bool s.2.2),(23,.slice SA g.suc.length cS),(24,.int .i64 g.suc.length),(25,.int .i64 s.1)])
  (fun s W => s.1 ≤ g.own.length ∧ s.2.1.length = g.own.length ∧ Kd.bool.R 4 W 0 (fun k => k < w.heap.size) (.slice A g.own.length ca) a ∧ Kd.bool.R 4 W w.heap.size (fun _ => True) (.slice C g.own.length cc) s.2.1 ∧ SV g w0 p gs OA PA SA co cp cS cs W ∧ w.grownBy W (some gs) ∧ Grow g.gm i.toNat a t s.2.1 ∧
   (s.2.2 = true → cnt o0 < cnt s.2.1) ∧ (s.2.2 = false → s.2.1 = o0 ∧ ∀ v,v < s.1 → F4 g.gm i.toNat a o0 v))
  (fun s => g.own.length - s.1) (0,o0,false) ⟨rfl,rfl,rfl,rfl,rfl,rfl,rfl,rfl,rfl⟩ ⟨Nat.zero_le _,hlo,hAW,hCW,hSW,hgW,hgr,by simp,fun _ => ⟨rfl,fun v h => absurd h (Nat.not_lt_zero v)⟩⟩ ?_
 rintro ⟨k,o,ch⟩ f W ⟨hk,hlo,hAW,hCW,hSW,hgW,hgr,hch1,hch2⟩
 simp only at hk hlo hCW hgr hch1 hch2
 have hls := hg.ls
 refine olt G G<|cdd G (fun h => ?_) (fun h => ?_)
 ·have h : k < g.own.length := by omega
  obtain ⟨row,hrow⟩ : ∃ row,g.suc[k]? = some row := ⟨_,gE (by omega)⟩
  obtain ⟨hr0,hr1,hr2⟩ := hg.row k row hrow
  obtain ⟨adS,c,rfl,_,⟨RA,rc,rfl,hrc,hRow⟩,hcS⟩ := DG hG.suc hrow
  have hcS : W.cell? (adS.add (k * 1)) = some (.slice RA row.length rc) := Ae hSW.low (hcS 0 _ rfl)
  refine mi G<|AD U27 Z22 G G (by first | assumption | omega)<|old G22 G ‹_›<|ai G<|asl G<|?_
  obtain ⟨x,hx⟩ : ∃ x,a[k]? = some x := ⟨_,gE (by omega)⟩
  obtain ⟨y,hy⟩ : ∃ y,o[k]? = some y := ⟨_,gE (by omega)⟩
  obtain ⟨adA,rfl,hcA⟩ := Cf hAW hx
  obtain ⟨go,_,hv,hbo,hlo',_⟩ := Kd.R_form hCW (by omega)
  injection hv with hv1 hv2 hv3
  subst hv1
  obtain ⟨_,hgo,hcC⟩ := Cf hCW hy
  cases hgo
  have hstay : (ch = false → F4 g.gm i.toNat a o k) → k + 1 ≤ g.own.length ∧ o.length = g.own.length ∧ Kd.bool.R 4 W 0 (fun k => k < w.heap.size) (.slice (some adA) g.own.length ca) a ∧ Kd.bool.R 4 W w.heap.size (fun _ => True) (.slice (some ⟨go,0,none⟩) g.own.length cc) o ∧ SV g w0 p gs OA PA (some adS) co cp cS cs W ∧ w.grownBy W (some gs) ∧ Grow g.gm i.toNat a t o ∧
   (ch = true → cnt o0 < cnt o) ∧ (ch = false → o = o0 ∧ ∀ v,v < k + 1 → F4 g.gm i.toNat a o0 v) :=
   fun hs => ⟨by omega,hlo,hAW,hCW,hSW,hgW,hgr,hch1,fun e => ⟨(hch2 e).1,shut_step (hch2 e).2 ((hch2 e).1 ▸ hs e)⟩⟩
  cases x with
  | false =>
   refine ms G<|mi G<|AD Bn Z4 G G (by first | assumption | omega)<|old G4 G ‹_›<|ont G<|mb G<|gof G<|gof G<|gof G<|gof G<|ptb G G<|?_
   refine cdt G<|oad G G (by first | assumption | omega)<|mi G<|?_
   exact ⟨(k + 1,o,ch),⟨rfl,rfl,rfl,rfl,rfl,rfl,rfl,rfl,rfl⟩,hstay (fun _ => shut_out hx),by omega⟩
  | true =>
  cases y with
  | true =>
   refine ms G<|mi G<|AD Bn Z4 G G (by first | assumption | omega)<|old G4 G ‹_›<|ont G<|mb G<|gon G<|ms G<|gon G<|mi G<|gon G<|AD Bn Z4 G G (by first | assumption | omega)<|gon G<|old G4 G ‹_›<|pfb G G<|?_
   refine cdt G<|oad G G (by first | assumption | omega)<|mi G<|?_
   exact ⟨(k + 1,o,ch),⟨rfl,rfl,rfl,rfl,rfl,rfl,rfl,rfl,rfl⟩,hstay (fun _ => shut_in hy),by omega⟩
  | false =>
  refine ms G<|mi G<|AD Bn Z4 G G (by first | assumption | omega)<|old G4 G ‹_›<|ont G<|mb G<|gon G<|ms G<|gon G<|mi G<|gon G<|AD Bn Z4 G G (by first | assumption | omega)<|gon G<|old G4 G ‹_›<|pfb G G<|?_
  refine cdf G<|ai G<|ab G<|ms G<|oln U22 G<|mi G<|lp (σ := Nat × Int × Bool) (fun s => [(0,.pointer (some ⟨p,0,none⟩)),(1,.slice (some adA) g.own.length ca),(2,.int .u8 i),(9,.slice (some ⟨go,0,none⟩) g.own.length cc),(10,.bool ch),(11,.int .i64 k),(13,.int .i64 s.2.1),(14,.bool s.2.2),(23,.slice (some adS) g.suc.length cS),(24,.int .i64 g.suc.length),(25,.int .i64 k),(41,.slice RA row.length rc),(42,.int .i64 row.length),(43,.int .i64 s.1)]) (fun s V => V = W ∧ s.1 ≤ row.length ∧ -1 ≤ s.2.1 ∧ s.2.1 ≤ 4096 ∧ AS a o (row.take s.1) s.2.1 s.2.2) (fun s => row.length - s.1) (0,-1,true) ⟨rfl,rfl,rfl,rfl,rfl,rfl,rfl,rfl,rfl,rfl,rfl,rfl,rfl,rfl,rfl⟩ ⟨rfl,Nat.zero_le _,by simp,by simp,by simpa using AS.nil a o⟩ ?_
  rintro ⟨j,su,al⟩ f V ⟨rfl,hj,hs1,hs2,hAS⟩
  simp only at hj hs1 hs2 hAS
  refine olt G G<|cdd G (fun h' => ?_) (fun h' => ?_)
  ·have h' : j < row.length := by omega
   obtain ⟨m,hm⟩ := Int.eq_ofNat_of_zero_le (hr2 _ (List.getElem_mem h')).1
   have hmn : m < g.own.length := by have := (hr2 _ (List.getElem_mem h')).2; omega
   have hrj : row[j]? = some (m : Int) := by rw [gE h',hm]
   obtain ⟨adR,rfl,hcR⟩ := Au hRow hrj
   have hcR := Ae hSW.low hcR
   obtain ⟨x,hx'⟩ : ∃ x,a[m]? = some x := ⟨_,gE (by omega)⟩
   obtain ⟨y,hy'⟩ : ∃ y,o[m]? = some y := ⟨_,gE (by omega)⟩
   obtain ⟨_,hgo,hcA'⟩ := Cf hAW hx'
   cases hgo
   obtain ⟨_,hgo,hcC'⟩ := Cf hCW hy'
   cases hgo
   have hAS' := hAS.snoc m x y hx' hy'
   have htk : row.take (j + 1) = row.take j ++ [(m : Int)] := by rw [List.take_succ_eq_append_getElem h',hm]
   rw [← htk] at hAS'
   refine AD U22 Z3 G G (by first | assumption | omega)<|old G3 G ‹_›<|ai G<|?_
   cases x with
   | false =>
    refine ms G<|mi G<|AD Bn Z4 G G (by first | assumption | omega)<|old G4 G ‹_›<|mb G<|gof G<|gof G<|gof G<|gof G<|pfb G G<|mb G<|gof G<|gof G<|pfb G G<|?_
    refine cdf G ?_
    cases al with
    | false =>
     refine mb G<|mb G<|gof G<|gof G<|gof G<|gof G<|gof G<|gof G<|gof G<|gof G<|gof G<|gof G<|gof G<|pfb G G<|ab G<|oad G G (by first | assumption | omega)<|mi G<|?_
     exact ⟨(j + 1,su,false),⟨rfl,rfl,rfl,rfl,rfl,rfl,rfl,rfl,rfl,rfl,rfl,rfl,rfl,rfl,rfl⟩,⟨rfl,by dsimp only; omega,by dsimp only; omega,by dsimp only; omega,by simpa  using hAS'⟩,by omega⟩
    | true =>
     refine mb G<|mb G<|gon G<|ms G<|gon G<|mi G<|gon G<|AD Bn Z4 G G (by first | assumption | omega)<|gon G<|old G4 G ‹_›<|gon G<|ont G<|gon G<|mb G<|gof G<|gof G<|gof G<|gof G<|gon G<|ptb G G<|ptb G G<|ab G<|?_
     refine oad G G (by first | assumption | omega)<|mi G<|?_
     exact ⟨(j + 1,su,true),⟨rfl,rfl,rfl,rfl,rfl,rfl,rfl,rfl,rfl,rfl,rfl,rfl,rfl,rfl,rfl⟩,⟨rfl,by dsimp only; omega,by dsimp only; omega,by dsimp only; omega,by simpa  using hAS'⟩,by omega⟩
   | true =>
   cases y with
   | false =>
    refine ms G<|mi G<|AD Bn Z4 G G (by first | assumption | omega)<|old G4 G ‹_›<|mb G<|gon G<|ms G<|gon G<|mi G<|gon G<|AD Bn Z4 G G (by first | assumption | omega)<|gon G<|old G4 G ‹_›<|ptb G G<|mb G<|gof G<|gof G<|pfb G G<|?_
    refine cdf G ?_
    cases al with
    | false =>
     refine mb G<|mb G<|gof G<|gof G<|gof G<|gof G<|gof G<|gof G<|gof G<|gof G<|gof G<|gof G<|gof G<|pfb G G<|ab G<|oad G G (by first | assumption | omega)<|mi G<|?_
     exact ⟨(j + 1,su,false),⟨rfl,rfl,rfl,rfl,rfl,rfl,rfl,rfl,rfl,rfl,rfl,rfl,rfl,rfl,rfl⟩,⟨rfl,by dsimp only; omega,by dsimp only; omega,by dsimp only; omega,by simpa  using hAS'⟩,by omega⟩
    | true =>
     refine mb G<|mb G<|gon G<|ms G<|gon G<|mi G<|gon G<|AD Bn Z4 G G (by first | assumption | omega)<|gon G<|old G4 G ‹_›<|gon G<|ont G<|gon G<|mb G<|gon G<|ms G<|gon G<|mi G<|gon G<|AD Bn Z4 G G (by first | assumption | omega)<|gon G<|old G4 G ‹_›<|gon G<|pfb G G<|ptb G G<|ab G<|?_
     refine oad G G (by first | assumption | omega)<|mi G<|?_
     exact ⟨(j + 1,su,false),⟨rfl,rfl,rfl,rfl,rfl,rfl,rfl,rfl,rfl,rfl,rfl,rfl,rfl,rfl,rfl⟩,⟨rfl,by dsimp only; omega,by dsimp only; omega,by dsimp only; omega,by simpa  using hAS'⟩,by omega⟩
   | true =>
    by_cases hsu : su < 0
    ·refine ms G<|mi G<|AD Bn Z4 G G (by first | assumption | omega)<|old G4 G ‹_›<|mb G<|gon G<|ms G<|gon G<|mi G<|gon G<|AD Bn Z4 G G (by first | assumption | omega)<|gon G<|old G4 G ‹_›<|ptb G G<|mb G<|gon G<|mi G<|gon G<|olt G G<|ist (by omega)<|ptb G G<|?_
     refine cdt G<|mi G<|ai G<|?_
     cases al with
     | false =>
      refine mb G<|mb G<|gof G<|gof G<|gof G<|gof G<|gof G<|gof G<|gof G<|gof G<|gof G<|gof G<|gof G<|pfb G G<|ab G<|oad G G (by first | assumption | omega)<|mi G<|?_
      exact ⟨(j + 1,(m : Int),false),⟨rfl,rfl,rfl,rfl,rfl,rfl,rfl,rfl,rfl,rfl,rfl,rfl,rfl,rfl,rfl⟩,⟨rfl,by dsimp only; omega,by dsimp only; omega,by dsimp only; omega,by simpa [hsu] using hAS'⟩,by omega⟩
     | true =>
      refine mb G<|mb G<|gon G<|ms G<|gon G<|mi G<|gon G<|AD Bn Z4 G G (by first | assumption | omega)<|gon G<|old G4 G ‹_›<|gon G<|ont G<|gon G<|mb G<|gon G<|ms G<|gon G<|mi G<|gon G<|AD Bn Z4 G G (by first | assumption | omega)<|gon G<|old G4 G ‹_›<|gon G<|pfb G G<|ptb G G<|ab G<|?_
      refine oad G G (by first | assumption | omega)<|mi G<|?_
      exact ⟨(j + 1,(m : Int),true),⟨rfl,rfl,rfl,rfl,rfl,rfl,rfl,rfl,rfl,rfl,rfl,rfl,rfl,rfl,rfl⟩,⟨rfl,by dsimp only; omega,by dsimp only; omega,by dsimp only; omega,by simpa [hsu] using hAS'⟩,by omega⟩
    ·refine ms G<|mi G<|AD Bn Z4 G G (by first | assumption | omega)<|old G4 G ‹_›<|mb G<|gon G<|ms G<|gon G<|mi G<|gon G<|AD Bn Z4 G G (by first | assumption | omega)<|gon G<|old G4 G ‹_›<|ptb G G<|mb G<|gon G<|mi G<|gon G<|olt G G<|isf (by omega)<|ptb G G<|?_
     refine cdf G ?_
     cases al with
     | false =>
      refine mb G<|mb G<|gof G<|gof G<|gof G<|gof G<|gof G<|gof G<|gof G<|gof G<|gof G<|gof G<|gof G<|pfb G G<|ab G<|oad G G (by first | assumption | omega)<|mi G<|?_
      exact ⟨(j + 1,su,false),⟨rfl,rfl,rfl,rfl,rfl,rfl,rfl,rfl,rfl,rfl,rfl,rfl,rfl,rfl,rfl⟩,⟨rfl,by dsimp only; omega,by dsimp only; omega,by dsimp only; omega,by simpa [hsu] using hAS'⟩,by omega⟩
     | true =>
      refine mb G<|mb G<|gon G<|ms G<|gon G<|mi G<|gon G<|AD Bn Z4 G G (by first | assumption | omega)<|gon G<|old G4 G ‹_›<|gon G<|ont G<|gon G<|mb G<|gon G<|ms G<|gon G<|mi G<|gon G<|AD Bn Z4 G G (by first | assumption | omega)<|gon G<|old G4 G ‹_›<|gon G<|pfb G G<|ptb G G<|ab G<|?_
      refine oad G G (by first | assumption | omega)<|mi G<|?_
      exact ⟨(j + 1,su,true),⟨rfl,rfl,rfl,rfl,rfl,rfl,rfl,rfl,rfl,rfl,rfl,rfl,rfl,rfl,rfl⟩,⟨rfl,by dsimp only; omega,by dsimp only; omega,by dsimp only; omega,by simpa [hsu] using hAS'⟩,by omega⟩
  ·have hjn : j = row.length := by omega
   subst hjn
   rw [List.take_length] at hAS
   obtain ⟨ow,how⟩ : ∃ ow,g.own[k]? = some ow := ⟨_,gE h⟩
   obtain ⟨adO,rfl,hcO⟩ := Au hG.own how
   have hcO := Ae hSW.low hcO
   have hp0 : V.cell? ⟨p,0 + 0 + 0,none⟩ = some (.slice (some adO) g.own.length co) := (Ac hSW.blk 0).trans rfl
   have hp3 : V.cell? ⟨p,0 + 3,none⟩ = some (.slice (some ⟨gs,0,none⟩) g.own.length cs) := (Ac hSW.blk 3).trans rfl
   have hso := FC hrow
   have hoo := GK how
   have how01 := hg.own k ow how
   have hmo : ¬ mem o k := by unfold mem; rw [hy]; simp
   have hlet : ∀ W2 W3,SV g w0 p gs (some adO) PA (some adS) co cp cS cs W2 → w.grownBy W2 (some gs) → Kd.bool.R 4 W2 0 (fun k => k < w.heap.size) (.slice (some adA) g.own.length ca) a → Kd.bool.R 4 W2 w.heap.size (fun _ => True) (.slice (some ⟨go,0,none⟩) g.own.length cc) o → W2.grownBy W3 (some go) → Kd.bool.R 4 W3 w.heap.size (fun _ => True) (.slice (some ⟨go,0,none⟩) g.own.length cc) (o.set k true) → Grow g.gm i.toNat a t (o.set k true) →
    k + 1 ≤ g.own.length ∧ (o.set k true).length = g.own.length ∧ Kd.bool.R 4 W3 0 (fun k => k < w.heap.size) (.slice (some adA) g.own.length ca) a ∧ Kd.bool.R 4 W3 w.heap.size (fun _ => True) (.slice (some ⟨go,0,none⟩) g.own.length cc) (o.set k true) ∧ SV g w0 p gs (some adO) PA (some adS) co cp cS cs W3 ∧ w.grownBy W3 (some gs) ∧ Grow g.gm i.toNat a t (o.set k true) ∧
    (true = true → cnt o0 < cnt (o.set k true)) ∧ (true = false → o.set k true = o0 ∧ ∀ v,v < k + 1 → F4 g.gm i.toNat a o0 v) := fun W2 W3 hS2 hg2 hA2 hC2 hg3 hC3 hgr3 =>
    ⟨by omega,by simpa using hlo,Kd.R_grown hA2 hg3 (fun k' hk' e => by injection e with e; omega),hC3,hS2.row hC2 hSV.low.size hg3,AF hg2 hg3 (fun b hb => by cases hb; exact hbo),hgr3,
     fun _ => by
      rw [cnt_set (by omega) hmo]
      cases ch with
      | true => have := hch1 rfl; omega
      | false => rw [(hch2 rfl).1]; omega,
     fun e => by cases e⟩
   by_cases ho : ow = i
   ·have hoi : g.gm.own k = i.toNat := by rw [hoo,ho]
    by_cases hsu : 0 ≤ su
    ·obtain ⟨st,hst⟩ := hSW.st
     refine mp G<|onc G<|ofa CO G<|ofa BQ G<|old G26 G ‹_›<|mi G<|AD U26 Z5 G G (by first | assumption | omega)<|old G5 G ‹_›<|mi G<|oeq G G<|ist (by omega)<|mb G<|gon G<|mi G<|gon G<|oge G G<|ist (by omega)<|ptb G G<|?_
     refine cdt G<|mp G<|onc G<|ofa Ic G<|old G22 G ‹_›<|mi G<|mi G<|AD U22 Z3 G G (by first | assumption | omega)<|?_
     refine CG S3 hst (k := k) (by omega) G G ?_
     intro W2 hst2 hg2
     have hS2 := hSW.move hst2 hg2
     have hA2 := hSW.set hAW hg2
     have hC2 := hSW.set hCW hg2
     refine ms G<|mi G<|AD Bn Z4 G G (by first | assumption | omega)<|?_
     refine CG S4 hC2 (k := k) (by omega) G G ?_
     intro W3 hC3 hg3
     refine ab G<|oad G G (by first | assumption | omega)<|mi G<|?_
     refine ⟨(k + 1,o.set k true,true),⟨rfl,rfl,rfl,rfl,rfl,rfl,rfl,rfl,rfl⟩,hlet W2 W3 hS2 (Cr hgW hg2) hA2 hC2 hg3 hC3 (hgr.step k (by omega) hx hmo (.inl ⟨hoi,?_⟩)),by omega⟩
     rcases hAS.1 with ⟨e,_⟩ | ⟨_,h2,h3,h4⟩
     ·omega
     ·exact ⟨su.toNat,by rw [hso]; exact List.mem_map_of_mem h2,h3,h4⟩
    ·refine mp G<|onc G<|ofa CO G<|ofa BQ G<|old G26 G ‹_›<|mi G<|AD U26 Z5 G G (by first | assumption | omega)<|old G5 G ‹_›<|mi G<|oeq G G<|ist (by omega)<|mb G<|gon G<|mi G<|gon G<|oge G G<|isf (by omega)<|ptb G G<|?_
     refine cdf G<|mp G<|onc G<|ofa CO G<|ofa BQ G<|old G26 G ‹_›<|mi G<|AD U26 Z5 G G (by first | assumption | omega)<|old G5 G ‹_›<|mi G<|oeq G G<|ist (by omega)<|mb G<|gof G<|gof G<|ptb G G<|?_
     refine cdt G<|oad G G (by first | assumption | omega)<|mi G<|?_
     refine ⟨(k + 1,o,ch),⟨rfl,rfl,rfl,rfl,rfl,rfl,rfl,rfl,rfl⟩,hstay (fun _ => shut_own hso hoi ?_),by omega⟩
     rcases hAS.1 with ⟨_,h2⟩ | ⟨h1,_⟩
     ·exact h2
     ·omega
   ·have hoi : g.gm.own k ≠ i.toNat := by rw [hoo]; omega
    refine mp G<|onc G<|ofa CO G<|ofa BQ G<|old G26 G ‹_›<|mi G<|AD U26 Z5 G G (by first | assumption | omega)<|old G5 G ‹_›<|mi G<|oeq G G<|isf (by omega)<|mb G<|gof G<|gof G<|pfb G G<|?_
    refine cdf G ?_
    cases al with
    | false =>
     refine mp G<|onc G<|ofa CO G<|ofa BQ G<|old G26 G ‹_›<|mi G<|AD U26 Z5 G G (by first | assumption | omega)<|old G5 G ‹_›<|mi G<|oeq G G<|isf (by omega)<|mb G<|gon G<|mb G<|gon G<|ont G<|pfb G G<|?_
     refine cdt G<|oad G G (by first | assumption | omega)<|mi G<|?_
     refine ⟨(k + 1,o,ch),⟨rfl,rfl,rfl,rfl,rfl,rfl,rfl,rfl,rfl⟩,hstay (fun _ => shut_opp hso hoi (fun h => ?_)),by omega⟩
     have := hAS.2.2 h
     cases this
    | true =>
     refine mp G<|onc G<|ofa CO G<|ofa BQ G<|old G26 G ‹_›<|mi G<|AD U26 Z5 G G (by first | assumption | omega)<|old G5 G ‹_›<|mi G<|oeq G G<|isf (by omega)<|mb G<|gon G<|mb G<|gon G<|ont G<|pfb G G<|?_
     refine cdf G<|ms G<|mi G<|AD Bn Z4 G G (by first | assumption | omega)<|?_
     refine CG S4 hCW (k := k) (by omega) G G ?_
     intro W3 hC3 hg3
     refine ab G<|oad G G (by first | assumption | omega)<|mi G<|?_
     refine ⟨(k + 1,o.set k true,true),⟨rfl,rfl,rfl,rfl,rfl,rfl,rfl,rfl,rfl⟩,hlet V W3 hSW hgW hAW hCW hg3 hC3 (hgr.step k (by omega) hx hmo (.inr ⟨hoi,fun u hu ha => ?_⟩)),by omega⟩
     rw [hso] at hu
     obtain ⟨z,hz,rfl⟩ := List.mem_map.1 hu
     exact hAS.2.1 rfl z hz ha
 ·have hkn : k = g.own.length := by omega
  subst hkn
  cases ch with
  | true =>
   refine mb G<|ont G<|cdf G ?_
   have := hch1 rfl
   have := cnt_le o
   exact ⟨o,⟨rfl,rfl,rfl,rfl,rfl⟩,⟨hlo,hAW,hCW,hSW,hgW,hgr⟩,by omega⟩
  | false =>
   refine mb G<|ont G<|cdt G<|ms G<|asl G<|?_
   obtain ⟨ho0,hsh⟩ := hch2 rfl
   rw [← ho0] at hsh
   exact rt1 rfl rfl ⟨C,cc,o,rfl,hlo,hCW,hSW,hgW,hgr.attr (fun v hv => hsh v (by omega))⟩
section
variable {n : Nat} {P : Program} {ops : Array Oper} {rest : List Oper} {Q : Bd n} {W : World} {f : Fm n} {d : Tmp} {ty t t' : TypeId} {x y : Operand} {pos : String} {aft : Array Edge}
theorem orm_ {k : IntKind} {i j : Int} (hx : ex f x = .int k i) (hy : ex f y = .int k j) (h : 0 ≤ i ∧ 0 < j) : Pv P (.binOp .rem t x y t') ty f (.int k (i % j)) := fun W => by
 have h1 : j ≠ 0 := by omega
 have h2 : i.tmod j = i % j := Int.tmod_eq_emod_of_nonneg h.1
 simp [Ru,execOp,hx,hy,go_sem,h1,h2]
theorem orm {k : IntKind} {i j : Int} (hx : ex f x = .int k i) (hy : ex f y = .int k j) (h : 0 ≤ i ∧ 0 < j) (r : RL P ops Q rest (up f d (.int k (i % j))) W) : LS P ops Q ⟨some d,.binOp .rem t x y t',ty,pos,aft,none⟩ rest f W := Bq (orm_ hx hy h) r
theorem ocv8_ {k : IntKind} {i : Int} {src dst : TypeId} {ds : TypeDesc} (hs : P.underlying src = some ds) (hd : P.underlying dst = some (.int .u8)) (hx : ex f x = .int k i) (h : 0 ≤ i ∧ i ≤ 255) : Pv P (.convert src dst x) ty f (.int .u8 i) := fun W => by
 have := IntWalk.u8_in i h
 simp [Ru,execOp,hx,go_sem,convert,run_underlying hs,run_underlying hd,Conv.intToInt,this]
end
theorem Bm {W W1 : World} {base b t : Nat} {ok : Nat → Prop} {v : Value} {xs : List Bool} {cs : Array Value} (hr : Kd.bool.R 4 W base ok v xs) (hb : W.heap[b]? = some (.cells cs t (0,0))) (ht : 4 ≠ t) (hg : W.grownBy W1 (some b)) : Kd.bool.R 4 W1 base ok v xs :=
 Kd.R_drop (ok' := fun k => k ≠ b) (Kd.R_grown (Kd.R_types hr hb (by intro q hq; simp [Kd.bool,Kd.scalar] at hq; rw [hq]; exact ht)) hg (fun k hk e => hk.2 (by injection e)))
theorem FR {W : World} {base : Nat} {v : Value} {xs : List Bool} (hr : Kd.bool.R 4 W base (fun _ => True) v xs) : Kd.bool.R 4 W base (fun k => k < W.heap.size) v xs := Kd.R_mono (Kd.R_bound hr) (fun _ h => h.2.2.1)
theorem Bg {W : World} {base : Nat} {ok : Nat → Prop} {v : Value} {xs : List Bool} (hr : Kd.bool.R 4 W base ok v xs) : Kd.bool.R 4 W 0 (fun _ => True) v xs := Kd.R_lower (Kd.R_mono hr (fun _ _ => trivial)) (Nat.zero_le _)
structure SO (g : GL) (w0 : World) (p gs : Nat) (OA PA SA : Option Addr) (co cp cS cs : Nat) (w : World) (bi : Nat) (inV : Value) (a : List Bool) (W : World) : Prop where
 sv : SV g w0 p gs OA PA SA co cp cS cs W
 gr : w.grownBy W (some gs)
 box : W.heap[bi]? = some (.cells #[inV] 133 (0,0))
 rin : Kd.bool.R 4 W 0 (fun k => k < w.heap.size) inV a
 lw : w0.heap.size ≤ w.heap.size
section
variable {g : GL} {w0 w W W1 : World} {p gs bi : Nat} {OA PA SA : Option Addr} {co cp cS cs : Nat} {inV : Value} {a : List Bool}
theorem SO.below (h : SO g w0 p gs OA PA SA co cp cS cs w bi inV a W) (hb : Below W.heap.size W W1) : SO g w0 p gs OA PA SA co cp cS cs w bi inV a W1 :=
 ⟨h.sv.below hb,B7 h.gr hb,Ab h.box hb,Kd.R_below h.rin hb,h.lw⟩
theorem Ck (h : SV g w0 p gs OA PA SA co cp cS cs W) {b t : Nat} {xs : Array Value} (hb : W.heap[b]? = some (.cells xs t (0,0))) (ht : t ≠ 3) (hg : W.grownBy W1 (some gs)) : W1.heap[b]? = some (.cells xs t (0,0)) := by
 obtain ⟨cells,hc⟩ := h.gs_typed
 exact Ar hb hg (fun e => An hb hc ht (by injection e))
theorem SO.moved (h : SO g w0 p gs OA PA SA co cp cS cs w bi inV a W) (hs : SV g w0 p gs OA PA SA co cp cS cs W1) (hg : W.grownBy W1 (some gs)) : SO g w0 p gs OA PA SA co cp cS cs w bi inV a W1 :=
 ⟨hs,Cr h.gr hg,Ck h.sv h.box (by decide) hg,h.sv.set h.rin hg,h.lw⟩
theorem SO.row (h : SO g w0 p gs OA PA SA co cp cS cs w bi inV a W) {base : Nat} {ok : Nat → Prop} {v : Value} {xs : List Bool} (hr : Kd.bool.R 4 W base ok v xs) (hbase : w.heap.size ≤ base) (hg : W.grownBy W1 v.ownBlock) : SO g w0 p gs OA PA SA co cp cS cs w bi inV a W1 := by
 refine ⟨h.sv.row hr (Nat.le_trans h.lw hbase) hg,AF h.gr hg (fun b hb => Nat.le_trans hbase (Kd.R_base hr b hb)),?_,Kd.R_grown h.rin hg (fun k hk e => ?_),h.lw⟩
 ·exact Ar h.box hg (fun e => by obtain ⟨c,hc⟩ := Kd.R_typed hr bi e.symm; exact An h.box hc (by decide) rfl)
 ·have := Kd.R_base hr k e.symm; omega
theorem SO.win (h : SO g w0 p gs OA PA SA co cp cS cs w bi inV a W) {b : Nat} {xs : Array Value} (hb : W.heap[b]? = some (.cells xs 134 (0,0))) (hlb : w.heap.size ≤ b) (hg : W.grownBy W1 (some b)) : SO g w0 p gs OA PA SA co cp cS cs w bi inV a W1 := by
 obtain ⟨ys,hy⟩ := h.sv.st
 obtain ⟨cells,hc⟩ := h.sv.gs_typed
 refine ⟨⟨h.sv.low.grown hg h.sv.low.size (fun k hk => by cases hk; exact Nat.le_trans h.lw hlb),Ar h.sv.blk hg (fun e => An h.sv.blk hb (by decide) (by injection e)),ys,?_⟩,AF h.gr hg (fun k hk => by cases hk; exact hlb),Ar h.box hg (fun e => An h.box hb (by decide) (by injection e)),Bm h.rin hb (by decide) hg,h.lw⟩
 exact Kd.R_drop (ok' := fun k => k ≠ b) (Kd.R_grown (Kd.R_types hy hb (by intro q hq; simp [Kd.int,Kd.scalar] at hq; rw [hq]; decide)) hg (fun k hk e => hk.2 (by injection e)))
end
theorem in100 (w : World) (bi : Nat) (A : Option Addr) (ca : Nat) (a : List Bool) (u : Nat) (x : Bool) (hb : w.heap[bi]? = some (.cells #[.slice A a.length ca] 133 (0,0))) (hA : Kd.bool.C w A a.length a) (hu : a[u]? = some x) :
  Calls Tryz.prog 100 #[.int .i64 u,.pointer (some ⟨bi,0,none⟩)] w fun e w' => e = .returned (.bool x) ∧ w' = w := by
 have hlt : u < a.length := (List.getElem?_eq_some_iff.1 hu).1
 obtain ⟨ad,rfl,hc⟩ := Au hA hu
 have hb0 : w.cell? ⟨bi,0,none⟩ = some (.slice (some ad) a.length ca) := (Ac hb 0).trans rfl
 refine enter 8 Tryz.func100 G G _ (by simp) ?_
 refine ab G<|old Ci G ‹_›<|mi G<|AD Bn Z4 G G (by first | assumption | omega)<|old G4 G ‹_›<|ab G<|?_
 exact rt1 rfl rfl ⟨rfl,rfl⟩
theorem index99 (w : World) (bi : Nat) (A RA : Option Addr) (ca rc : Nat) (a : List Bool) (row : List Int) (hb : w.heap[bi]? = some (.cells #[.slice A a.length ca] 133 (0,0))) (hA : Kd.bool.C w A a.length a) (hR : (Kd.int .i64).C w RA row.length row) (hl : row.length ≤ 4096)
  (hu : ∀ u ∈ row,0 ≤ u ∧ u < a.length) (hex : ∃ u ∈ row,mem a u.toNat) :
  ∃ j : Nat,j < row.length ∧ Calls Tryz.prog 99 #[.slice RA row.length rc,.func (.func 100) #[] #[.pointer (some ⟨bi,0,none⟩)]] w fun e w' => e = .returned (.int .i64 j) ∧ w' = w := by
 have hpl : ∃ j : Nat,j < row.length ∧ (∀ i,i < j → ∀ m : Nat,row[i]? = some (m : Int) → a[m]? = some false) ∧ ∀ m : Nat,row[j]? = some (m : Int) → a[m]? = some true := by
  have hq : ∃ j,j < row.length ∧ ∀ m : Nat,row[j]? = some (m : Int) → a[m]? = some true := by
   obtain ⟨u,hur,hum⟩ := hex
   obtain ⟨j,hj,e⟩ := List.getElem_of_mem hur
   refine ⟨j,hj,fun m hm => ?_⟩
   rw [gE hj,e] at hm
   injection hm with hm
   subst hm
   exact hum
  obtain ⟨j,⟨hj,h1⟩,hmin⟩ := PGame.exists_min (fun j => j < row.length ∧ ∀ m : Nat,row[j]? = some (m : Int) → a[m]? = some true) (fun j => j) hq
  refine ⟨j,hj,fun i hi m hm => ?_,h1⟩
  have hmr := List.mem_of_getElem? hm
  have := hu _ hmr
  cases e : a[m]? with
  | none => rw [List.getElem?_eq_none_iff] at e; omega
  | some x =>
   cases x with
   | false => rfl
   | true =>
    have := hmin i ⟨by omega,fun m' hm' => by rw [hm] at hm'; injection hm' with hm'; have : m = m' := (by omega); subst this; exact e⟩
    omega
 obtain ⟨j,hj,h1,h2⟩ := hpl
 refine ⟨j,hj,?_⟩
 refine enter 19 Tryz.func99 G G _ (by simp) ?_
 refine ai G<|ms G<|oln U22 G<|mi G<|lp (σ := Nat) (fun k => [(0,.slice RA row.length rc),(1,.func (.func 100) #[] #[.pointer (some ⟨bi,0,none⟩)]),(7,.int .i64 row.length),(8,.int .i64 k)])
  (fun k W => W = w ∧ k ≤ j) (fun k => row.length - k) 0 ⟨rfl,rfl,rfl,rfl,rfl⟩ ⟨rfl,Nat.zero_le _⟩ ?_
 rintro k f W ⟨rfl,hk⟩
 refine olt G G<|cdT G (by omega) ?_
 obtain ⟨m,hm⟩ := Int.eq_ofNat_of_zero_le (hu _ (List.getElem_mem (show k < row.length by omega))).1
 have hrk : row[k]? = some (m : Int) := by rw [gE (by omega),hm]
 have hml : m < a.length := by have := (hu _ (List.mem_of_getElem? hrk)).2; omega
 obtain ⟨x,hx⟩ : ∃ x,a[m]? = some x := ⟨_,gE hml⟩
 obtain ⟨ad,rfl,hc⟩ := Au hR hrk
 refine mi G<|ai G<|mf G<|ms G<|mi G<|AD U22 Z3 G G (by first | assumption | omega)<|old G3 G ‹_›<|?_
 refine cl C100 [.pointer (some ⟨bi,0,none⟩)] G ((in100 W bi A ca a m x hb hA hx).mono ?_)
 rintro e w' ⟨rfl,rfl⟩
 refine ⟨_,rfl,?_⟩
 by_cases e : k = j
 ·subst e
  have := h2 m hrk
  rw [hx] at this; injection this with this; subst this
  refine cdt G<|mi G<|ai G<|?_
  exact rt1 rfl rfl ⟨rfl,rfl⟩
 ·have := h1 k (by omega) m hrk
  rw [hx] at this; injection this with this; subst this
  refine cdf G<|oad G G (by first | assumption | omega)<|mi G<|?_
  exact ⟨k + 1,⟨rfl,rfl,rfl,rfl,rfl⟩,⟨rfl,by omega⟩,by omega⟩
theorem He : ∀ w,(isAgg 134).run Tryz.prog w = .ok true w := fun _ => by kernel_rfl
theorem Dd : ∀ w,(sizeOf 134).run Tryz.prog w = .ok 2 w := fun _ => by kernel_rfl
theorem BZ (n v : Nat) : ¬ mem (List.replicate n false) v := by
 unfold mem
 rw [List.getElem?_replicate]
 split <;> simp
theorem CH {a o : List Bool} {v : Nat} (h : o.length = a.length) : mem (List.zipWith (fun x y => x && !y) a o) v ↔ mem a v ∧ ¬ mem o v := by
 unfold mem
 rw [List.getElem?_zipWith]
 by_cases hv : v < a.length
 ·rw [gE hv,gE (by omega : v < o.length)]
  cases a[v] <;> cases o[v]'(by omega) <;> simp
 ·rw [List.getElem?_eq_none (by omega)]
  simp
theorem mem_or {a o : List Bool} {v : Nat} (h : o.length = a.length) : mem (List.zipWith (fun x y => x || y) a o) v ↔ mem a v ∨ mem o v := by
 unfold mem
 rw [List.getElem?_zipWith]
 by_cases hv : v < a.length
 ·rw [gE hv,gE (by omega : v < o.length)]
  cases a[v] <;> cases o[v]'(by omega) <;> simp
 ·rw [List.getElem?_eq_none (by omega),List.getElem?_eq_none (by omega : o.length ≤ v)]
  simp
theorem cnt_lt {a b : List Bool} (h : ∀ v,mem b v → mem a v) (hl : b.length = a.length) (v : Nat) (hv : mem a v) (hb : ¬ mem b v) : cnt b < cnt a := by
 induction a generalizing b v with
 | nil => cases GC hv
 | cons x a ih =>
  cases b with
  | nil => cases hl
  | cons y b =>
   have hs : ∀ u,mem b u → mem a u := fun u hu => h (u + 1) hu
   have hl' : b.length = a.length := by simpa using hl
   have hle : ∀ (a b : List Bool),b.length = a.length → (∀ u,mem b u → mem a u) → cnt b ≤ cnt a := by
    intro a
    induction a with
    | nil => intro b hb _; have : b = [] := List.length_eq_zero_iff.1 hb; subst this; exact Nat.le_refl _
    | cons x a ih =>
     intro b hb hs
     cases b with
     | nil => cases hb
     | cons y b =>
      have h1 := ih b (by simpa using hb) (fun u hu => hs (u + 1) hu)
      have h2 : y = true → x = true := fun e => by have := hs 0 (by rw [e]; rfl); simpa [mem] using this
      simp only [cnt,List.count_cons] at h1 ⊢
      cases x <;> cases y <;> simp_all <;> omega
   have h2 : y = true → x = true := fun e => by have := h 0 (by rw [e]; rfl); simpa [mem] using this
   cases v with
   | zero =>
    have hx : x = true := by simpa [mem] using hv
    have hy : y = false := by
     cases y with
     | false => rfl
     | true => exact absurd rfl hb
    subst hx; subst hy
    have := hle a b hl' hs
    simp only [cnt,List.count_cons] at this ⊢
    simp; omega
   | succ v =>
    have := ih hs hl' v hv hb
    simp only [cnt,List.count_cons] at this ⊢
    cases x <;> cases y <;> simp_all <;> omega
theorem minus_any (A A' : Option Addr) (c c' : Nat) (s t : List Bool) (w : World) (hs : Kd.bool.C w A s.length s) (ht : Kd.bool.C w A' t.length t) (hl : t.length = s.length) (hb : s.length ≤ 4096) :
  Calls Tryz.prog 96 #[.slice A s.length c,.slice A' t.length c'] w fun e w' => ∃ v,e = .returned v ∧ Kd.R Kd.bool 4 w' w.heap.size (fun _ => True) v (List.zipWith (fun a b => a && !b) s t) ∧ Below w.heap.size w w' := by
 refine enter 31 Tryz.func96 G G _ (by simp) ?_
 refine asl G<|ms G<|oln Bn G<|omk Kd.bool Bn I4 G G false (fun _ => rfl) (by omega) G (by decide) (by decide) ?_
 intro A1 c1 w1 hr hb1
 refine asl G<|ms G<|oln Bn G<|mi G<|lp (σ := Nat) (fun k => [(0,.slice A s.length c),(1,.slice A' t.length c'),(5,.slice A1 s.length c1),(11,.int .i64 s.length),(12,.int .i64 k)])
  (fun k W => k ≤ s.length ∧ Below w.heap.size w W ∧ Kd.R Kd.bool 4 W w.heap.size (fun _ => True) (.slice A1 s.length c1) ((List.zipWith (fun a b => a && !b) s t).take k ++ List.replicate (s.length - k) false))
  (fun k => s.length - k) 0 ⟨rfl,rfl,rfl,rfl,rfl,rfl⟩ ⟨Nat.zero_le _,hb1,by simpa using hr⟩ ?_
 rintro k f W ⟨hk,hB,hR⟩
 refine olt G G<|cdd G (fun h => ?_) (fun h => ?_)
 ·have h : k < s.length := by omega
  obtain ⟨ad,rfl,hc⟩ := Au hs (gE h)
  obtain ⟨ad',rfl,hc'⟩ := Au ht (gE (show k < t.length by omega))
  have hc := Ae hB hc
  have hc' := Ae hB hc'
  obtain ⟨g,cap,hv,hbg,hgl,_⟩ := Kd.R_form hR (by simp; omega)
  injection hv with hv1 hv2 hv3
  subst hv1
  have hst := Ey (List.zipWith (fun a b => a && !b) s t) false s.length k (by simp; omega) (by simp; omega)
  rw [List.getElem_zipWith] at hst
  refine mi G<|ai G<|?_
  cases hsk : s[k] <;> rw [hsk] at hc hst
  ·refine ms G<|mi G<|ms G<|mi G<|AD Bn Z4 G G (by first | assumption | omega)<|old G4 G ‹_›<|mb G<|gof G<|gof G<|gof G<|gof G<|gof G<|pfb G G<|AD Bn Z4 G G (by first | assumption | omega)<|?_
   refine CG S4 hR (k := k) (by omega) G G ?_
   intro w2 hR2 hg2
   refine oad G G (by first | assumption | omega)<|mi G<|?_
   refine ⟨k + 1,⟨rfl,rfl,rfl,rfl,rfl,rfl⟩,⟨by omega,hB.grown hg2 hB.size (by rintro _ ⟨⟩; exact hbg),?_⟩,by omega⟩
   rw [← hst]; exact hR2
  ·refine ms G<|mi G<|ms G<|mi G<|AD Bn Z4 G G (by first | assumption | omega)<|old G4 G ‹_›<|mb G<|gon G<|ms G<|gon G<|mi G<|gon G<|AD Bn Z4 G G (by first | assumption | omega)<|gon G<|old G4 G ‹_›<|gon G<|ont G<|ptb G G<|AD Bn Z4 G G (by first | assumption | omega)<|?_
   refine CG S4 hR (k := k) (by omega) G G ?_
   intro w2 hR2 hg2
   refine oad G G (by first | assumption | omega)<|mi G<|?_
   refine ⟨k + 1,⟨rfl,rfl,rfl,rfl,rfl,rfl⟩,⟨by omega,hB.grown hg2 hB.size (by rintro _ ⟨⟩; exact hbg),?_⟩,by omega⟩
   rw [← hst]; exact hR2
 ·have hkn : k = s.length := by omega
  subst hkn
  refine ms G<|asl G<|rt1 G G ⟨_,rfl,?_,hB⟩
  rwa [Fg _ _ _ (by simp; omega)] at hR
theorem Fc (A A' : Option Addr) (c c' n : Nat) (s t : List Bool) (w : World) (hls : s.length = n) (hlt : t.length = n) (hs : Kd.bool.C w A s.length s) (ht : Kd.bool.C w A' t.length t) (hb : n ≤ 4096) :
  Calls Tryz.prog 96 #[.slice A n c,.slice A' n c'] w fun e w' => ∃ B cB,e = .returned (.slice B n cB) ∧ Kd.R Kd.bool 4 w' w.heap.size (fun _ => True) (.slice B n cB) (List.zipWith (fun a b => a && !b) s t) ∧ Below w.heap.size w w' := by
 subst hls
 have h := minus_any A A' c c' s t w hs ht hlt hb
 rw [hlt] at h
 refine h.mono ?_
 rintro e w' ⟨v,rfl,hr,hB⟩
 obtain ⟨B,cB,rfl⟩ := Kd.R_slice hr
 have : (List.zipWith (fun a b => a && !b) s t).length = s.length := by simp [hlt]
 rw [this] at hr ⊢
 exact ⟨B,cB,rfl,hr,hB⟩
structure SE (g : GL) (w0 : World) (p gs : Nat) (OA PA SA : Option Addr) (co cp cS cs : Nat) (w : World) (bi : Nat) (inV : Value) (a : List Bool) (bw : Nat) (A0 : Option Addr) (c0 : Nat) (A1 : Option Addr) (c1 : Nat) (z0 z1 : List Bool) (W : World) : Prop where
 so : SO g w0 p gs OA PA SA co cp cS cs w bi inV a W
 win : W.heap[bw]? = some (.cells #[.slice A0 g.own.length c0,.slice A1 g.own.length c1] 134 (0,0))
 lw : w.heap.size ≤ bw
 r0 : Kd.bool.R 4 W 0 (fun _ => True) (.slice A0 g.own.length c0) z0
 r1 : Kd.bool.R 4 W 0 (fun _ => True) (.slice A1 g.own.length c1) z1
section
variable {g : GL} {w0 w W W1 : World} {p gs bi bw : Nat} {OA PA SA A0 A1 : Option Addr} {co cp cS cs c0 c1 : Nat} {inV : Value} {a z0 z1 : List Bool}
theorem SE.below (h : SE g w0 p gs OA PA SA co cp cS cs w bi inV a bw A0 c0 A1 c1 z0 z1 W) (hb : Below W.heap.size W W1) : SE g w0 p gs OA PA SA co cp cS cs w bi inV a bw A0 c0 A1 c1 z0 z1 W1 :=
 ⟨h.so.below hb,Ab h.win hb,h.lw,Kd.R_below h.r0 hb |> Bg,Kd.R_below h.r1 hb |> Bg⟩
theorem SE.moved (h : SE g w0 p gs OA PA SA co cp cS cs w bi inV a bw A0 c0 A1 c1 z0 z1 W) (hs : SV g w0 p gs OA PA SA co cp cS cs W1) (hg : W.grownBy W1 (some gs)) : SE g w0 p gs OA PA SA co cp cS cs w bi inV a bw A0 c0 A1 c1 z0 z1 W1 :=
 ⟨h.so.moved hs hg,Ck h.so.sv h.win (by decide) hg,h.lw,h.so.sv.set h.r0 hg,h.so.sv.set h.r1 hg⟩
theorem SE.put (h : SE g w0 p gs OA PA SA co cp cS cs w bi inV a bw A0 c0 A1 c1 z0 z1 W) {B0 B1 : Option Addr} {e0 e1 : Nat} {y0 y1 : List Bool} (hg : W.grownBy W1 (some bw))
  (hw : W1.heap[bw]? = some (.cells #[.slice B0 g.own.length e0,.slice B1 g.own.length e1] 134 (0,0))) (h0 : Kd.bool.R 4 W 0 (fun _ => True) (.slice B0 g.own.length e0) y0) (h1 : Kd.bool.R 4 W 0 (fun _ => True) (.slice B1 g.own.length e1) y1) :
  SE g w0 p gs OA PA SA co cp cS cs w bi inV a bw B0 e0 B1 e1 y0 y1 W1 :=
 ⟨h.so.win h.win h.lw hg,hw,h.lw,Bm h0 h.win (by decide) hg,Bm h1 h.win (by decide) hg⟩
theorem SE.own (h : SE g w0 p gs OA PA SA co cp cS cs w bi inV a bw A0 c0 A1 c1 z0 z1 W) : Kd.bool.R 4 W 0 (fun k => k < W.heap.size) inV a := FR (Bg h.so.rin)
end
def tgt (g : GL) (a : List Bool) (d : Int) : List Bool := List.zipWith (fun x y => x && decide (y = d)) a g.pri
theorem tgt_len {g : GL} {a : List Bool} {d : Int} (h : g.pri.length = a.length) : (tgt g a d).length = a.length := by simp [tgt,h]
theorem mem_tgt {g : GL} {a : List Bool} {d : Int} (h : g.pri.length = a.length) (hp : ∀ (v : Nat) (x : Int),g.pri[v]? = some x → 0 ≤ x ∧ x ≤ 16) (hd : 0 ≤ d) {v : Nat} : mem (tgt g a d) v ↔ mem a v ∧ g.gm.pri v = d.toNat := by
 unfold mem tgt
 rw [List.getElem?_zipWith]
 by_cases hv : v < a.length
 ·rw [gE hv,gE (by omega : v < g.pri.length)]
  have h1 := hp v _ (gE (by omega : v < g.pri.length))
  have h2 := H1 (gE (by omega : v < g.pri.length))
  rw [h2]
  cases a[v] <;> simp <;> omega
 ·rw [List.getElem?_eq_none (by omega)]
  simp
theorem U3 : Tryz.prog.underlying 3 = some (.int .i64) := by kernel_rfl
theorem U5 : Tryz.prog.underlying 5 = some (.int .u8) := by kernel_rfl
section
variable {g : GL} {w0 w W W1 : World} {p gs bi bw : Nat} {OA PA SA A0 A1 : Option Addr} {co cp cS cs c0 c1 : Nat} {inV : Value} {a z0 z1 : List Bool}
theorem SE.lost (h : SE g w0 p gs OA PA SA co cp cS cs w bi inV a bw A0 c0 A1 c1 z0 z1 W) {b : Nat} {xs : Array Value} (hb : W.heap[b]? = some (.cells xs 134 (0,0))) (hlb : w.heap.size ≤ b) (hne : b ≠ bw) (hg : W.grownBy W1 (some b)) : SE g w0 p gs OA PA SA co cp cS cs w bi inV a bw A0 c0 A1 c1 z0 z1 W1 :=
 ⟨h.so.win hb hlb hg,Ar h.win hg (fun e => hne (by injection e with e; exact e.symm)),h.lw,Bm h.r0 hb (by decide) hg,Bm h.r1 hb (by decide) hg⟩
theorem SE.row0 (h : SE g w0 p gs OA PA SA co cp cS cs w bi inV a bw A0 c0 A1 c1 z0 z1 W) {B : Nat} {v : Value} {ys : List Bool} {ok' : Nat → Prop} (hr : Kd.bool.R 4 W B ok' v ys) (hB : w.heap.size ≤ B) (hg : W.grownBy W1 v.ownBlock)
  {y0 y1 : List Bool} (h0 : Kd.bool.R 4 W1 0 (fun _ => True) (.slice A0 g.own.length c0) y0) (h1 : Kd.bool.R 4 W1 0 (fun _ => True) (.slice A1 g.own.length c1) y1) : SE g w0 p gs OA PA SA co cp cS cs w bi inV a bw A0 c0 A1 c1 y0 y1 W1 :=
 ⟨h.so.row hr hB hg,Ar h.win hg (fun e => by obtain ⟨c,hc⟩ := Kd.R_typed hr bw e.symm; exact An h.win hc (by decide) rfl),h.lw,h0,h1⟩
end
theorem CV {W W1 : World} {B : Nat} {v u : Value} {xs ys : List Bool} {ok : Nat → Prop} (hr : Kd.bool.R 4 W B ok v ys) (hu : Kd.bool.R 4 W 0 (fun k => k < B) u xs) (hg : W.grownBy W1 v.ownBlock) : Kd.bool.R 4 W1 0 (fun k => k < B) u xs :=
 Kd.R_grown hu hg (fun k hk e => by have := Kd.R_base hr k e.symm; omega)
theorem II (w : World) (bi : Nat) (A RA : Option Addr) (ca rc n : Nat) (a : List Bool) (row : List Int) (hla : a.length = n) (hb : w.heap[bi]? = some (.cells #[.slice A n ca] 133 (0,0))) (hA : Kd.bool.C w A a.length a) (hR : (Kd.int .i64).C w RA row.length row) (hl : row.length ≤ 4096)
  (hu : ∀ u ∈ row,0 ≤ u ∧ u < n) (hex : ∃ u ∈ row,mem a u.toNat) :
  ∃ j : Nat,j < row.length ∧ Calls Tryz.prog 99 #[.slice RA row.length rc,.func (.func 100) #[] #[.pointer (some ⟨bi,0,none⟩)]] w fun e w' => e = .returned (.int .i64 j) ∧ w' = w := by
 subst hla
 exact index99 w bi A RA ca rc a row hb hA hR hl hu hex
theorem HG (A : Option Addr) (c n : Nat) (xs : List Bool) (w : World) (hn : xs.length = n) (hs : Kd.bool.C w A xs.length xs) (hb : n ≤ 1000000) :
  Calls Tryz.prog 101 #[.slice A n c] w fun e w' => ∃ B c',e = .returned (.slice B n c') ∧ Kd.bool.R 4 w' w.heap.size (fun _ => True) (.slice B n c') xs ∧ Below w.heap.size w w' := by
 subst hn
 exact IP A c xs w hs hb
theorem IK (A : Option Addr) (c n : Nat) (xs : List Bool) (w : World) (hn : xs.length = n) (hs : Kd.bool.C w A xs.length xs) (hb : n ≤ 4096) :
  Calls Tryz.prog 98 #[.slice A n c] w fun e w' => e = .returned (.bool (!xs.contains true)) ∧ w' = w := by
 subst hn
 exact empty98 A c xs w hs hb
theorem con_mem {z : List Bool} : z.contains true = true ↔ ∃ v,mem z v := by
 rw [List.contains_iff_mem]
 constructor
 ·intro h
  obtain ⟨j,hj,e⟩ := List.getElem_of_mem h
  exact ⟨j,by unfold mem; rw [gE hj,e]⟩
 ·rintro ⟨v,hv⟩
  exact List.mem_of_getElem? hv
theorem Ho {α : Type} (L M : List α) (k : Nat) (hl : M.length = L.length) (h : k < L.length) : (L.take k ++ M.drop k).set k L[k] = L.take (k + 1) ++ M.drop (k + 1) := by
 have hk : (L.take k).length = k := by simp; omega
 rw [List.set_append_right _ _ (by omega),hk,Nat.sub_self,List.drop_eq_getElem_cons (by omega : k < M.length),List.set_cons_zero,List.take_succ_eq_append_getElem h,List.append_assoc,List.singleton_append]
theorem Db {a o : List Bool} (h : o.length = a.length) : mem (List.zipWith (fun x y => x && !y) a o) = fun v => mem a v ∧ ¬ mem o v := funext fun v => propext (CH h)
theorem Ex {g : GL} {a o t : List Bool} {i m : Nat} {rk : Nat → Nat} (ho : o.length = a.length) (hA : g.gm.Arena (mem a)) (hat : g.gm.Attr i (mem a) (mem t) (mem o) rk) (hex : ∃ v,mem t v) (hm : cnt a < m + 1) :
  cnt (List.zipWith (fun x y => x && !y) a o) < m ∧ g.gm.Arena (mem (List.zipWith (fun x y => x && !y) a o)) := by
 obtain ⟨v,hv⟩ := hex
 refine ⟨?_,?_⟩
 ·have := cnt_lt (a := a) (b := List.zipWith (fun x y => x && !y) a o) (fun u hu => ((CH ho).1 hu).1) (by simp [ho]) v (hat.inn v (hat.tgt v hv)) (fun hu => ((CH ho).1 hu).2 (hat.tgt v hv))
  omega
 ·rw [Db ho]
  exact hat.arena hA
theorem JQ {g : GL} {a o t x y : List Bool} {i d : Nat} {rk : Nat → Nat} (ho : o.length = a.length) (hA : g.gm.Arena (mem a)) (hd : ∀ v,mem a v → g.gm.pri v ≤ d) (hi : d % 2 = i) (ht : ∀ v,mem t v ↔ mem a v ∧ g.gm.pri v = d) (hat : g.gm.Attr i (mem a) (mem t) (mem o) rk)
  (hx : ∃ φ,g.gm.Cert i (mem (List.zipWith (fun x y => x && !y) a o)) (mem x) φ) (hcov : ∀ v,mem (List.zipWith (fun x y => x && !y) a o) v → mem x v ∨ mem y v) (he : y.contains true = false) : ∃ φ,g.gm.Cert i (mem a) (mem a) φ := by
 obtain ⟨φ,hφ⟩ := hx
 have hno : ∀ v,¬ mem y v := fun v hv => by rw [con_mem.2 ⟨v,hv⟩] at he; cases he
 rw [Db ho] at hφ
 rw [show mem t = fun v => mem a v ∧ g.gm.pri v = d from funext fun v => propext (ht v)] at hat
 exact PGame.cert_all g.gm i d (mem a) (mem o) (mem x) rk φ hA hd hi hat hφ (fun v hv hov => (hcov v ((CH ho).2 ⟨hv,hov⟩)).resolve_right (hno v))
theorem Hz {g : GL} {a o t x l zi zj : List Bool} {i j : Nat} {rk rk2 : Nat → Nat} (ho : o.length = a.length) (hl : l.length = a.length) (hzj : zj.length = a.length) (hA : g.gm.Arena (mem a)) (hown : ∀ v,mem a v → g.gm.own v = i ∨ g.gm.own v = j) (hat : g.gm.Attr i (mem a) (mem t) (mem o) rk)
  (hx : ∃ φ,g.gm.Cert j (mem (List.zipWith (fun x y => x && !y) a o)) (mem x) φ) (hL : g.gm.Attr j (mem a) (mem x) (mem l) rk2)
  (hcov : ∀ v,mem (List.zipWith (fun x y => x && !y) a l) v ↔ mem zi v ∨ mem zj v)
  (hj : ∃ φ,g.gm.Cert j (mem (List.zipWith (fun x y => x && !y) a l)) (mem zj) φ) (hi : ∃ φ,g.gm.Cert i (mem (List.zipWith (fun x y => x && !y) a l)) (mem zi) φ) :
  (∀ v,mem a v ↔ mem zi v ∨ mem (List.zipWith (fun x y => x || y) zj l) v) ∧ (∃ φ,g.gm.Cert i (mem a) (mem zi) φ) ∧ ∃ φ,g.gm.Cert j (mem a) (mem (List.zipWith (fun x y => x || y) zj l)) φ := by
 obtain ⟨φx,hφx⟩ := hx
 obtain ⟨φj,hφj⟩ := hj
 obtain ⟨ψ,hψ⟩ := hi
 rw [Db ho] at hφx
 rw [Db hl] at hφj hψ
 have hor : mem (List.zipWith (fun x y => x || y) zj l) = fun v => mem l v ∨ mem zj v := funext fun v => propext ((mem_or (by omega)).trans Or.comm)
 obtain ⟨h1,h2⟩ := PGame.cert_split g.gm i j (mem a) (mem o) (mem t) (mem x) (mem l) (mem zi) (mem zj) rk rk2 φx φj ψ hA hown hat hφx hL hφj hψ
 refine ⟨fun v => ?_,⟨ψ,h1⟩,?_⟩
 ·rw [hor]
  have := hcov v
  rw [CH hl] at this
  constructor
  ·intro h
   by_cases e : mem l v
   ·exact .inr (.inl e)
   ·rcases this.1 ⟨h,e⟩ with h | h
    ·exact .inl h
    ·exact .inr (.inr h)
  ·rintro (h | h | h)
   ·exact (this.2 (.inl h)).1
   ·exact hL.inn v h
   ·exact (this.2 (.inr h)).1
 ·rw [hor]; exact h2
end
end Go.Proofs.YtmjllchdhcdinaaGreatDoor

/- Part of the proof: R R2 J JT E E2 P9 P10 P11 P12 N P13 P14 P15. -/
import Derived.Test.YtmjllchdhcdinaaGreatDoorX08
import Derived.TacticsIn
import Derived.OrdersIn
import Derived.RangeFuncCalls
import Derived.RangeFuncNested
import Derived.RangeFuncBound
set_option linter.unusedVariables false
set_option linter.unusedSimpArgs false
set_option maxRecDepth 100000
set_option maxHeartbeats 8000000
namespace Go.Proofs.YtmjllchdhcdinaaGreatDoor
section
open Go Fm Go.RowKit
def ndo (o : Oper) : Bool := match o.op with
 | .defer _ => false
 | _ => true
def nd : Code → Bool
 | .region _ ops _ => ops.toList.all ndo
 | .seq a b => nd a && nd b
 | .cond _ a b => nd a && nd b
 | .block _ b => nd b
 | .loop b => nd b
 | .scope _ => false
 | .rangeFunc .. => false
 | .refuse _ => false
 | _ => true
section
variable {P : Program} {Q : Exit → Act → World → Prop} {ops : Array Oper} {l : Nat}
theorem op_in {o : Oper} {a : Act} {w : World} {K : Act → World → Prop} (m : Nat) (hd : ndo o = true) (h : o.wp P a w K Q) : o.wpIn (Fence.wide.inRound l) m P a w K Q := by
 refine ⟨fun _ _ => trivial,?_⟩
 rw [Oper.semAt_eq _ _ _ (fun c hc => by unfold ndo at hd; rw [hc] at hd; cases hd)]
 unfold Oper.wp at h
 revert h
 generalize (execOp a.eval o).run P w = r
 cases r with
 | ok x w' =>
  cases x with
  | enter k args => exact fun h => ⟨fun e => (by cases e),(callsIn_wide.2 h).inRound l⟩
  | row row args =>
   intro h
   refine ⟨fun e => (by cases e),fun c cs hr => ?_⟩
   obtain ⟨v,w'',h1,h2⟩ := h c cs
   exact ⟨v,w'',h1,stepsIn_wide.2 h2⟩
  | round => exact fun h => h.elim
  | _ => exact id
 | halt x w' => cases x <;> exact id
theorem Fw (hQ : ¬ LetsOut Q) (m : Nat) (hd : ∀ o ∈ ops.toList,ndo o = true) : ∀ (is : List Nat) (a : Act) (w : World),wpOps P ops Q is a w → wpOpsIn (Fence.wide.inRound l) m P ops Q is a w
 | [],_,_,h => h
 | i :: is,a,w,h => by
  unfold wpOps at h
  unfold wpOpsIn
  cases ho : ops[i]? with
  | none => rw [ho] at h; exact Fw hQ m hd is a w h
  | some o =>
   rw [ho] at h
   have hdo : ndo o = true := hd o (by simpa using Array.mem_of_getElem? ho)
   simp only at h ⊢
   split
   ·rename_i hw
    rw [if_pos hw] at h
    rcases h with h | h
    ·exact Oper.wpIn_mono (fun a w h => Fw hQ m hd is a w h) (op_in m hdo h)
    ·exact absurd h.2 hQ
   ·rename_i hw
    rw [if_neg hw] at h
    exact ⟨fun _ _ => trivial,Fw hQ m hd is _ w h⟩
end
section
variable {n : Nat}
structure CI (l : Nat) (P : Program) (c : Code) (Q : Bd n) (f : Fm n) (W : World) : Prop where
 out : ∀ m,c.wpIn (Fence.wide.inRound l) m P (Cd Q) (act f) W
def wpi (l : Nat) (P : Program) : Code → Bd n → Fm n → World → Prop
 | .skip,Q,f,W => Q .normal f W
 | .region _ ops false,Q,f,W => RL P ops Q ops.toList f W
 | .seq a b,Q,f,W => wpi l P a (thn (wpi l P b Q) Q) f W
 | .cond c a b,Q,f,W => CD c f (wpi l P a Q f W) (wpi l P b Q f W)
 | .block i b,Q,f,W => wpi l P b (blk i Q) f W
 | .exit i,Q,f,W => Q (.exit i) f W
 | .ret,Q,f,W => Q .ret f W
 | .label _,Q,f,W => Q .normal f W
 | c,Q,f,W => CI l P c Q f W
theorem BM {Q : Bd n} (hQ : ∀ f W,¬ Q .outgrown f W) : ¬ LetsOut (Cd Q) := by
 rintro ⟨a,w,f,_,h⟩
 exact hQ f w h
theorem Du {l : Nat} {P : Program} (m : Nat) : ∀ (c : Code) {Q : Bd n} {f : Fm n} {W : World},nd c = true → (∀ f W,¬ Q .outgrown f W) → wpi l P c Q f W → c.wpIn (Fence.wide.inRound l) m P (Cd Q) (act f) W
 | .skip,Q,f,W,_,_,h => wpIn_skip ⟨f,rfl,h⟩
 | .region _ ops false,Q,f,W,hd,hQ,h => by
  refine wpIn_region (Fw (BM hQ) m (fun o ho => List.all_eq_true.1 hd o ho) _ _ _ ?_)
  have h1 := RL.out h
  have h2 := wpOps_eq_wpList (P := P) (ops := ops) (Q := Cd Q) ops.toList 0 (fun j => by simp)
  rw [← h2] at h1
  rw [List.range_eq_range']
  simpa using h1
 | .seq a b,Q,f,W,hd,hQ,h => by
  simp only [nd,Bool.and_eq_true] at hd
  refine wpIn_seq (wpIn_mono (Du (Q := thn (wpi l P b Q) Q) m a hd.1 (fun f W h => hQ f W h) h) ?_)
  rintro e x w ⟨g,rfl,hq⟩
  cases e with
  | normal => exact Du m b hd.2 hQ hq
  | _ => exact ⟨g,rfl,hq⟩
 | .cond c a b,Q,f,W,hd,hQ,h => by
  simp only [nd,Bool.and_eq_true] at hd
  obtain ⟨t,hc,hh⟩ := CD.out h
  cases t with
  | true => exact wpIn_cond_true (by rw [Ba]; exact hc) (Du m a hd.1 hQ (by simpa using hh))
  | false => exact wpIn_cond_false (by rw [Ba]; exact hc) (Du m b hd.2 hQ (by simpa using hh))
 | .block i b,Q,f,W,hd,hQ,h => by
  refine wpIn_block (wpIn_mono (Du (Q := blk i Q) m b hd (fun f W h => hQ f W h) h) ?_)
  rintro e x w ⟨g,rfl,hq⟩
  cases e with
  | exit j =>
   by_cases e : j = i
   ·subst e
    have : Nat.beq j j = true := Nat.beq_refl j
    simp only [blk,this,cond_true] at hq
    simp only [Exit.inBlock,if_true]
    exact ⟨g,rfl,hq⟩
   ·have : Nat.beq j i = false := by
     cases h : Nat.beq j i with
     | false => rfl
     | true => exact absurd (Nat.eq_of_beq_eq_true h) e
    simp only [blk,this,cond_false] at hq
    simp only [Exit.inBlock,e,if_false]
    exact ⟨g,rfl,hq⟩
  | _ => exact ⟨g,rfl,hq⟩
 | .exit i,Q,f,W,_,_,h => wpIn_exit ⟨f,rfl,h⟩
 | .ret,Q,f,W,_,_,h => wpIn_ret ⟨f,rfl,h⟩
 | .label _,Q,f,W,_,_,h => wpIn_label ⟨f,rfl,h⟩
 | .region _ _ true,_,_,_,_,_,h => CI.out h m
 | .loop _,_,_,_,_,_,h => CI.out h m
 | .rangeFunc ..,_,_,_,_,_,h => CI.out h m
 | .scope _,_,_,_,_,_,h => CI.out h m
 | .goto _,_,_,_,_,_,h => CI.out h m
 | .refuse _,_,_,_,_,_,h => CI.out h m
theorem lpi {l : Nat} {P : Program} {Q : Bd n} {W : World} {f : Fm n} {σ : Type} {body : Code} (hQ : ∀ f W,¬ Q .outgrown f W) (hd : nd body = true) (S : σ → List (Nat × Value)) (J : σ → World → Prop) (μ : σ → Nat) (s0 : σ) (h0 : has f f.ds (S s0)) (hJ : J s0 W)
  (round : ∀ s (g : Fm n) W,J s W → wpi l P body (thn (fun g' W' => ∃ s',has g' f.ds (S s') ∧ J s' W' ∧ μ s' < μ s) Q) (ups (re g f.ds) (S s)) W) : CI l P (.loop body) Q f W := by
 refine ⟨fun m => ?_⟩
 refine wpIn_loop (fun a W => ∃ k,∃ (s : σ) (g : Fm n),μ s = k ∧ a = act g ∧ has g f.ds (S s) ∧ J s W) (fun a W => leastOf (fun k => ∃ (s : σ) (g : Fm n),μ s = k ∧ a = act g ∧ has g f.ds (S s) ∧ J s W)) ⟨_,s0,f,rfl,rfl,h0,hJ⟩ ?_
 intro a W hI
 obtain ⟨s,g,hk,rfl,hS,hJ⟩ := (leastOf_spec hI).1
 have h1 := Du (Q := thn (fun g' W' => ∃ s',has g' f.ds (S s') ∧ J s' W' ∧ μ s' < μ s) Q) m body hd (fun f W h => hQ f W h) (round s g W hJ)
 rw [CS (BS _ _ hS)] at h1
 refine wpIn_mono h1 ?_
 rintro e x w ⟨g',rfl,hq⟩
 cases e with
 | normal =>
  obtain ⟨s',hS',hJ',hlt⟩ := hq
  have hI' : ∃ k,∃ (s : σ) (g : Fm n),μ s = k ∧ act g' = act g ∧ has g f.ds (S s) ∧ J s w := ⟨_,s',g',rfl,rfl,hS',hJ'⟩
  refine ⟨hI',?_⟩
  have := (leastOf_spec hI').2 (μ s') ⟨s',g',rfl,rfl,hS',hJ'⟩
  omega
 | _ => exact ⟨g',rfl,hq⟩
theorem FL {l : Nat} {P : Program} {Q : Bd n} {W : World} {f : Fm n} {id : Nat} {ops : Array Oper} (hQ : ∀ f W,¬ Q .outgrown f W) (hd : ops.toList.all ndo = true) (hm : F2 P) (S : World → Prop) (h : ∀ W1,Below W.heap.size W W1 → W.grownBy W1 none → W1.heap = W.heap → AH P ops Q S ops.size (Array.replicate ops.size false) f W1) : CI l P (.region id ops true) Q f W := by
 refine ⟨fun m => wpIn_region_draw fun t => ?_⟩
 have h1 := wpAny_of_held _ _ _ _ (h W.drew ((Below.refl _ _).drew) ⟨rfl,rfl,rfl,Nat.le_refl _,fun _ _ _ => rfl⟩ rfl).out
 have hm' : P.follows .mixedOrders = true := hm
 refine Fw (BM hQ) m (fun o ho => List.all_eq_true.1 hd o ho) _ _ _ ?_
 simp only [Region.schedule,hm',Bool.true_or,if_true]
 exact wpAny_sound ops.size t _ _ _ h1
theorem act_params (l : List (Nat × Value)) : ∀ (f : Fm n),act (ups (re f []) l) = { tmps := l.foldl (fun t (x : Nat × Value) => t.setIfInBounds x.1 x.2) f.toL.toArray,defers := [] } := by
 suffices h : ∀ (f : Fm n),(act (ups f l)).tmps = l.foldl (fun t (x : Nat × Value) => t.setIfInBounds x.1 x.2) f.toL.toArray ∧ (act (ups f l)).defers = f.ds by
  intro f
  have h1 := h (re f [])
  cases hh : act (ups (re f []) l) with
  | mk t d =>
   rw [hh] at h1
   simp only at h1
   rw [h1.1,h1.2]
   rfl
 induction l with
 | nil => exact fun f => ⟨rfl,rfl⟩
 | cons x l ih =>
  intro f
  have := ih (up f x.1 x.2)
  refine ⟨this.1.trans ?_,this.2⟩
  simp [toL]
def pg {α : Type} (B : Nat) (Kp : World → World → Prop) (I : List α → World → Prop) (Ix : Code → List α → World → Prop) (xs : List α) (W : World) : Bd n
 | .normal,_,W' => KeepsFrom B W W' ∧ Kp W W' ∧ I xs W'
 | .ret,_,W' => KeepsFrom B W W' ∧ Ix .ret xs W'
 | .exit id,_,W' => KeepsFrom B W W' ∧ Ix (.exit id) xs W'
 | _,_,_ => False
def pa {α : Type} (B : Nat) (Kp : World → World → Prop) (I : List α → World → Prop) (Ax : α → Fm n → World → Prop) (pre : List α) (x : α) (W : World) : Bd n
 | .normal,g,W' => KeepsFrom B W W' ∧ Kp W W' ∧ I pre W' ∧ Ax x g W'
 | _,_,_ => False
end
end
section
open Go Fm Go.RowKit Go.Proofs.YtmjllchdhcdinaaGreatDoorW.PrintWords
section
variable {n : Nat}
theorem Kv {P : Program} {Q : Bd n} {f : Fm n} {W : World} {α : Type} {g : Operand} {ps : Array Tmp} {assign body : Code} {gf : Nat} {lb : Array Value} (hg : ex f g = .func (.func gf) #[] lb) (hC : Ag P gf) (hda : nd assign = true) (hdb : nd body = true)
  {Ch : α → Array Value} {Kp : World → World → Prop} {S Sp : List α → Prop} {N : Nat} {w0 : World} (hseq : ∀ m,SeqStopsK Fence.wide m P gf lb Ch Kp S Sp N w0)
  (hKt : ∀ {A B C : World},Kp A B → Kp B C → Kp A C) (hKb : ∀ (V : World) (l : Nat) (o o' : Obj),W.heap.size ≤ l → V.heap[l]? = some o → o.isCells = false → o.isWalk = false → Kp V (V.putObj l o')) (hb0 : Below w0.heap.size w0 W) (hps : ∀ x,(Ch x).size = ps.size)
  (I : List α → World → Prop) (Ix : Code → List α → World → Prop) (hI : OwnFrom W.heap.size I) (hIx : ∀ c,OwnFrom W.heap.size (Ix c)) (h0 : I [] W) {σ : Type} (Sl : α → σ → List (Nat × Value)) (Aw : α → σ → World → Prop) (hAw : ∀ x s,OwnFrom W.heap.size (fun (_ : Unit) V => Aw x s V))
  (hassign : ∀ (l : Nat) (pre : List α) (x : α) (V : World),I pre V → wpi l P assign (pa W.heap.size Kp I (fun x g V => ∃ s,has g [] (Sl x s) ∧ Aw x s V) pre x V) (ups (re f []) (ps.toList.zip (Ch x).toList)) V)
  (hbody : ∀ (l : Nat) (pre : List α) (x : α) (s : σ) (g' : Fm n) (V : World),W.heap.size ≤ l → I pre V → Aw x s V → pre.length < N → wpi l P body (pg W.heap.size Kp I Ix (pre ++ [x]) V) (ups (re g' []) (Sl x s)) V)
  (hdone : ∀ (D : Nat) (xs : List α) (V : World),W.heap.size ≤ D → S xs → I xs V → V.heap[D]? = some (.deferred (some [])) → Q .normal (re f ({ target := .collected D,args := #[] } :: f.ds)) V)
  (hstop : ∀ (D : Nat) (c : Code) (pre : List α) (V : World),W.heap.size ≤ D → Sp pre → Ix c pre V → V.heap[D]? = some (.deferred (some [])) → wpc P c Q (re f ({ target := .collected D,args := #[] } :: f.ds)) V) : CW P (.rangeFunc g ps assign body) Q f W := by
 refine ⟨(wpIn_wide (n := 2)).1 ?_⟩
 refine wpIn_rangeFunc_ownH (F := Fence.wide) (n := 2) G (by decide) (gf := gf) (lb := lb) (by rw [Ba]; exact hg) trivial ?_ (hseq _) hKt hKb hb0 hps I Ix hI hIx h0 (fun (x : α) a' V => ∃ g' : Fm n,a' = act g' ∧ ∃ s,has g' [] (Sl x s) ∧ Aw x s V) ?_ ?_ ?_ ?_ ?_
 ·intro args w
  obtain ⟨fn,h1,h2,h3⟩ := hC
  simp only [beq_eq_false_iff_ne,ne_eq] at h2
  cases hb : fn.body with
  | none => rw [hb] at h3; simp at h3
  | some b => simp [go_sem,callFunc,h1,h2,hb]
 ·rintro x a' s V V' row ⟨g',rfl,s',hs,h⟩ hg' hr
  exact ⟨g',rfl,s',hs,hAw x s' () V V' row h hg' hr⟩
 ·intro l pre x V K hi hK
  have h1 := Du (2 - 1 - 1) assign hda (fun f V h => h) (hassign l pre x V hi)
  rw [act_params] at h1
  have e : (ps.zip (Ch x)).foldl (fun t (x : Nat × Value) => t.setIfInBounds x.1 x.2) (act f).tmps = (ps.toList.zip (Ch x).toList).foldl (fun t (x : Nat × Value) => t.setIfInBounds x.1 x.2) f.toL.toArray := by
   rw [← Array.foldl_toList,Array.toList_zip]
   rfl
  rw [← e] at h1
  refine wpIn_mono h1 ?_
  rintro e a w ⟨g',rfl,hq⟩
  cases e with
  | normal => exact hK _ _ hq.1 hq.2.1 hq.2.2.1 ⟨g',rfl,hq.2.2.2⟩
  | _ => exact hq.elim
 ·rintro l pre x a' V hl _ hi ⟨g',rfl,s,hs,ha⟩ hlen
  have h1 := Du (2 - 1 - 1) body hdb (fun f V h => h) (hbody l pre x s g' V hl hi ha hlen)
  rw [CS (BS _ _ hs)] at h1
  refine wpIn_mono h1 ?_
  rintro e a w ⟨g'',rfl,hq⟩
  cases e with
  | normal => exact hq
  | ret => exact hq
  | exit => exact hq
  | _ => exact hq.elim
 ·intro D xs V hD hs hi hK
  exact ⟨_,rfl,hdone D xs V hD hs hi hK⟩
 ·intro D c pre V hD hs hx hK
  exact wpIn_wide.2 (CZ c (hstop D c pre V hD hs hx hK))
end
section
variable {n : Nat} {P : Program} {W : World} {f : Fm n} {fn : Func} {R : Ending → World → Prop}
theorem Lq {D : Nat} {v : Value} (hd : f.ds = [{ target := .collected D,args := #[] }]) (hD : W.heap[D]? = some (.deferred (some []))) (hv : (results fn f.toL.toArray).run P (W.putObj D (.deferred none)) = .ok v (W.putObj D (.deferred none))) (h : R (.returned v) (W.putObj D (.deferred none))) : RT P fn R f W := ⟨by
 rw [hd]
 exact ⟨D,rfl,hD,v,hv,h⟩⟩
theorem EK {D g t : Nat} {cs : Array Value} (hD : W.heap[D]? = some (.deferred (some []))) (hb : W.heap[g]? = some (.cells cs t (0,0))) : (W.putObj D (.deferred none)).heap[g]? = some (.cells cs t (0,0)) :=
 (World.putObj_heap_other (fun e => by subst e; rw [hD] at hb; cases hb)).trans hb
theorem rtm {D p g tt : Nat} {ty : TypeId} {v : Value} (hr : fn.results = #[.cell p ty]) (hp : gt f p = .pointer (some ⟨g,0,none⟩)) (hd : f.ds = [{ target := .collected D,args := #[] }]) (hD : W.heap[D]? = some (.deferred (some []))) (hb : W.heap[g]? = some (.cells #[v] tt (0,0))) (hag : ∀ w,(isAgg ty).run P w = .ok false w) (h : R (.returned v) (W.putObj D (.deferred none))) : RT P fn R f W := by
 refine Lq hd hD ?_ h
 have h1 := Iu (P := P) (hag (W.putObj D (.deferred none))) ((Ac (EK hD hb) 0).trans rfl)
 have h3 : f.toL[p]?.getD undef = .pointer (some ⟨g,0,none⟩) := by rw [← hp,B5,gD]
 simp [results,hr,h3,asAddr,h1]
theorem rtm1 {D t : Nat} {v : Value} (hr : fn.results = #[.tmp t]) (hv : gt f t = v) (hd : f.ds = [{ target := .collected D,args := #[] }]) (hD : W.heap[D]? = some (.deferred (some []))) (h : R (.returned v) (W.putObj D (.deferred none))) : RT P fn R f W :=
 Lq hd hD (by rw [results_tmp hr]; have := B5 f t; rw [hv] at this; simp only [this]; simp [gD]) h
theorem rt3 {t u v : Tmp} {v1 v2 v3 : Value} (hr : fn.results = #[.tmp t,.tmp u,.tmp v]) (hv : gt f t = v1) (hu : gt f u = v2) (hz : gt f v = v3) (h : R (.returned (.tuple #[v1,v2,v3])) W) (hd : f.ds = [] := by rfl) : RT P fn R f W := rtv hd (by
 have h1 := B5 f t; rw [hv,gD] at h1
 have h2 := B5 f u; rw [hu,gD] at h2
 have h3 := B5 f v; rw [hz,gD] at h3
 rw [h1,h2,h3]
 simp [results,hr]) h
theorem Cm (W : World) (D : Nat) : W.grownBy (W.putObj D (.deferred none)) (some D) := grownBy_putObj' W D _
end
end
section
open Go Fm Go.RowKit
section
variable {n : Nat} {P : Program} {ops : Array Oper}
theorem op_w {Q : Exit → Act → World → Prop} {o : Oper} {a : Act} {w : World} {K : Act → World → Prop} (m : Nat) (h : o.wp P a w K Q) : o.wpIn Fence.wide m P a w K Q := by
 refine ⟨fun _ _ => trivial,?_⟩
 show o.uponIn Fence.wide m P a K Q ((Oper.semAt none a.eval o).run P w)
 rw [Oper.semAt_none]
 unfold Oper.wp at h
 revert h
 generalize (execOp a.eval o).run P w = r
 cases r with
 | ok x w' =>
  cases x with
  | enter k args => exact fun h => ⟨fun e => (by cases e),callsIn_wide.2 h⟩
  | row row args =>
   intro h
   refine ⟨fun e => (by cases e),fun c cs hr => ?_⟩
   obtain ⟨v,w'',h1,h2⟩ := h c cs
   exact ⟨v,w'',h1,stepsIn_wide.2 h2⟩
  | round => exact fun h => h.elim
  | _ => exact id
 | halt x w' => cases x <;> exact id
structure LJ (P : Program) (ops : Array Oper) (Q : Bd n) (o : Oper) (rest : List Oper) (f : Fm n) (W : World) : Prop where
 out : ∀ m,wpListIn Fence.wide m P ops (Cd Q) (o :: rest) (act f) W
def RJ (P : Program) (ops : Array Oper) (Q : Bd n) : List Oper → Fm n → World → Prop
 | [],f,W => Q .normal f W
 | o :: rest,f,W => LJ P ops Q o rest f W
theorem RJ.out {Q : Bd n} (m : Nat) : ∀ {l : List Oper} {f : Fm n} {W : World},RJ P ops Q l f W → wpListIn Fence.wide m P ops (Cd Q) l (act f) W
 | [],f,_,h => ⟨f,rfl,h⟩
 | _ :: _,_,_,h => LJ.out h m
theorem oj {Q : Bd n} {o : Oper} {rest : List Oper} {f : Fm n} {W : World} (hQ : ∀ f W,¬ Q .outgrown f W) (h : LS P ops (thn (fun f' w' => RJ P ops Q rest f' w') Q) o [] f W) : LJ P ops Q o rest f W := by
 refine ⟨fun m => ?_⟩
 have h1 := h.out
 unfold wpList at h1
 unfold wpListIn
 split
 ·rename_i hw
  rw [if_pos hw] at h1
  rcases h1 with h1 | h1
  ·have h2 := op_w m h1
   refine ⟨h2.1,?_⟩
   have h3 := h2.2
   revert h3
   generalize (o.semAt Fence.wide.round (act f).eval).run P W = r
   have hn : ∀ a w,wpList P ops (Cd (thn (fun f' w' => RJ P ops Q rest f' w') Q)) [] a w → wpListIn Fence.wide m P ops (Cd Q) rest a w := by
    rintro a w ⟨g,rfl,hq⟩
    exact RJ.out m hq
   cases r with
   | ok x w' =>
    cases x with
    | value v => exact fun h => hn _ _ h
    | skip => exact fun h => hn _ _ h
    | defer d => exact fun h => hn _ _ h
    | enter k args =>
     refine fun h => ⟨h.1,CallsIn.mono h.2 fun e w'' => ?_⟩
     cases e with
     | returned v => exact fun h => hn _ _ h
     | panicked c => exact fun h => h
     | outgrown => exact fun h => absurd h (BM (fun f W h => hQ f W h))
    | row row args => exact fun h => ⟨h.1,RowsIn.mono h.2 fun v w'' h => hn _ _ h⟩
    | round l k t a b =>
     refine fun h => ⟨h.1,RoundIn.mono h.2 fun e w'' => ?_⟩
     cases e with
     | returned v => exact fun h => hn _ _ h
     | panicked c => exact fun h => h
     | outgrown => exact fun h => absurd h (BM (fun f W h => hQ f W h))
    | _ => exact fun h => h
   | halt x w' => cases x <;> exact fun h => h
  ·exact absurd h1.2 (BM (fun f W h => hQ f W h))
 ·rename_i hw
  rw [if_neg hw] at h1
  obtain ⟨g,hg,hq⟩ := h1
  refine ⟨fun _ _ => trivial,?_⟩
  rw [hg]
  exact RJ.out m hq
theorem ru_yield {f : Fm n} {W W' : World} {ty : TypeId} {l : Nat} {x : Operand} {xs : List Operand} {ts : Array TypeId} {r : Next} (hx : ex f x = .func (.yield l) #[] #[]) (hy : (Instr.yield l (evs f xs).toArray).run P W = .ok r W') :
  Ru P (.call { callee := .value x,args := xs.toArray,argTypes := ts }) ty f W = .ok r W' := by
 rw [← Gf] at hy
 simp [Ru,hx,go_sem,hy]
theorem HS {Q : Bd n} {rest : List Oper} {f : Fm n} {W : World} {d : Tmp} {ty : TypeId} {pos : String} {aft : Array Edge} {l : Nat} {x : Operand} {xs : List Operand} {ts : Array TypeId} (hx : ex f x = .func (.yield l) #[] #[])
  (h : ∀ m,YieldAt Fence.wide m P l (evs f xs).toArray W fun e w' => ∃ v,e = .returned v ∧ RJ P ops Q rest (up f d v) w') : LJ P ops Q ⟨some d,.call { callee := .value x,args := xs.toArray,argTypes := ts },ty,pos,aft,none⟩ rest f W := by
 refine ⟨fun m => ?_⟩
 obtain ⟨fn,tmps,assign,body,hy,hR⟩ := h (m - 1)
 unfold wpListIn
 rw [if_pos (by rw [BI]; rfl)]
 refine ⟨fun _ _ => trivial,?_⟩
 show Oper.uponIn Fence.wide m P _ (act f) _ (Cd Q) ((Oper.semAt none (act f).eval _).run P W)
 rw [Oper.semAt_none,Ba,Ce]
 have hr := ru_yield (ty := ty) (ts := ts) hx hy
 unfold Ru at hr
 rw [hr]
 refine ⟨fun e => (by cases e),RoundIn.mono hR fun e w'' hq => ?_⟩
 obtain ⟨v,rfl,hq⟩ := hq
 show wpListIn Fence.wide m P ops (Cd Q) rest ((act f).put (some d) v) w''
 rw [Cc]
 exact RJ.out m hq
theorem IH {Q : Bd n} {op : Op} {dd : Option Tmp} {ty : TypeId} {pos : String} {aft : Array Edge} {g : Option (Nat × Bool)} {rest : List Oper} {f : Fm n} {W : World} (hw : wanted ops f g = true) (h : LJ P ops Q ⟨dd,op,ty,pos,aft,none⟩ rest f W) : LJ P ops Q ⟨dd,op,ty,pos,aft,g⟩ rest f W := by
 refine ⟨fun m => ?_⟩
 have h1 := h.out m
 unfold wpListIn at h1 ⊢
 rw [BI] at h1 ⊢
 have e : (⟨dd,op,ty,pos,aft,g⟩ : Oper).guard = g := rfl
 rw [e,hw,if_pos rfl]
 rw [if_pos (show wanted ops f none = true from rfl)] at h1
 exact h1
structure CJ (P : Program) (c : Code) (Q : Bd n) (f : Fm n) (W : World) : Prop where
 out : ∀ m,c.wpIn Fence.wide m P (Cd Q) (act f) W
def wpj (P : Program) : Code → Bd n → Fm n → World → Prop
 | .skip,Q,f,W => Q .normal f W
 | .region _ ops false,Q,f,W => RJ P ops Q ops.toList f W
 | .seq a b,Q,f,W => wpj P a (thn (wpj P b Q) Q) f W
 | .cond c a b,Q,f,W => CD c f (wpj P a Q f W) (wpj P b Q f W)
 | .block i b,Q,f,W => wpj P b (blk i Q) f W
 | .exit i,Q,f,W => Q (.exit i) f W
 | .ret,Q,f,W => Q .ret f W
 | .label _,Q,f,W => Q .normal f W
 | c,Q,f,W => CJ P c Q f W
theorem DT (m : Nat) : ∀ (c : Code) {Q : Bd n} {f : Fm n} {W : World},wpj P c Q f W → c.wpIn Fence.wide m P (Cd Q) (act f) W
 | .skip,Q,f,W,h => wpIn_skip ⟨f,rfl,h⟩
 | .region _ ops false,Q,f,W,h => wpIn_region_list (RJ.out m h)
 | .seq a b,Q,f,W,h => by
  refine wpIn_seq (wpIn_mono (DT m a (Q := thn (wpj P b Q) Q) h) ?_)
  rintro e x w ⟨g,rfl,hq⟩
  cases e with
  | normal => exact DT m b hq
  | _ => exact ⟨g,rfl,hq⟩
 | .cond c a b,Q,f,W,h => by
  obtain ⟨t,hc,hh⟩ := CD.out h
  cases t with
  | true => exact wpIn_cond_true (by rw [Ba]; exact hc) (DT m a (by simpa using hh))
  | false => exact wpIn_cond_false (by rw [Ba]; exact hc) (DT m b (by simpa using hh))
 | .block i b,Q,f,W,h => by
  refine wpIn_block (wpIn_mono (DT (Q := blk i Q) m b h) ?_)
  rintro e x w ⟨g,rfl,hq⟩
  cases e with
  | exit j =>
   by_cases e : j = i
   ·subst e
    have : Nat.beq j j = true := Nat.beq_refl j
    simp only [blk,this,cond_true] at hq
    simp only [Exit.inBlock,if_true]
    exact ⟨g,rfl,hq⟩
   ·have : Nat.beq j i = false := by
     cases h : Nat.beq j i with
     | false => rfl
     | true => exact absurd (Nat.eq_of_beq_eq_true h) e
    simp only [blk,this,cond_false] at hq
    simp only [Exit.inBlock,e,if_false]
    exact ⟨g,rfl,hq⟩
  | _ => exact ⟨g,rfl,hq⟩
 | .exit i,Q,f,W,h => wpIn_exit ⟨f,rfl,h⟩
 | .ret,Q,f,W,h => wpIn_ret ⟨f,rfl,h⟩
 | .label _,Q,f,W,h => wpIn_label ⟨f,rfl,h⟩
 | .region _ _ true,_,_,_,h => CJ.out h m
 | .loop _,_,_,_,h => CJ.out h m
 | .rangeFunc ..,_,_,_,h => CJ.out h m
 | .scope _,_,_,_,h => CJ.out h m
 | .goto _,_,_,_,h => CJ.out h m
 | .refuse _,_,_,_,h => CJ.out h m
theorem lpj {Q : Bd n} {W : World} {f : Fm n} {σ : Type} {body : Code} (S : σ → List (Nat × Value)) (J : σ → World → Prop) (μ : σ → Nat) (s0 : σ) (h0 : has f f.ds (S s0)) (hJ : J s0 W)
  (round : ∀ s (g : Fm n) W,J s W → wpj P body (thn (fun g' W' => ∃ s',has g' f.ds (S s') ∧ J s' W' ∧ μ s' < μ s) Q) (ups (re g f.ds) (S s)) W) : CJ P (.loop body) Q f W := by
 refine ⟨fun m => ?_⟩
 refine wpIn_loop (fun a W => ∃ k,∃ (s : σ) (g : Fm n),μ s = k ∧ a = act g ∧ has g f.ds (S s) ∧ J s W) (fun a W => leastOf (fun k => ∃ (s : σ) (g : Fm n),μ s = k ∧ a = act g ∧ has g f.ds (S s) ∧ J s W)) ⟨_,s0,f,rfl,rfl,h0,hJ⟩ ?_
 intro a W hI
 obtain ⟨s,g,hk,rfl,hS,hJ⟩ := (leastOf_spec hI).1
 have h1 := DT (Q := thn (fun g' W' => ∃ s',has g' f.ds (S s') ∧ J s' W' ∧ μ s' < μ s) Q) m body (round s g W hJ)
 rw [CS (BS _ _ hS)] at h1
 refine wpIn_mono h1 ?_
 rintro e x w ⟨g',rfl,hq⟩
 cases e with
 | normal =>
  obtain ⟨s',hS',hJ',hlt⟩ := hq
  have hI' : ∃ k,∃ (s : σ) (g : Fm n),μ s = k ∧ act g' = act g ∧ has g f.ds (S s) ∧ J s w := ⟨_,s',g',rfl,rfl,hS',hJ'⟩
  refine ⟨hI',?_⟩
  have := (leastOf_spec hI').2 (μ s') ⟨s',g',rfl,rfl,hS',hJ'⟩
  omega
 | _ => exact ⟨g',rfl,hq⟩
theorem H3 (n : Nat) {k : FuncId} {fn : Func} {body : Code} {w : World} {R : Ending → World → Prop} (hf : P.funcs[k]? = some fn) (hb : fn.body = some body) (hn : fn.ntmps = n) (args : List Value) (hl : args.length ≤ n)
  (h : wpj P body (bp P fn R) (Fm.base (args ++ List.replicate (n - args.length) undef) (by simp; omega) [] : Fm n) w) (m : Nat) : CallsIn Fence.wide m P k args.toArray w R := by
 refine callsIn_of_wp_marks hf hb trivial ?_
 have e : ({ tmps := args.toArray ++ Array.replicate (fn.ntmps - args.toArray.size) undef,defers := [] } : Act) = act (Fm.base (args ++ List.replicate (n - args.length) undef) (by simp; omega) [] : Fm n) := by
  simp [act,toL,ds,hn]
 rw [e]
 refine wpIn_mono (DT m body h) ?_
 have lv : ∀ (ds : List Deferred) (tmps : Array Value) (W : World),Lv P fn tmps R ds W → LeavesInM Fence.wide m P fn tmps R ds .returning W := by
  intro ds
  induction ds with
  | nil => exact fun _ _ h => h
  | cons d ds ih =>
   rintro tmps W ⟨r,rfl,h1,h2⟩
   exact ⟨by simp,.inl ⟨r,_,rfl,run_takeDeferred h1,ih _ _ h2⟩⟩
 rintro e x W ⟨g,rfl,hq⟩
 cases e with
 | normal => exact lv _ _ _ (RT.out hq)
 | ret => exact lv _ _ _ (RT.out hq)
 | _ => exact hq.elim
theorem opj {Q : Bd n} {K : Fm n → World → Prop} {o : Oper} {i : Nat} {f : Fm n} {W : World} (m : Nat) (hQ : ∀ f W,¬ Q .outgrown f W) (hi : ops[i]? = some o) (h : LJ P ops (thn K Q) o [] f W) : wpOpIn Fence.wide m P ops (Cd Q) i (fun a w => ∃ g,a = act g ∧ K g w) (act f) W := by
 have h1 := h.out m
 unfold wpOpIn
 simp only [hi]
 unfold wpListIn at h1
 have hn : ∀ a w,wpListIn Fence.wide m P ops (Cd (thn K Q)) [] a w → ∃ g,a = act g ∧ K g w := fun a w h => h
 split
 ·rename_i hw
  rw [if_pos hw] at h1
  refine ⟨h1.1,?_⟩
  have h3 := h1.2
  revert h3
  generalize (o.semAt Fence.wide.round (act f).eval).run P W = r
  cases r with
  | ok x w' =>
   cases x with
   | value v => exact fun h => hn _ _ h
   | skip => exact fun h => hn _ _ h
   | defer d => exact fun h => hn _ _ h
   | enter k args =>
    refine fun h => ⟨h.1,CallsIn.mono h.2 fun e w'' => ?_⟩
    cases e with
    | returned v => exact fun h => hn _ _ h
    | panicked c => exact fun h => h
    | outgrown => exact fun h => absurd h (BM (fun f W h => hQ f W h))
   | row row args => exact fun h => ⟨h.1,RowsIn.mono h.2 fun v w'' h => hn _ _ h⟩
   | round l k t a b =>
    refine fun h => ⟨h.1,RoundIn.mono h.2 fun e w'' => ?_⟩
    cases e with
    | returned v => exact fun h => hn _ _ h
    | panicked c => exact fun h => h
    | outgrown => exact fun h => absurd h (BM (fun f W h => hQ f W h))
   | _ => exact fun h => h
  | halt x w' => cases x <;> exact fun h => h
 ·rename_i hw
  rw [if_neg hw] at h1
  exact h1
end
section
variable {P : Program} {ops : Array Oper} {Q : Exit → Act → World → Prop} {S : World → Prop} {m : Nat}
theorem Hf {i : Nat} {o : Oper} {v : Value} {a : Act} (hi : ops[i]? = some o) (hy : YieldsIf P ops S o v a) {K : Act → World → Prop} {w : World} (hS : S w) (h : K (a.put o.dst v) w) : wpOpIn Fence.wide m P ops Q i K a w := by
 unfold wpOpIn
 rw [hi]
 simp only
 rcases hy with ⟨hw,hv⟩ | ⟨hw,rfl⟩
 ·rw [if_pos hw]
  refine ⟨fun _ _ => trivial,?_⟩
  show Oper.uponIn Fence.wide m P o a K Q ((Oper.semAt none a.eval o).run P w)
  rw [Oper.semAt_none,hv w hS]
  exact h
 ·rw [if_neg (by rw [hw]; simp)]
  exact ⟨fun _ _ => trivial,h⟩
theorem put_past {j : Nat} {oi oj : Oper} {v : Value} (hj : ops[j]? = some oj) (hap : oi.apart ops oj = true) (hsi : ∀ cs b,oi.op ≠ .select cs b) (hsj : ∀ cs b,oj.op ≠ .select cs b) (hN : ∀ c a w,¬ Q (.panic c) a w)
  {K : Act → World → Prop} {a : Act} {w : World} (hy : YieldsIf P ops S oi v a) (h : wpOpIn Fence.wide m P ops Q j K (a.put oi.dst v) w) :
  wpOpIn Fence.wide m P ops Q j (fun a' w' => YieldsIf P ops S oi v a' ∧ K (a'.put oi.dst v) w') a w := by
 obtain ⟨h1,h2,h3⟩ := Oper.apart_spec hap
 have keep : ∀ (b : Act),YieldsIf P ops S oi v b → ∀ u,YieldsIf P ops S oi v (b.put oj.dst u) := fun b hb u =>
  hb.of_same (execOp_put oi hsi b oj.dst u h3) (wanted_put oi b oj.dst u h3)
 have put : ∀ u w',K ((a.put oi.dst v).put oj.dst u) w' → YieldsIf P ops S oi v (a.put oj.dst u) ∧ K ((a.put oj.dst u).put oi.dst v) w' := fun u w' hk =>
  ⟨keep a hy u,by rw [← Act.put_comm a v u h2]; exact hk⟩
 unfold wpOpIn at h ⊢
 rw [hj] at h ⊢
 simp only at h ⊢
 rw [wanted_put oj a oi.dst v h1] at h
 split
 ·rename_i hw
  rw [if_pos hw] at h
  refine ⟨fun _ _ => trivial,?_⟩
  have h : Oper.uponIn Fence.wide m P oj (a.put oi.dst v) K Q ((Oper.semAt none (a.put oi.dst v).eval oj).run P w) := h.2
  rw [Oper.semAt_none,execOp_put oj hsj a oi.dst v h1] at h
  show Oper.uponIn Fence.wide m P oj a _ Q ((Oper.semAt none a.eval oj).run P w)
  rw [Oper.semAt_none]
  revert h
  generalize (execOp a.eval oj).run P w = r
  cases r with
  | ok x w' =>
   cases x with
   | value u => exact fun h => put u w' h
   | skip => exact fun h => put undef w' h
   | defer d =>
    intro h
    refine ⟨keep { a with defers := d :: a.defers } (hy.of_same G G) _,?_⟩
    rw [← Act.put_comm _ v undef h2,← Act.put_defers]
    exact h
   | enter k args =>
    refine fun h => ⟨h.1,CallsIn.mono h.2 fun e w'' => ?_⟩
    cases e with
    | returned u => exact fun h => put u w'' h
    | panicked c => exact fun h => absurd h (hN _ _ _)
    | outgrown => exact fun h => h
   | row row args => exact fun h => ⟨h.1,RowsIn.mono h.2 fun u w'' h => put u w'' h⟩
   | round l k t b c =>
    refine fun h => ⟨h.1,RoundIn.mono h.2 fun e w'' => ?_⟩
    cases e with
    | returned u => exact fun h => put u w'' h
    | panicked c => exact fun h => absurd h (hN _ _ _)
    | outgrown => exact fun h => h
   | _ => exact fun h => h
  | halt x w' =>
   cases x with
   | panic u => exact fun h => absurd h (hN _ _ _)
   | _ => exact fun h => h
 ·rename_i hw
  rw [if_neg hw] at h
  exact ⟨fun _ _ => trivial,put undef w h.2⟩
def KN (m : Nat) (P : Program) (ops : Array Oper) (Q : Exit → Act → World → Prop) (S : World → Prop) (e : Nat) : Nat → Array Bool → Act → World → Prop
 | 0,listed,a,w => Region.ready .any ops listed = [] ∧ Q .normal a w
 | fuel + 1,listed,a,w => (Region.ready .any ops listed = [] → Q .normal a w) ∧ ∀ i ∈ Region.ready .any ops listed,wpOpIn Fence.wide m P ops Q i (fun a' w' => ((listed.setIfInBounds i true).getD e false = false → S w') ∧ KN m P ops Q S e fuel (listed.setIfInBounds i true) a' w') a w
theorem IT {e : Nat} : ∀ (fuel : Nat) (listed : Array Bool) (a : Act) (w : World),KN m P ops Q S e fuel listed a w → wpAnyIn Fence.wide m P .any ops Q fuel listed a w
 | 0,_,_,_,h => h
 | fuel + 1,_,_,_,h => ⟨h.1,fun i hi => wpOpIn_mono (fun a' w' h' => IT fuel _ a' w' h'.2) (h.2 i hi)⟩
def G8 (ops : Array Oper) (i e : Nat) : Nat → Array Bool → Bool
 | 0,_ => true
 | fuel + 1,listed => (Region.ready .any ops listed).all fun j => j == i || (j != e && G8 ops i e fuel (listed.setIfInBounds j true))
theorem Bx {listed : Array Bool} {j e : Nat} (h : j ≠ e) : (listed.setIfInBounds j true).getD e false = listed.getD e false := by
 simp [Array.getD_eq_getD_getElem?,Array.getElem?_setIfInBounds,h]
theorem G0 {e i : Nat} {oi : Oper} {v : Value} (hi : ops[i]? = some oi) (hie : i ≠ e) (hsel : ∀ (j : Nat) (o : Oper) cs b,ops[j]? = some o → o.op ≠ .select cs b) (hN : ∀ c a w,¬ Q (.panic c) a w) :
  ∀ (fuel : Nat) (listed : Array Bool) (a : Act) (w : World),(∀ j oj,ops[j]? = some oj → j ≠ i → listed.getD j true = false → (∀ e ∈ oj.after,Region.binds .any e = true → e.on ≠ i) → oi.apart ops oj = true) →
   listed.getD e false = false → G8 ops i e (fuel + 1) listed = true →
   i ∈ Region.ready .any ops listed → YieldsIf P ops S oi v a → S w → KN m P ops Q S e fuel (listed.setIfInBounds i true) (a.put oi.dst v) w → KN m P ops Q S e (fuel + 1) listed a w := by
 intro fuel
 induction fuel with
 | zero =>
  intro listed a w _ he hsf hr hy hS H
  refine ⟨fun h => (by rw [h] at hr; cases hr),fun j hj => ?_⟩
  by_cases e : j = i
  ·subst e; exact Hf hi hy hS ⟨fun _ => hS,H⟩
  ·have := ready_mono hj e
   rw [H.1] at this
   cases this
 | succ fuel ih =>
  intro listed a w hfree he hsf hr hy hS H
  refine ⟨fun h => (by rw [h] at hr; cases hr),fun j hj => ?_⟩
  by_cases hji : j = i
  ·subst hji; exact Hf hi hy hS ⟨fun _ => hS,H⟩
  ·obtain ⟨hjun,oj,hoj,hall⟩ := mem_ready.1 hj
   have hno : ∀ e ∈ oj.after,Region.binds .any e = true → e.on ≠ i := fun e he hb heq => by
    have h1 := hall e he hb
    have h0 := (mem_ready.1 hr).1
    rw [heq] at h1
    rcases Nat.lt_or_ge i listed.size with h' | h'
    ·simp [h'] at h0 h1; rw [h0] at h1; cases h1
    ·simp [Array.getElem?_eq_none h'] at h1
   have hsj : (j == i || (j != e && G8 ops i e (fuel + 1) (listed.setIfInBounds j true))) = true := List.all_eq_true.1 hsf j hj
   simp only [Bool.or_eq_true,beq_iff_eq,hji,false_or,Bool.and_eq_true,bne_iff_ne,ne_eq] at hsj
   have hs := put_past hoj (hfree j oj hoj hji hjun hno) (fun cs b => hsel i oi cs b hi) (fun cs b => hsel j oj cs b hoj) hN hy (H.2 j (ready_mono hj hji))
   have hej : (listed.setIfInBounds j true).getD e false = false := by rw [Bx hsj.1]; exact he
   have heij : ((listed.setIfInBounds i true).setIfInBounds j true).getD e false = false := by rw [Bx hsj.1,Bx hie]; exact he
   refine wpOpIn_mono (fun a' w' h3 => ⟨fun _ => h3.2.1 heij,ih (listed.setIfInBounds j true) a' w' (fun k ok hk hki hun hno' => hfree k ok hk hki ?_ hno') hej hsj.2 (ready_mono hr (Ne.symm hji)) h3.1 (h3.2.1 heij) ?_⟩) hs
   ·by_cases hjk : j = k
    ·subst hjk; exact hjun
    ·rw [getD_set_ne true hjk] at hun; exact hun
   ·rw [Array.setIfInBounds_comm _ _ hji]
    exact h3.2.2
end
section
variable {n : Nat} {P : Program} {ops : Array Oper} {Q : Bd n} {S : World → Prop} {e fuel : Nat} {listed : Array Bool} {f : Fm n} {W : World}
structure AK (P : Program) (ops : Array Oper) (Q : Bd n) (S : World → Prop) (e fuel : Nat) (listed : Array Bool) (f : Fm n) (W : World) : Prop where
 out : ∀ m,KN m P ops (Cd Q) S e fuel listed (act f) W
theorem ak_begin {id : Nat} (e : Nat) (hm : F2 P) (S : World → Prop) (h : ∀ W1,Below W.heap.size W W1 → W.grownBy W1 none → W1.heap = W.heap → AK P ops Q S e ops.size (Array.replicate ops.size false) f W1) : CJ P (.region id ops true) Q f W :=
 ⟨fun m => wpIn_region_any hm (IT _ _ _ _ ((h W.drew ((Below.refl _ _).drew) ⟨rfl,rfl,rfl,Nat.le_refl _,fun _ _ _ => rfl⟩ rfl).out m))⟩
theorem Dy (i : Nat) {d : Tmp} {op : Op} {ty : TypeId} {pos : String} {aft : Array Edge} {g : Option (Nat × Bool)} {v : Value} (hi : ops[i]? = some ⟨some d,op,ty,pos,aft,g⟩) (hk : (tk ops listed i && !(listed.getD e false) && (i != e) && G8 ops i e (fuel + 1) listed) = true) (hN : ∀ c f W,¬ Q (.panic c) f W) (hw : wanted ops f g = true)
  (hy : ∀ w,S w → Ru P op ty f w = .ok (.value v) w) (hS : S W) (h : AK P ops Q S e fuel (listed.setIfInBounds i true) (up f d v) W) : AK P ops Q S e (fuel + 1) listed f W := by
 simp only [tk,Bool.and_eq_true,Bool.not_eq_true',bne_iff_ne,ne_eq] at hk
 obtain ⟨⟨⟨⟨⟨h1,h2⟩,h3⟩,h4⟩,h5⟩,h6⟩ := hk
 refine ⟨fun m => G0 (v := v) hi h5 (Region.noSelect_spec h1) (fun c a w => ?_) fuel listed _ _ (Region.free_spec hi h2) h4 h6 (by simpa using h3) (.inl ⟨by rw [BI]; exact hw,fun w hw' => ?_⟩) hS ?_⟩
 ·rintro ⟨f',_,hq⟩; exact hN c f' w hq
 ·rw [Ba,Ce]; exact hy w hw'
 ·rw [show (act f).put (⟨some d,op,ty,pos,aft,g⟩ : Oper).dst v = act (up f d v) from Cc f d v]
  exact h.out m
theorem Jg (i : Nat) {d : Tmp} {op : Op} {ty : TypeId} {pos : String} {aft : Array Edge} {g : Option (Nat × Bool)} (hi : ops[i]? = some ⟨some d,op,ty,pos,aft,g⟩) (hk : (tk ops listed i && !(listed.getD e false) && (i != e) && G8 ops i e (fuel + 1) listed) = true) (hN : ∀ c f W,¬ Q (.panic c) f W) (hw : wanted ops f g = false)
  (hS : S W) (h : AK P ops Q S e fuel (listed.setIfInBounds i true) (up f d undef) W) : AK P ops Q S e (fuel + 1) listed f W := by
 simp only [tk,Bool.and_eq_true,Bool.not_eq_true',bne_iff_ne,ne_eq] at hk
 obtain ⟨⟨⟨⟨⟨h1,h2⟩,h3⟩,h4⟩,h5⟩,h6⟩ := hk
 refine ⟨fun m => G0 (v := undef) hi h5 (Region.noSelect_spec h1) (fun c a w => ?_) fuel listed _ _ (Region.free_spec hi h2) h4 h6 (by simpa using h3) (.inr ⟨by rw [BI]; exact hw,rfl⟩) hS ?_⟩
 ·rintro ⟨f',_,hq⟩; exact hN c f' w hq
 ·rw [show (act f).put (⟨some d,op,ty,pos,aft,g⟩ : Oper).dst undef = act (up f d undef) from Cc f d undef]
  exact h.out m
theorem CM (i : Nat) {o : Oper} (hQ : ∀ f W,¬ Q .outgrown f W) (hr : Region.ready .any ops listed = [i]) (hi : ops[i]? = some o) (h : LJ P ops (thn (fun f' w' => ((listed.setIfInBounds i true).getD e false = false → S w') ∧ AK P ops Q S e fuel (listed.setIfInBounds i true) f' w') Q) o [] f W) : AK P ops Q S e (fuel + 1) listed f W := by
 refine ⟨fun m => ⟨fun e => (by rw [hr] at e; cases e),fun j hj => ?_⟩⟩
 rw [hr] at hj
 have hj : j = i := by simpa using hj
 subst hj
 refine wpOpIn_mono ?_ (opj m hQ hi h)
 rintro a w ⟨g,rfl,hS,hA⟩
 exact ⟨hS,hA.out m⟩
theorem Ia (hr : Region.ready .any ops listed = []) (h : Q .normal f W) : AK P ops Q S e fuel listed f W := by
 refine ⟨fun m => ?_⟩
 cases fuel with
 | zero => exact ⟨hr,f,rfl,h⟩
 | succ k => exact ⟨fun _ => ⟨f,rfl,h⟩,fun i hi => by rw [hr] at hi; cases hi⟩
end
section
variable {P : Program} {ops : Array Oper} {Q : Exit → Act → World → Prop} {S : World → Prop}
def IU (P : Program) (ops : Array Oper) (Q : Exit → Act → World → Prop) (S : World → Prop) (e : Nat) : Nat → Array Bool → Act → World → Prop
 | 0,listed,a,w => Region.ready .any ops listed = [] ∧ Q .normal a w
 | fuel + 1,listed,a,w => (Region.ready .any ops listed = [] → Q .normal a w) ∧ ∀ i ∈ Region.ready .any ops listed,wpOp P ops Q i (fun a' w' => ((listed.setIfInBounds i true).getD e false = false → S w') ∧ IU P ops Q S e fuel (listed.setIfInBounds i true) a' w') a w
theorem G1 {e : Nat} : ∀ (fuel : Nat) (listed : Array Bool) (a : Act) (w : World),IU P ops Q S e fuel listed a w → wpAny P .any ops Q fuel listed a w
 | 0,_,_,_,h => h
 | fuel + 1,_,_,_,h => ⟨h.1,fun i hi => wpOp_mono (fun a' w' h' => G1 fuel _ a' w' h'.2) (h.2 i hi)⟩
theorem anyE_first {e i : Nat} {oi : Oper} {v : Value} (hi : ops[i]? = some oi) (hie : i ≠ e) (hsel : ∀ (j : Nat) (o : Oper) cs b,ops[j]? = some o → o.op ≠ .select cs b) (hN : ∀ c a w,¬ Q (.panic c) a w) :
  ∀ (fuel : Nat) (listed : Array Bool) (a : Act) (w : World),(∀ j oj,ops[j]? = some oj → j ≠ i → listed.getD j true = false → (∀ e ∈ oj.after,Region.binds .any e = true → e.on ≠ i) → oi.apart ops oj = true) →
   listed.getD e false = false → G8 ops i e (fuel + 1) listed = true →
   i ∈ Region.ready .any ops listed → YieldsIf P ops S oi v a → S w → IU P ops Q S e fuel (listed.setIfInBounds i true) (a.put oi.dst v) w → IU P ops Q S e (fuel + 1) listed a w := by
 intro fuel
 induction fuel with
 | zero =>
  intro listed a w _ he hsf hr hy hS H
  refine ⟨fun h => (by rw [h] at hr; cases hr),fun j hj => ?_⟩
  by_cases e : j = i
  ·subst e; exact hy.wpOp hi hS ⟨fun _ => hS,H⟩
  ·have := ready_mono hj e
   rw [H.1] at this
   cases this
 | succ fuel ih =>
  intro listed a w hfree he hsf hr hy hS H
  refine ⟨fun h => (by rw [h] at hr; cases hr),fun j hj => ?_⟩
  by_cases hji : j = i
  ·subst hji; exact hy.wpOp hi hS ⟨fun _ => hS,H⟩
  ·obtain ⟨hjun,oj,hoj,hall⟩ := mem_ready.1 hj
   have hno : ∀ e ∈ oj.after,Region.binds .any e = true → e.on ≠ i := fun e he hb heq => by
    have h1 := hall e he hb
    have h0 := (mem_ready.1 hr).1
    rw [heq] at h1
    rcases Nat.lt_or_ge i listed.size with h' | h'
    ·simp [h'] at h0 h1; rw [h0] at h1; cases h1
    ·simp [Array.getElem?_eq_none h'] at h1
   have hsj : (j == i || (j != e && G8 ops i e (fuel + 1) (listed.setIfInBounds j true))) = true := List.all_eq_true.1 hsf j hj
   simp only [Bool.or_eq_true,beq_iff_eq,hji,false_or,Bool.and_eq_true,bne_iff_ne,ne_eq] at hsj
   have hs := wpOp_putIf hoj (hfree j oj hoj hji hjun hno) (fun cs b => hsel i oi cs b hi) (fun cs b => hsel j oj cs b hoj) (fun c a w h => absurd h (hN _ _ _)) hy (H.2 j (ready_mono hj hji))
   have hej : (listed.setIfInBounds j true).getD e false = false := by rw [Bx hsj.1]; exact he
   have heij : ((listed.setIfInBounds i true).setIfInBounds j true).getD e false = false := by rw [Bx hsj.1,Bx hie]; exact he
   refine wpOp_mono (fun a' w' h3 => ⟨fun _ => h3.2.1 heij,ih (listed.setIfInBounds j true) a' w' (fun k ok hk hki hun hno' => hfree k ok hk hki ?_ hno') hej hsj.2 (ready_mono hr (Ne.symm hji)) h3.1 (h3.2.1 heij) ?_⟩) hs
   ·by_cases hjk : j = k
    ·subst hjk; exact hjun
    ·rw [getD_set_ne true hjk] at hun; exact hun
   ·rw [Array.setIfInBounds_comm _ _ hji]
    exact h3.2.2
end
section
variable {n : Nat} {P : Program} {ops : Array Oper} {Q : Bd n} {S : World → Prop} {e fuel : Nat} {listed : Array Bool} {f : Fm n} {W : World}
structure AE (P : Program) (ops : Array Oper) (Q : Bd n) (S : World → Prop) (e fuel : Nat) (listed : Array Bool) (f : Fm n) (W : World) : Prop where
 out : IU P ops (Cd Q) S e fuel listed (act f) W
theorem Bv {id : Nat} (e : Nat) (hm : F2 P) (S : World → Prop) (h : ∀ W1,Below W.heap.size W W1 → W.grownBy W1 none → W1.heap = W.heap → AE P ops Q S e ops.size (Array.replicate ops.size false) f W1) : CW P (.region id ops true) Q f W :=
 ⟨wp_region_any hm (G1 _ _ _ _ (h W.drew ((Below.refl _ _).drew) ⟨rfl,rfl,rfl,Nat.le_refl _,fun _ _ _ => rfl⟩ rfl).out)⟩
theorem Ay (i : Nat) {d : Tmp} {op : Op} {ty : TypeId} {pos : String} {aft : Array Edge} {g : Option (Nat × Bool)} {v : Value} (hi : ops[i]? = some ⟨some d,op,ty,pos,aft,g⟩) (hk : (tk ops listed i && !(listed.getD e false) && (i != e) && G8 ops i e (fuel + 1) listed) = true) (hN : ∀ c f W,¬ Q (.panic c) f W) (hw : wanted ops f g = true)
  (hy : ∀ w,S w → Ru P op ty f w = .ok (.value v) w) (hS : S W) (h : AE P ops Q S e fuel (listed.setIfInBounds i true) (up f d v) W) : AE P ops Q S e (fuel + 1) listed f W := by
 simp only [tk,Bool.and_eq_true,Bool.not_eq_true',bne_iff_ne,ne_eq] at hk
 obtain ⟨⟨⟨⟨⟨h1,h2⟩,h3⟩,h4⟩,h5⟩,h6⟩ := hk
 refine ⟨anyE_first (v := v) hi h5 (Region.noSelect_spec h1) (fun c a w => ?_) fuel listed _ _ (Region.free_spec hi h2) h4 h6 (by simpa using h3) (.inl ⟨by rw [BI]; exact hw,fun w hw' => ?_⟩) hS ?_⟩
 ·rintro ⟨f',_,hq⟩; exact hN c f' w hq
 ·rw [Ba,Ce]; exact hy w hw'
 ·rw [show (act f).put (⟨some d,op,ty,pos,aft,g⟩ : Oper).dst v = act (up f d v) from Cc f d v]
  exact h.out
theorem Aq (i : Nat) {o : Oper} (hr : Region.ready .any ops listed = [i]) (hi : ops[i]? = some o) (h : LS P ops (thn (fun f' w' => ((listed.setIfInBounds i true).getD e false = false → S w') ∧ AE P ops Q S e fuel (listed.setIfInBounds i true) f' w') Q) o [] f W) : AE P ops Q S e (fuel + 1) listed f W := by
 refine ⟨⟨fun e => (by rw [hr] at e; cases e),fun j hj => ?_⟩⟩
 rw [hr] at hj
 have hj : j = i := by simpa using hj
 subst hj
 refine wpOp_mono ?_ (Di hi h)
 rintro a w ⟨g,rfl,hS,hA⟩
 exact ⟨hS,hA.out⟩
theorem DE (i j : Nat) {o o' : Oper} (hr : Region.ready .any ops listed = [i,j]) (hi : ops[i]? = some o) (hj : ops[j]? = some o') (h : LS P ops (thn (fun f' w' => ((listed.setIfInBounds i true).getD e false = false → S w') ∧ AE P ops Q S e fuel (listed.setIfInBounds i true) f' w') Q) o [] f W)
  (h' : LS P ops (thn (fun f' w' => ((listed.setIfInBounds j true).getD e false = false → S w') ∧ AE P ops Q S e fuel (listed.setIfInBounds j true) f' w') Q) o' [] f W) : AE P ops Q S e (fuel + 1) listed f W := by
 refine ⟨⟨fun e => (by rw [hr] at e; cases e),fun k hk => ?_⟩⟩
 rw [hr] at hk
 rcases List.mem_cons.1 hk with rfl | hk
 ·refine wpOp_mono ?_ (Di hi h)
  rintro a w ⟨g,rfl,hS,hA⟩
  exact ⟨hS,hA.out⟩
 ·rw [List.mem_singleton.1 hk]
  refine wpOp_mono ?_ (Di hj h')
  rintro a w ⟨g,rfl,hS,hA⟩
  exact ⟨hS,hA.out⟩
theorem Bw (hr : Region.ready .any ops listed = []) (h : Q .normal f W) : AE P ops Q S e fuel listed f W := by
 refine ⟨?_⟩
 cases fuel with
 | zero => exact ⟨hr,f,rfl,h⟩
 | succ k => exact ⟨fun _ => ⟨f,rfl,h⟩,fun i hi => by rw [hr] at hi; cases hi⟩
end
end
section
open Go Fm Go.RowKit Go.Proofs.YtmjllchdhcdinaaGreatDoorW.PrintWords
section
variable {P : Program} {ops : Array Oper} {Q : Exit → Act → World → Prop} {S : World → Prop}
theorem FU {listed : Array Bool} {i e : Nat} (h : listed.getD e false = true) : (listed.setIfInBounds i true).getD e false = true := by
 by_cases hie : i = e
 ·subst hie
  have hl : i < listed.size := by
   rcases Nat.lt_or_ge i listed.size with h' | h'
   ·exact h'
   ·simp [Array.getD_eq_getD_getElem?,Array.getElem?_eq_none h'] at h
  simp [Array.getD_eq_getD_getElem?,hl]
 ·rw [Bx hie]; exact h
theorem HK {e : Nat} : ∀ (fuel : Nat) (listed : Array Bool) (a : Act) (w : World),listed.getD e false = true → wpAnyH P .any ops Q (fun _ => True) fuel listed a w → IU P ops Q S e fuel listed a w
 | 0,_,_,_,_,h => h
 | fuel + 1,_,_,_,he,h => ⟨h.1,fun i hi => wpOp_mono (fun _ _ h' => ⟨(fun hf => by rw [FU he] at hf; cases hf),HK fuel _ _ _ (FU he) h'.2⟩) (h.2 i hi)⟩
end
section
variable {n : Nat} {P : Program} {ops : Array Oper} {Q : Bd n} {S : World → Prop} {e fuel : Nat} {listed : Array Bool} {f : Fm n} {W : World} {fn : Func} {R : Ending → World → Prop} {ty : TypeId}
theorem CN (he : listed.getD e false = true) (h : AH P ops Q (fun _ => True) fuel listed f W) : AE P ops Q S e fuel listed f W := ⟨HK fuel listed _ _ he h.out⟩
theorem rtctt {p u v : Tmp} {g tt : Nat} {vs : List Value} {v1 v2 : Value} (hr : fn.results = #[.cell p ty,.tmp u,.tmp v]) (hp : gt f p = .pointer (some ⟨g,0,none⟩)) (hu : gt f u = v1) (hv : gt f v = v2) (hb : W.heap[g]? = some (.cells vs.toArray tt (0,0))) (hag : ∀ w,(isAgg ty).run P w = .ok true w) (hsz : ∀ w,(sizeOf ty).run P w = .ok vs.length w)
  (h : R (.returned (.tuple #[.agg vs.toArray,v1,v2])) W) (hd : f.ds = [] := by rfl) : RT P fn R f W := rtv hd (v := .tuple #[.agg vs.toArray,v1,v2]) (by
 have h3 : f.toL[p]?.getD undef = .pointer (some ⟨g,0,none⟩) := by rw [← hp,B5,gD]
 have h4 : f.toL[u]?.getD undef = v1 := by rw [← hu,B5,gD]
 have h5 : f.toL[v]?.getD undef = v2 := by rw [← hv,B5,gD]
 have h6 := B9 (P := P) W ⟨g,0,none⟩ vs 0 #[] (fun j v hj => by simpa using Ak hb j v hj)
 simp [results,hr,h3,h4,h5,asAddr,hag,hsz,h6,go_sem]) h
end
abbrev K0 (g : GL) (L : Nat → Int) (mz : List Me) := { x : Nat × Me // x.1 < g.own.length ∧ x.2.Good L ∧ IsLift g.gm (Me.nat L) (rho L mz) x.1 (x.2.rk L) ∧ rho L mz x.1 < x.2.rk L }
def candE {g : GL} {L : Nat → Int} {mz : List Me} (x : K0 g L mz) : Array Value := #[.int .i64 x.1.1,.agg x.1.2.enc.toArray]
def KY (A B : World) : Prop := A.heap.size ≤ B.heap.size ∧ ∀ (i : Nat) (cs : Array Value) (t : Nat),A.heap[i]? = some (.cells cs t (0,0)) → B.heap[i]? = some (.cells cs t (0,0))
theorem Eo {P : Program} {l a b : Nat} {args : Array Value} {W : World} {R : Ending → World → Prop} (h : YieldAt Fence.wide a P l args W R) : YieldAt Fence.wide b P l args W R := by
 obtain ⟨fn,tmps,assign,body,h1,h2,h3⟩ := h
 exact ⟨fn,tmps,assign,body,h1,h2,fun c cs _ => h3 c cs (room_wide _)⟩
theorem cand175 (g : GL) (hg : g.Ok) (OA PA SA : Option Addr) (co cp cS : Nat) (L : Nat → Int) (s : Nat) (w0 : World) (hG : GR g w0 OA PA SA) (hs : w0.heap[s]? = some (.cells (slv g OA PA SA co cp cS L).toArray 234 (0,0))) (hL : ∀ j,j < 8 → 0 ≤ L j ∧ L j ≤ 4096)
  (MA : Option Addr) (mc : Nat) (mz : List Me) (hlm : mz.length = g.own.length) (hC : Me.kd.C w0 MA mz.length mz) (hm : ∀ m ∈ mz,m.Good L) (c1 c2 : Nat) (h1 : w0.heap[c1]? = some (.cells #[.slice MA mz.length mc] 58 (0,0))) (h2 : w0.heap[c2]? = some (.cells #[.pointer (some ⟨s,0,none⟩)] 201 (0,0))) (mm : Nat) :
  SeqStopsK Fence.wide mm Tryz.prog 175 #[.pointer (some ⟨c1,0,none⟩),.pointer (some ⟨c2,0,none⟩)] (candE (g := g) (L := L) (mz := mz)) (fun A B => Below w0.heap.size A B ∧ KY A B) (fun xs => xs = [] → ∀ v,v < g.own.length → ∀ y,IsLift g.gm (Me.nat L) (rho L mz) v y → y ≤ rho L mz v) (fun pre => pre ≠ []) g.own.length w0 := by
 have hmx := hg.max
 intro l J Jx W hW hJ hJx hY h0
 refine H3 30 Tryz.func175 G G [.func (.yield l) #[] #[],.pointer (some ⟨c1,0,none⟩),.pointer (some ⟨c2,0,none⟩)] (by simp) ?_ mm
 have hcell : ∀ V,Below w0.heap.size w0 V → V.cell? ⟨c1,0,none⟩ = some (.slice MA mz.length mc) ∧ V.cell? ⟨c2,0,none⟩ = some (.pointer (some ⟨s,0,none⟩)) := fun V hB => ⟨(Ac (Ab h1 hB) 0).trans rfl,(Ac (Ab h2 hB) 0).trans rfl⟩
 obtain ⟨hc1,hc2⟩ := hcell W hW
 refine oj (fun _ _ h => h)<|old G58 G ‹_›<|oj (fun _ _ h => h)<|oln U58 G<|oj (fun _ _ h => h)<|mi G<|lpj (σ := Nat × List (K0 g L mz)) (fun q => [(0,.func (.yield l) #[] #[]),(1,.pointer (some ⟨c1,0,none⟩)),(2,.pointer (some ⟨c2,0,none⟩)),(7,.int .i64 mz.length),(8,.int .i64 q.1)])
  (fun q V => Below w0.heap.size w0 V ∧ W.heap.size ≤ V.heap.size ∧ q.1 ≤ mz.length ∧ J q.2 V ∧ q.2.length ≤ q.1 ∧ (q.2 = [] → ∀ v,v < q.1 → ∀ y,IsLift g.gm (Me.nat L) (rho L mz) v y → y ≤ rho L mz v)) (fun q => mz.length - q.1) (0,[]) ⟨rfl,rfl,rfl,rfl,rfl,rfl⟩ ⟨hW,Nat.le_refl _,Nat.zero_le _,h0,Nat.le_refl _,fun _ v hv => absurd hv (Nat.not_lt_zero v)⟩ ?_
 clear hc1 hc2
 rintro ⟨k,pre⟩ f V ⟨hB,hWV,hk,hJp,hlen,hno⟩
 simp only at hk hJp hlen hno
 refine oj (fun _ _ h => h)<|olt G G<|cdd G (fun h => ?_) (fun h => ?_)
 ·have h : k < mz.length := Int.ofNat_lt.1 h
  have hkn : k < g.own.length := hlm ▸ h
  obtain ⟨hc1,hc2⟩ := hcell V hB
  obtain ⟨m,hmk⟩ : ∃ m,mz[k]? = some m := ⟨_,gE h⟩
  have hgm := hm m (List.mem_of_getElem? hmk)
  have hrm := Gt (L := L) hmk
  refine oj (fun _ _ h => h)<|mi G<|oj (fun _ _ h => h)<|ai G<|oj (fun _ _ h => h)<|old LE G ‹_›<|oj (fun _ _ h => h)<|old G58 G ‹_›<|oj (fun _ _ h => h)<|mi G<|oj (fun _ _ h => h) (cl L4 [] G ((JM g hg OA PA SA co cp cS L s V (hG.below hB) (Ab hs hB) hL MA mc mz hlm (Kd.C_below hC hB) hm k hkn).mono ?_))
  rintro e V1 ⟨m',rfl,hgm',hil,hb1⟩
  refine ⟨_,rfl,?_⟩
  refine oj (fun _ _ h => h) (oal (v := .agg zme.toArray) (fun _ => by kernel_rfl) G ?_)
  intro b V2 hbe hbb hb2
  refine oj (fun _ _ h => h) (Bo (vs := m'.enc) (cs := zme) S68 G G G (Me.enc_one _) hbb (by simp [Me.enc_len,zme]) ?_)
  intro V3 hbb3 hg3
  have hs1 := hb1.size
  have hs2 := hb2.size
  have hgV : V.grownBy V3 none := AF (B7 (B7 (B6 V none) hb1) hb2) hg3 (fun b' e => by cases e; omega)
  have hJ3 := hJ pre V V3 none hJp hgV (fun r e => by cases e)
  have hw0 := hB.size
  have hB3 := (Ad (Ad hB hb1) hb2).grown hg3 (Ad (Ad hB hb1) hb2).size (fun b' e => by cases e; omega)
  obtain ⟨adM,rfl,hcM⟩ := Me.row hC hmk
  refine ak_begin 11 mixed (fun V => V.heap[b]? = some (.cells m'.enc.toArray 68 (0,0)) ∧ V.cell? ⟨c1,0,none⟩ = some (.slice (some adM) mz.length mc) ∧ ∀ (j : Nat) (z : Value),m.enc[j]? = some z → V.cell? ((adM.add (k * 9)).add j) = some z) ?_
  intro V4 hb4 hg4 _
  have hJ4 := hJ pre V3 V4 none hJ3 hg4 (fun r e => by cases e)
  have hB4 := Ad hB3 hb4
  have hbb4 := Ab hbb3 hb4
  have hS := (⟨hbb4,(hcell V4 hB4).1,fun j z hj => Ae hB4 (hcM j z hj)⟩ : V4.heap[b]? = some (.cells m'.enc.toArray 68 (0,0)) ∧ V4.cell? ⟨c1,0,none⟩ = some (.slice (some adM) mz.length mc) ∧ ∀ (j : Nat) (z : Value),m.enc[j]? = some z → V4.cell? ((adM.add (k * 9)).add j) = some z)
  refine Dy 0 G (by kernel_rfl) (fun _ _ _ h => h) G (fun v hv => Bs (vs := m'.enc) G68 S68 G (Ak hv.1)) hS<|Dy 1 G (by kernel_rfl) (fun _ _ _ h => h) G (fun v hv => Ai G58 G hv.2.1) hS<|Dy 2 G (by kernel_rfl) (fun _ _ _ h => h) G (fun v _ => mi_ G v) hS<|Dy 3 G (by kernel_rfl) (fun _ _ _ h => h) G (fun v _ => AU Fo Z68 G G h v) hS <|
   Dy 4 rfl (by kernel_rfl) (fun _ _ _ h => h) rfl (fun v hv => Bs (vs := m.enc) G68 S68 rfl hv.2.2) hS<|?_
  refine CM 5 (fun _ _ h => h) (by kernel_rfl) G (oj (fun _ _ h => h) (cl K1 [] G ((Dm L m' m V4 hgm' hgm).mono ?_)))
  rintro e V5 ⟨cv,rfl,hneg,hpos,hb5⟩
  refine ⟨_,rfl,?_⟩
  have hJ5 := hJ pre V4 V5 none hJ4 (Ap hb5 none) (fun r e => by cases e)
  have hB5 := Ad hB4 hb5
  have hS := (⟨Ab hbb4 hb5,(hcell V5 hB5).1,fun j z hj => Ae hB5 (hcM j z hj)⟩ : V5.heap[b]? = some (.cells m'.enc.toArray 68 (0,0)) ∧ V5.cell? ⟨c1,0,none⟩ = some (.slice (some adM) mz.length mc) ∧ ∀ (j : Nat) (z : Value),m.enc[j]? = some z → V5.cell? ((adM.add (k * 9)).add j) = some z)
  refine ⟨fun _ => hS,?_⟩
  have hWV5 : W.heap.size ≤ V5.heap.size := by have := hb4.size; have := hb5.size; have := hg3.size; omega
  by_cases hcv : 0 < cv
  ·refine CM 6 (fun _ _ h => h) (by kernel_rfl) G (oj (fun _ _ h => h) (ogt G G<|ist (by omega)<|⟨fun _ => hS,?_⟩))
   refine CM 7 (fun _ _ h => h) (by kernel_rfl) G (oj (fun _ _ h => h) (mb G ⟨fun _ => hS,?_⟩))
   refine Dy 8 G (by kernel_rfl) (fun _ _ _ h => h) G (fun v _ => mf_ G v) hS<|Dy 9 G (by kernel_rfl) (fun _ _ _ h => h) G (fun v _ => mi_ G v) hS<|Dy 10 G (by kernel_rfl) (fun _ _ _ h => h) G (fun v hv => Bs (vs := m'.enc) G68 S68 G (Ak hv.1)) hS<|CM 11 (fun _ _ h => h) (by kernel_rfl) G (IH G<|HS (l := l) G (fun m1 => ?_))
   refine YieldAt.mono (Eo (hY pre ⟨(k,m'),hkn,hgm',hil,by rw [hrm]; exact hpos.1 hcv⟩ V5 hJ5 (by omega))) ?_
   rintro e V6 (⟨rfl,hJ6,hk6,hkc⟩ | ⟨rfl,hJx⟩)
   ·have hB6 : Below w0.heap.size w0 V6 := hB5.trans hk6
    have hS := (⟨hkc.2 b _ _ hS.1,(hcell V6 hB6).1,fun j z hj => Ae hB6 (hcM j z hj)⟩ : V6.heap[b]? = some (.cells m'.enc.toArray 68 (0,0)) ∧ V6.cell? ⟨c1,0,none⟩ = some (.slice (some adM) mz.length mc) ∧ ∀ (j : Nat) (z : Value),m.enc[j]? = some z → V6.cell? ((adM.add (k * 9)).add j) = some z)
    refine ⟨_,rfl,fun _ => hS,?_⟩
    refine CM 12 (fun _ _ h => h) (by kernel_rfl) G (IH G<|oj (fun _ _ h => h) (ont G ⟨fun _ => hS,?_⟩))
    refine CM 13 (fun _ _ h => h) (by kernel_rfl) G (oj (fun _ _ h => h) (ptb G G ⟨fun _ => hS,?_⟩))
    refine Ia (by kernel_rfl)<|cdf G<|oj (fun _ _ h => h)<|oad G G (by first | assumption | omega)<|oj (fun _ _ h => h)<|mi G<|?_
    exact ⟨(k + 1,pre ++ [⟨(k,m'),hkn,hgm',hil,by rw [hrm]; exact hpos.1 hcv⟩]),⟨rfl,rfl,rfl,rfl,rfl,rfl⟩,⟨hB6,Nat.le_trans hWV5 hkc.1,h,hJ6,by simp; omega,fun e => by simp at e⟩,Nat.sub_lt_sub_left h (Nat.lt_succ_self k)⟩
   ·refine ⟨_,rfl,fun h => absurd h (by decide),?_⟩
    refine CM 12 (fun _ _ h => h) (by kernel_rfl) G (IH G<|oj (fun _ _ h => h) (ont G ⟨fun h => absurd h (by decide),?_⟩))
    refine CM 13 (fun _ _ h => h) (by kernel_rfl) G (oj (fun _ _ h => h) (ptb G G ⟨fun h => absurd h (by decide),?_⟩))
    refine Ia (by kernel_rfl)<|cdt G ?_
    exact rt0 rfl ⟨⟨_,rfl⟩,.inr ⟨_,by simp,hJx⟩⟩
  ·refine CM 6 (fun _ _ h => h) (by kernel_rfl) G (oj (fun _ _ h => h) (ogt G G<|isf (by omega)<|⟨fun _ => hS,?_⟩))
   refine CM 7 (fun _ _ h => h) (by kernel_rfl) G (oj (fun _ _ h => h) (mb G ⟨fun _ => hS,?_⟩))
   refine Jg 8 G (by kernel_rfl) (fun _ _ _ h => h) G hS<|Jg 9 G (by kernel_rfl) (fun _ _ _ h => h) G hS<|Jg 10 G (by kernel_rfl) (fun _ _ _ h => h) G hS<|CM 11 (fun _ _ h => h) (by kernel_rfl) G (oj (fun _ _ h => h) (gof G ⟨fun _ => hS,?_⟩))
   refine CM 12 (fun _ _ h => h) (by kernel_rfl) G (oj (fun _ _ h => h) (gof G ⟨fun _ => hS,?_⟩))
   refine CM 13 (fun _ _ h => h) (by kernel_rfl) G (oj (fun _ _ h => h) (pfb G G ⟨fun _ => hS,?_⟩))
   refine Ia (by kernel_rfl)<|cdf G<|oj (fun _ _ h => h)<|oad G G (by first | assumption | omega)<|oj (fun _ _ h => h)<|mi G<|?_
   refine ⟨(k + 1,pre),⟨rfl,rfl,rfl,rfl,rfl,rfl⟩,⟨hB5,hWV5,h,hJ5,by dsimp only; omega,fun e v hv y hy => ?_⟩,Nat.sub_lt_sub_left h (Nat.lt_succ_self k)⟩
   by_cases e' : v = k
   ·subst e'
    rw [hil.unique hy] at hpos
    rw [hrm]
    omega
   ·exact hno e v (by dsimp only at hv; omega) y hy
 ·exact rt0 rfl ⟨⟨_,rfl⟩,.inl ⟨pre,fun e v hv y hy => hno e v (by omega) y hy,hJp⟩⟩
section
variable {n : Nat} {P : Program} {ops : Array Oper} {rest : List Oper} {Q : Bd n} {W : World} {f : Fm n} {ty t e : TypeId} {x y : Operand} {pos : String} {aft : Array Edge}
theorem Lf {g m cap base k : Nat} {ok : Nat → Prop} {xs : List Me} {z : Me} (hsz : (P.info? t).map (·.size) = some 9) (HO : Me.kd.R e W base ok (.slice (some ⟨g,0,none⟩) m cap) xs) (hk : k < m) (ha : ex f x = .pointer (some ((⟨g,0,none⟩ : Addr).add (k * 9)))) (hv : ex f y = .agg z.enc.toArray)
  (h : ∀ w1,Me.kd.R e w1 base ok (.slice (some ⟨g,0,none⟩) m cap) (xs.set k z) → W.grownBy w1 (some g) → RL P ops Q rest f w1) : LS P ops Q ⟨none,.store t x y,ty,pos,aft,none⟩ rest f W := by
 obtain ⟨hn,_,hC⟩ := Kd.R_reads' HO
 obtain ⟨m0,hm0⟩ : ∃ m0,xs[k]? = some m0 := ⟨_,gE (by omega)⟩
 obtain ⟨ad,had,hc⟩ := Me.row hC hm0
 cases had
 refine HW (Kd.R_store Me.kd (w0 := W) base G G t x y G e (g := g) (n := m) (cap := cap) (o' := k * 9) (k : Int) 0 xs z (.agg z.enc.toArray) z.enc m0.enc ok (fun _ => False) (by rw [Ba,ha,add_plain]) (by simp [Me.kd]) (by rw [Ba]; exact hv) G hsz (Me.enc_one _) HO (by omega) (by omega) G ?_ (by simp [Me.kd,Me.enc_len]) ?_ (fun i hi => hi.elim) ?_ ?_)
 ·intro j u hj
  have := hc j u hj
  rw [Addr.add_add,add_plain] at this
  exact this
 ·show _ = z.enc
  rw [List.take_zero,List.nil_append,List.drop_of_length_le (by simp [Me.enc_len]),List.append_nil]
 ·exact Below.refl _ _
 ·intro w1 hr hb hg
  exact (h w1 (by simpa using hr) hg).out
end
theorem cands157 (s : Nat) (A : Option Addr) (n c : Nat) (w : World) :
  Calls Tryz.prog 157 #[.pointer (some ⟨s,0,none⟩),.slice A n c] w fun e w' => ∃ c1 c2,e = .returned (.func (.func 175) #[] #[.pointer (some ⟨c1,0,none⟩),.pointer (some ⟨c2,0,none⟩)]) ∧ w'.heap[c1]? = some (.cells #[.slice A n c] 58 (0,0)) ∧ w'.heap[c2]? = some (.cells #[.pointer (some ⟨s,0,none⟩)] 201 (0,0)) ∧ Below w.heap.size w w' := by
 refine enter 6 Tryz.func157 G G _ (by simp) ?_
 refine obx G G ?_
 intro c2 w1 h2e h2 hb1
 refine obx G G ?_
 intro c1 w2 h1e h1 hb2
 have h2 := Ab h2 hb2
 refine av G<|pl (.func (.func 175) #[] #[.pointer (some ⟨c1,0,none⟩),.pointer (some ⟨c2,0,none⟩)]) (fun _ => by kernel_rfl)<|af G<|?_
 exact rt1 rfl rfl ⟨c1,c2,rfl,h1,h2,Ad hb1 hb2⟩
theorem keepC_put (V : World) (l : Nat) (o o' : Obj) (ho : V.heap[l]? = some o) (hc : o.isCells = false) : KY V (V.putObj l o') := by
 refine ⟨Nat.le_of_eq World.putObj_size.symm,fun i cs t hi => ?_⟩
 refine (World.putObj_heap_other (fun e => ?_)).trans hi
 subst e
 rw [hi] at ho
 cases ho
 cases hc
theorem Fy {V V1 : World} {r : Option Nat} (h : V.grownBy V1 r) (hr : ∀ b,r = some b → V.heap.size ≤ b) : KY V V1 := by
 refine ⟨h.size,fun i cs t hi => ?_⟩
 have hl := (Array.getElem?_eq_some_iff.1 hi).1
 exact (h.block i hl (fun e => by have := hr i e.symm; omega)).trans hi
theorem BT {β : Type} {B b t : Nat} {cs : Array Value} : OwnFrom B (fun (_ : β) V => V.heap[b]? = some (.cells cs t (0,0))) := fun _ _ _ _ h hg hr => by
 have hl := (Array.getElem?_eq_some_iff.1 h).1
 refine (hg.block b hl (fun e => ?_)).trans h
 obtain ⟨_,o,ho,hc⟩ := hr _ e.symm
 rw [h] at ho
 cases ho
 cases hc
theorem Hn {β : Type} {B : Nat} {w : World} {r : Option Nat} (hB : w.heap.size ≤ B) : OwnFrom B (fun (_ : β) V => w.grownBy V r) := fun _ _ _ _ h hg hr => AF h hg (fun b e => Nat.le_trans hB (hr b e).1)
theorem own_R {α β : Type} {d : Kd α} {e B base : Nat} {ok : Nat → Prop} {v : Value} {xs : List α} (hok : ∀ k,ok k → k < B) : OwnFrom B (fun (_ : β) V => d.R e V base ok v xs) := fun _ _ _ _ h hg hr => Kd.R_grown h hg (fun k hk e => by have := hok k hk; have := (hr k e.symm).1; omega)
theorem step122 (g : GL) (hg : g.Ok) (OA PA SA : Option Addr) (co cp cS : Nat) (L : Nat → Int) (s : Nat) (w : World) (hG : GR g w OA PA SA) (hs : w.heap[s]? = some (.cells (slv g OA PA SA co cp cS L).toArray 234 (0,0))) (hL : ∀ j,j < 8 → 0 ≤ L j ∧ L j ≤ 4096)
  (gm mc base : Nat) (mz : List Me) (hlm : mz.length = g.own.length) (hR : Me.kd.R 68 w base (fun _ => True) (.slice (some ⟨gm,0,none⟩) mz.length mc) mz) (hm : ∀ m ∈ mz,m.Good L) :
  Calls Tryz.prog 122 #[.pointer (some ⟨s,0,none⟩),.slice (some ⟨gm,0,none⟩) mz.length mc] w fun e w' => ∃ b,e = .returned (.bool b) ∧ (b = false → ∀ v,v < g.own.length → ∀ y,IsLift g.gm (Me.nat L) (rho L mz) v y → y ≤ rho L mz v) ∧ (b = true → ∃ v y,v < g.own.length ∧ IsLift g.gm (Me.nat L) (rho L mz) v y ∧ rho L mz v < y) ∧ w.grownBy w' (some gm) := by
 refine enter 16 Tryz.func122 G G _ (by simp) ?_
 refine obx G G ?_
 intro b3 w1 hb3e hb3 hb1
 refine oal (v := .bool false) (fun _ => by kernel_rfl) G ?_
 intro b4 w2 hb4e hb4 hb2
 have hb3 := Ab hb3 hb2
 have hB := Ad hb1 hb2
 have hc3 : w2.cell? ⟨b3,0,none⟩ = some (.slice (some ⟨gm,0,none⟩) mz.length mc) := (Ac hb3 0).trans rfl
 refine mp G<|old G58 G ‹_›<|cl C157 [] G ((cands157 s (some ⟨gm,0,none⟩) mz.length mc w2).mono ?_)
 rintro e w3 ⟨c1,c2,rfl,h1,h2,hb5⟩
 refine ⟨_,rfl,?_⟩
 have hb3 := Ab hb3 hb5
 have hb4 := Ab hb4 hb5
 have hB := Ad hB hb5
 have hR := EV (Kd.R_below hR hB)
 have hC := (Kd.R_reads' hR).2.2
 have hsz := hB.size
 have hR : Me.kd.R 68 w3 base (fun k => k < w3.heap.size) (.slice (some ⟨gm,0,none⟩) mz.length mc) mz := Kd.R_mono (Kd.R_bound hR) (fun k hk => hk.2.2.1)
 have hlt3 := (Array.getElem?_eq_some_iff.1 hb3).1
 have hlt4 := (Array.getElem?_eq_some_iff.1 hb4).1
 refine Kv (α := K0 g L mz) (gf := 175) (lb := #[.pointer (some ⟨c1,0,none⟩),.pointer (some ⟨c2,0,none⟩)]) (w0 := w3) G C175 (by kernel_rfl) (by kernel_rfl)
  (fun mm => cand175 g hg OA PA SA co cp cS L s w3 (hG.below hB) (Ab hs hB) hL (some ⟨gm,0,none⟩) mc mz hlm hC hm c1 c2 h1 h2 mm)
  (fun h k => ⟨h.1.trans k.1,Nat.le_trans h.2.1 k.2.1,fun i cs t hi => k.2.2 i cs t (h.2.2 i cs t hi)⟩) (fun V l o o' hl ho hoc how => ⟨belowK_b (Nat.le_refl _) V l o o' hl ho hoc how,keepC_put V l o o' ho hoc⟩) (Below.refl _ _) (fun _ => rfl)
  (fun (pre : List (K0 g L mz)) (V : World) => pre = [] ∧ Below w3.heap.size w3 V ∧ w.grownBy V (some gm) ∧ V.heap[b3]? = some (.cells #[.slice (some ⟨gm,0,none⟩) mz.length mc] 58 (0,0)) ∧ V.heap[b4]? = some (.cells #[.bool false] 4 (0,0)) ∧ Me.kd.R 68 V base (fun k => k < w3.heap.size) (.slice (some ⟨gm,0,none⟩) mz.length mc) mz)
  (fun (c : Code) (pre : List (K0 g L mz)) (V : World) => c = .ret ∧ pre ≠ [] ∧ w.grownBy V (some gm) ∧ V.heap[b4]? = some (.cells #[.bool true] 4 (0,0))) ?_ ?_ ⟨rfl,Below.refl _ _,Ap hB _,hb3,hb4,hR⟩
  (σ := Nat) (fun x b6 => [(3,.pointer (some ⟨b3,0,none⟩)),(4,.pointer (some ⟨b4,0,none⟩)),(5,.int .i64 x.1.1),(6,.pointer (some ⟨b6,0,none⟩))]) (fun x b6 V => V.heap[b6]? = some (.cells x.1.2.enc.toArray 68 (0,0))) (fun x b6 => BT) ?_ ?_ ?_ ?_
 ·intro pre V V' row ⟨h1,hb,h2,h3,h4,h5⟩ hg hr
  exact ⟨h1,hb.grown hg hb.size (fun k e => (hr k e).1),Hn (β := Unit) hsz () V V' row h2 hg hr,BT (β := Unit) () V V' row h3 hg hr,BT (β := Unit) () V V' row h4 hg hr,own_R (β := Unit) (fun k hk => hk) () V V' row h5 hg hr⟩
 ·intro c pre V V' row ⟨h1,h2,h3,h4⟩ hg hr
  exact ⟨h1,h2,Hn (β := Unit) hsz () V V' row h3 hg hr,BT (β := Unit) () V V' row h4 hg hr⟩
 ·rintro l pre x V ⟨rfl,hb,h2,h3,h4,h5⟩
  refine ai G<|oal (v := .agg zme.toArray) (fun _ => by kernel_rfl) G ?_
  intro b6 V1 hbe hbb hb2
  refine Bo (vs := x.1.2.enc) (cs := zme) S68 G G G (Me.enc_one _) hbb (by simp [Me.enc_len,zme]) ?_
  intro V2 hbb3 hg3
  have hgV : V.grownBy V2 none := AF (B7 (B6 V none) hb2) hg3 (fun b' e => by cases e; omega)
  have hBV : Below w3.heap.size V V2 := (Below.refl _ _).grown hgV hb.size (fun k e => by cases e)
  refine ⟨KeepsFrom.of_grownBy hgV (fun j e => by cases e),⟨hBV,Fy hgV (fun b e => by cases e)⟩,⟨rfl,hb.trans hBV,AF h2 hgV (fun b e => by cases e),?_,?_,?_⟩,b6,⟨rfl,rfl,rfl,rfl,rfl⟩,hbb3⟩
  ·exact (Fy hgV (fun b e => by cases e)).2 _ _ _ h3
  ·exact (Fy hgV (fun b e => by cases e)).2 _ _ _ h4
  ·exact Kd.R_grown h5 hgV (fun k _ e => by cases e)
 ·rintro l pre x b6 g' V hl ⟨rfl,hb,h2,h3,h4,h5⟩ h6 _
  have hc3 := (Ac h3 0).trans rfl
  refine old G58 G ‹_›<|mi G<|AV (vs := x.1.2.enc) G68 S68 G (Ak h6)<|AD U58 Z68 G G (by first | assumption | omega)<|?_
  refine Lf (z := x.1.2) Z68 h5 (by have := x.2.1; omega) G G ?_
  intro V1 hR1 hg1
  have h41 := (hg1.block b4 (Am h4) (fun e => An h4 (Kd.R_typed h5 gm rfl).choose_spec (by decide) (by injection e))).trans h4
  refine Bc (v := .bool true) (cs := [.bool false]) (i := 0) S4 G G G h41 (by simp) ?_
  intro V2 h42 hg2
  refine ⟨?_,rfl,by simp,?_,h42⟩
  ·exact (KeepsFrom.of_grownBy hg1 (fun j e => by cases e; exact (Kd.R_bound h5).1 gm rfl |>.1)).trans (KeepsFrom.of_grownBy hg2 (fun j e => by cases e; exact hlt4))
  ·exact AF (Cr h2 hg1) hg2 (fun b e => by cases e; have := hb1.size; omega)
 ·rintro D xs V hD hS ⟨rfl,hb,h2,h3,h4,h5⟩ hK
  refine Bc (v := .bool false) (cs := [.bool false]) (i := 0) S4 G G G h4 (by simp) ?_
  intro V2 h42 hg2
  have hK2 := (hg2.block D (Array.getElem?_eq_some_iff.1 hK).1 (fun e => by cases e; rw [hK] at h4; cases h4)).trans hK
  refine rtm G G G hK2 h42 G4 ⟨false,rfl,fun _ => hS rfl,(fun h => by cases h),?_⟩
  exact AF (AF h2 hg2 (fun b e => by cases e; have := hb1.size; omega)) (Cm _ _) (fun b e => by cases e; omega)
 ·rintro D c pre V hD hS ⟨rfl,hne,h2,h4⟩ hK
  refine rtm G G G hK h4 G4 ⟨true,rfl,(fun h => by cases h),fun _ => ?_,?_⟩
  ·obtain ⟨x,hx⟩ := List.exists_mem_of_ne_nil pre hne
   exact ⟨x.1.1,x.1.2.rk L,x.2.1,x.2.2.2.1,x.2.2.2.2⟩
  ·exact AF h2 (Cm _ _) (fun b e => by cases e; omega)
def Me.zero : Me := ⟨false,fun _ => 0⟩
theorem Me.zero_good {L : Nat → Int} (hL : ∀ j,j < 8 → 0 ≤ L j) : Me.zero.Good L := ⟨fun j hj => ⟨Int.le_refl _,hL j hj⟩,fun h => by cases h⟩
def CX (g : GL) (mz : List Me) : Prop := ∀ v,v < g.own.length → ∀ y,IsLift g.gm (Me.nat (Bh g.pri)) (rho (Bh g.pri) mz) v y → y ≤ rho (Bh g.pri) mz v
theorem after84 (g : GL) (hF : g.Full) (OA PA SA : Option Addr) (co cp cS : Nat) (w : World) (hG : GR g w OA PA SA) :
  Calls Tryz.prog 84 #[.agg #[.slice OA g.own.length co,.slice PA g.pri.length cp,.slice SA g.suc.length cS],.int .i64 0] w fun e w' => ∃ gm mc b,e = .returned (.tuple #[.slice (some ⟨gm,0,none⟩) g.own.length mc,.bool b,.int .i64 0]) ∧
   Me.kd.R 68 w' w.heap.size (fun _ => True) (.slice (some ⟨gm,0,none⟩) g.own.length mc) (List.replicate g.own.length Me.zero) ∧ (b = true ↔ CX g (List.replicate g.own.length Me.zero)) ∧ Below w.heap.size w w' := by
 have hg := hF.ok
 have hmx := hg.max
 have hpos := hg.pos
 have hlp := hg.lp
 have hL : ∀ j,j < 8 → 0 ≤ Bh g.pri j ∧ Bh g.pri j ≤ 4096 := fun j _ => by have := Ga g.pri j; omega
 refine enter 36 Tryz.func84 G G _ (by simp) ?_
 refine obx G G ?_
 intro b w1 hbe hbb hb1
 have hbb : w1.heap[b]? = some (.cells [.slice OA g.own.length co,.slice PA g.pri.length cp,.slice SA g.suc.length cS].toArray 29 (0,0)) := hbb
 refine asl G<|ab G<|ai G<|AV (vs := [.slice OA g.own.length co,.slice PA g.pri.length cp,.slice SA g.suc.length cS]) G29 S29 G (Ak hbb)<|cl C46 [] G ((Gg g w1 OA PA SA co cp cS (hG.below hb1) hF).mono ?_)
 rintro e w3 ⟨rfl,hb3⟩
 refine ⟨_,rfl,?_⟩
 have hbb := Ab hbb hb3
 have hB := Ad hb1 hb3
 refine ai G<|mi G<|one G G<|isf (by omega)<|?_
 refine cdf G<|mi G<|olt G G<|isf (by omega)<|?_
 refine cdf G<|AV (vs := [.slice OA g.own.length co,.slice PA g.pri.length cp,.slice SA g.suc.length cS]) G29 S29 G (Ak hbb)<|cl Mc [] G ((KD g hg OA PA SA co cp cS w3 (hG.below hB)).mono ?_)
 rintro e w4 ⟨s,rfl,hws,hsb,hb4⟩
 refine ⟨_,rfl,?_⟩
 have hbb := Ab hbb hb4
 have hB := Ad hB hb4
 refine ap G<|?_
 have hbb : w4.heap[b]? = some (.cells [.slice OA g.own.length co,.slice PA g.pri.length cp,.slice SA g.suc.length cS].toArray 29 (0,0)) := hbb
 have h0 : w4.cell? ⟨b,0 + 0,none⟩ = some (.slice OA g.own.length co) := (Ac hbb 0).trans rfl
 refine ofa BQ G<|old G26 G ‹_›<|oln U26 G<|omk Me.kd Fo I68 G G Me.zero (fun _ => rfl) (by omega) G (by decide) (by decide) ?_
 have hsz4 := hB.size
 intro A mc w5 hr hb5
 obtain ⟨gm,_,hv,hgs,_,_⟩ := Kd.R_form hr (by simp; omega)
 injection hv with hv _ _
 subst hv
 have hB := Ad hB hb5
 refine asl G<|mi G<|mi G<|lp (σ := Unit) (fun _ => [(4,.slice (some ⟨gm,0,none⟩) g.own.length mc),(5,.bool false),(6,.int .i64 0),(8,.pointer (some ⟨s,0,none⟩)),(22,.int .i64 0),(23,.int .i64 0)])
  (fun _ V => V = w5) (fun _ => 0) () ⟨rfl,rfl,rfl,rfl,rfl,rfl,rfl⟩ rfl ?_
 rintro _ f V rfl
 refine olt G G<|isf (by omega)<|?_
 refine cdf G<|ms G<|mp G<|ms G<|?_
 have hlen : (List.replicate g.own.length Me.zero).length = g.own.length := List.length_replicate
 have hC := (Kd.R_reads' hr).2.2
 have h54 := JU (some ⟨gm,0,none⟩) mc (List.replicate g.own.length Me.zero) V (by rw [hlen]; simpa using hC) (by rw [hlen]; omega)
 rw [hlen] at h54
 refine cl C54 [] G (h54.mono ?_)
 rintro e w6 ⟨B',c',rfl,hr6,hb6⟩
 refine ⟨_,rfl,?_⟩
 obtain ⟨gm',_,hv,hgs',_,_⟩ := Kd.R_form hr6 (by simp; omega)
 injection hv with hv _ _
 subst hv
 have hB6 := Ad hB hb6
 have h122 := step122 g hg OA PA SA co cp cS (Bh g.pri) s w6 (hG.below hB6) (Ab (Ab hsb hb5) hb6) hL gm' c' V.heap.size (List.replicate g.own.length Me.zero) hlen (by rw [hlen]; exact hr6) (fun m hm => by rw [List.eq_of_mem_replicate hm]; exact Me.zero_good (fun j hj => (hL j hj).1))
 rw [hlen] at h122
 refine cl C122 [] G (h122.mono ?_)
 rintro e w7 ⟨bb,rfl,hno,hyes,hg7⟩
 refine ⟨_,rfl,?_⟩
 refine ont G<|asl G<|ab G<|ai G<|?_
 have hsz5 := hb5.size
 have hsz6 := hb6.size
 have hB7 := hB6.grown hg7 hB6.size (fun k e => by cases e; have := hB.size; omega)
 have hgm := Kd.R_base hr gm rfl
 have hr7 := Kd.R_lower (Kd.R_grown (Kd.R_below (Kd.R_mono (Kd.R_bound hr) (ok' := fun k => k < V.heap.size) (fun k hk => hk.2.2.1)) hb6) hg7 (fun k hk e => by cases e; omega)) hsz4
 refine rt3 G G G G ⟨gm,mc,!bb,rfl,Kd.R_mono hr7 (fun _ _ => trivial),?_,hB7⟩
 cases bb with
 | false => exact ⟨fun _ => hno rfl,fun _ => rfl⟩
 | true =>
  refine ⟨fun h => by simp at h,fun h => ?_⟩
  obtain ⟨v,y,h1,h2,h3⟩ := hyes rfl
  have := h v h1 y h2
  omega
section
variable {n : Nat} {P : Program} {ops : Array Oper} {rest : List Oper} {Q : Bd n} {W : World} {f : Fm n} {d ty : Nat} {x : Operand} {pos : String} {aft : Array Edge} {i : Nat} {vs : Array Value} {v : Value}
theorem Ef (hx : ex f x = .tuple vs) (hi : vs[i]? = some v) : Pv P (.extract x i) ty f v := fun W => by
 simp [Ru,execOp,hx,Instr.extract,hi,go_sem]
theorem oex (hx : ex f x = .tuple vs) (hi : vs[i]? = some v) (r : RL P ops Q rest (up f d v) W) : LS P ops Q ⟨some d,.extract x i,ty,pos,aft,none⟩ rest f W := Bq (Ef hx hi) r
end
theorem Dx {W : World} {g tt o : Nat} {cs vs : List Value} (hb : W.heap[g]? = some (.cells cs.toArray tt (0,0))) (h : ∀ j,j < vs.length → cs[o + j]? = vs[j]?) : ∀ j v,vs[j]? = some v → W.cell? (Addr.add ⟨g,o,none⟩ j) = some v := fun j v hj => by
 have hl := (List.getElem?_eq_some_iff.1 hj).1
 rw [show Addr.add ⟨g,o,none⟩ j = (⟨g,o + j,none⟩ : Addr) by simp [Addr.add],Ac hb]
 rw [← hj,← h j hl]
 simp
def KeepT (t : Nat) (W W1 : World) : Prop := ∀ (i : Nat) (cs : Array Value),W.heap[i]? = some (.cells cs t (0,0)) → W1.heap[i]? = some (.cells cs t (0,0))
theorem KeepT.refl (t : Nat) (W : World) : KeepT t W W := fun _ _ h => h
theorem KeepT.trans {t : Nat} {A B C : World} (h : KeepT t A B) (k : KeepT t B C) : KeepT t A C := fun i cs hi => k i cs (h i cs hi)
theorem KeepT.below {t : Nat} {W W1 : World} (h : Below W.heap.size W W1) : KeepT t W W1 := fun _ _ hi => Ab hi h
theorem KeepT.grown {t s b : Nat} {W W1 : World} {cs : Array Value} (h : W.grownBy W1 (some b)) (hb : W.heap[b]? = some (.cells cs s (0,0))) (ht : t ≠ s) : KeepT t W W1 := fun i ds hi => by
 have hl := (Array.getElem?_eq_some_iff.1 hi).1
 exact (h.block i hl (fun e => An hi hb ht (by injection e))).trans hi
theorem Ah {α : Type} {d : Kd α} {e base : Nat} {ok : Nat → Prop} {W W1 : World} {v : Value} {xs : List α} {p t : Nat} {cs : Array Value} (h : d.R e W base ok v xs) (hp : W.heap[p]? = some (.cells cs t (0,0))) (ht : ∀ q,q ∈ e :: d.E → q ≠ t) (hg : W.grownBy W1 (some p)) : d.R e W1 base ok v xs :=
 Kd.R_over' h (v := .slice (some ⟨p,0,none⟩) 1 1) (e' := t) (fun k hk => by injection hk with hk; subst hk; exact ⟨cs,hp⟩) ht hg
abbrev msc (g : GL) (OA PA SA : Option Addr) (co cp cS gm mc : Nat) (dn : Bool) : List Value := [.slice OA g.own.length co,.slice PA g.pri.length cp,.slice SA g.suc.length cS,.slice (some ⟨gm,0,none⟩) g.own.length mc,.bool dn]
structure MS (g : GL) (base p : Nat) (OA PA SA : Option Addr) (co cp cS gm mc : Nat) (mz : List Me) (dn : Bool) (W : World) : Prop where
 blk : W.heap[p]? = some (.cells (msc g OA PA SA co cp cS gm mc dn).toArray 129 (0,0))
 ro : (Kd.int .u8).R 5 W base (fun _ => True) (.slice OA g.own.length co) g.own
 rp : (Kd.int .i64).R 3 W base (fun _ => True) (.slice PA g.pri.length cp) g.pri
 rs : Kii.R 22 W base (fun _ => True) (.slice SA g.suc.length cS) g.suc
 rm : Me.kd.R 68 W base (fun _ => True) (.slice (some ⟨gm,0,none⟩) g.own.length mc) mz
 hp : base ≤ p
 hl : mz.length = g.own.length
 good : ∀ m ∈ mz,m.Good (Bh g.pri)
section
variable {g : GL} {base p gm mc co cp cS : Nat} {OA PA SA : Option Addr} {mz mz' : List Me} {dn : Bool} {W W1 : World}
theorem MS.gr (h : MS g base p OA PA SA co cp cS gm mc mz dn W) : GR g W OA PA SA := ⟨(Kd.R_reads' h.ro).2.2,(Kd.R_reads' h.rp).2.2,(Kd.R_reads' h.rs).2.2⟩
theorem MS.mC (h : MS g base p OA PA SA co cp cS gm mc mz dn W) : Me.kd.C W (some ⟨gm,0,none⟩) mz.length mz := h.hl ▸ (Kd.R_reads' h.rm).2.2
theorem MS.below (h : MS g base p OA PA SA co cp cS gm mc mz dn W) (hb : Below W.heap.size W W1) : MS g base p OA PA SA co cp cS gm mc mz dn W1 :=
 ⟨Ab h.blk hb,Kd.R_below h.ro hb,Kd.R_below h.rp hb,Kd.R_below h.rs hb,Kd.R_below h.rm hb,h.hp,h.hl,h.good⟩
theorem MS.put (h : MS g base p OA PA SA co cp cS gm mc mz dn W) (hg : W.grownBy W1 (some gm)) (hr : Me.kd.R 68 W1 base (fun _ => True) (.slice (some ⟨gm,0,none⟩) g.own.length mc) mz') (hl : mz'.length = g.own.length) (hgd : ∀ m ∈ mz',m.Good (Bh g.pri)) : MS g base p OA PA SA co cp cS gm mc mz' dn W1 := by
 obtain ⟨cells,hc⟩ := Kd.R_typed h.rm gm rfl
 exact ⟨(hg.block p (Am h.blk) (fun e => An h.blk hc (by decide) (by injection e))).trans h.blk,Ah h.ro hc (by decide) hg,Ah h.rp hc (by decide) hg,Ah h.rs hc (by decide) hg,hr,h.hp,hl,hgd⟩
theorem MS.done {dn' : Bool} (h : MS g base p OA PA SA co cp cS gm mc mz dn W) (hg : W.grownBy W1 (some p)) (hb : W1.heap[p]? = some (.cells (msc g OA PA SA co cp cS gm mc dn').toArray 129 (0,0))) : MS g base p OA PA SA co cp cS gm mc mz dn' W1 :=
 ⟨hb,Ah h.ro h.blk (by decide) hg,Ah h.rp h.blk (by decide) hg,Ah h.rs h.blk (by decide) hg,Ah h.rm h.blk (by decide) hg,h.hp,h.hl,h.good⟩
end
theorem left222 (g : GL) (base p : Nat) (OA PA SA : Option Addr) (co cp cS gm mc : Nat) (mz : List Me) (dn : Bool) (w : World) (h : MS g base p OA PA SA co cp cS gm mc mz dn w) :
  Calls Tryz.prog 222 #[.pointer (some ⟨p,0,none⟩)] w fun e w' => e = .returned (.bool (!dn)) ∧ w' = w := by
 have hc : w.cell? ⟨p,0 + 4,none⟩ = some (.bool dn) := (Ac h.blk 4).trans rfl
 refine enter 8 Tryz.func222 G G _ (by simp) ?_
 refine ab G<|mp G<|onc G<|ofa G2 G<|old G4 G ‹_›<|ont G<|ab G<|?_
 exact rt1 rfl rfl ⟨rfl,rfl⟩
def Up (g : GL) (mz : List Me) (v : Nat) : Prop := ∃ y,IsLift g.gm (Me.nat (Bh g.pri)) (rho (Bh g.pri) mz) v y ∧ rho (Bh g.pri) mz v < y
theorem DX (g : GL) (mz : List Me) : CX g mz ↔ ∀ v,v < g.own.length → ¬ Up g mz v := by
 constructor
 ·rintro h v hv ⟨y,hy,hlt⟩
  have := h v hv y hy
  omega
 ·intro h v hv y hy
  exact Nat.not_lt.1 (fun hlt => h v hv ⟨y,hy,hlt⟩)
theorem any221 (g : GL) (hF : g.Full) (base p : Nat) (OA PA SA : Option Addr) (co cp cS gm mc : Nat) (mz : List Me) (dn : Bool) (w : World) (h : MS g base p OA PA SA co cp cS gm mc mz dn w) :
  Calls Tryz.prog 221 #[.pointer (some ⟨p,0,none⟩)] w fun e w' => ∃ b,e = .returned (.bool b) ∧ (b = false ↔ CX g mz) ∧ Below w.heap.size w w' := by
 have hmx := hF.ok.max
 have hlm := h.hl
 have hc : w.cell? ⟨p,0 + 3,none⟩ = some (.slice (some ⟨gm,0,none⟩) g.own.length mc) := (Ac h.blk 3).trans rfl
 refine enter 38 Tryz.func221 G G _ (by simp) ?_
 refine ab G<|mp G<|onc G<|ofa D3 G<|old G58 G ‹_›<|oln U58 G<|mi G<|lp (σ := Nat) (fun k => [(0,.pointer (some ⟨p,0,none⟩)),(10,.int .i64 g.own.length),(11,.int .i64 k)])
  (fun k V => k ≤ g.own.length ∧ Below w.heap.size w V ∧ ∀ v,v < k → ¬ Up g mz v) (fun k => g.own.length - k) 0 ⟨rfl,rfl,rfl,rfl⟩ ⟨Nat.zero_le _,Below.refl _ _,fun v hv => absurd hv (Nat.not_lt_zero v)⟩ ?_
 clear hc
 rintro k f V ⟨hk,hB,hno⟩
 have hM := h.below hB
 refine olt G G<|cdd G (fun hlt => ?_) (fun hge => ?_)
 ·have hlt : k < g.own.length := Int.ofNat_lt.1 hlt
  refine mi G<|ai G<|cut (σ := Me × Nat) (fun s => [(0,.pointer (some ⟨p,0,none⟩)),(10,.int .i64 g.own.length),(11,.int .i64 k),(3,.int .i64 k),(4,.pointer (some ⟨s.2,0,none⟩))])
   (fun s V1 => Below w.heap.size w V1 ∧ V1.heap[s.2]? = some (.cells s.1.enc.toArray 68 (0,0)) ∧ s.1.Good (Bh g.pri) ∧ IsLift g.gm (Me.nat (Bh g.pri)) (rho (Bh g.pri) mz) k (s.1.rk (Bh g.pri))) (by repeat' (first | exact BB | exact BD | exact Bl | refine Bi ?_ ?_ | refine Bk ?_ | refine Bj ?_ | refine AX _ ?_)) ?_ ?_
  ·refine Bu mixed (fun V => V.heap[p]? = some (.cells (msc g OA PA SA co cp cS gm mc dn).toArray 129 (0,0))) ?_
   intro V1 hb1 _ _
   have hM := hM.below hb1
   have hB := Ad hB hb1
   have hS := hM.blk
   refine Aj 0 G (by kernel_rfl) (fun _ _ _ h => h) G (fun v _ => mp_ G v) hS<|Aj 1 G (by kernel_rfl) (fun _ _ _ h => h) G (fun v _ => BN G v) hS<|Aj 2 G (by kernel_rfl) (fun _ _ _ h => h) G (fun v _ => AQ FO G v) hS<|Aj (v := .agg #[.slice OA g.own.length co,.slice PA g.pri.length cp,.slice SA g.suc.length cS]) 3 rfl (by kernel_rfl) (fun _ _ _ h => h) rfl (fun v hv => Bs (vs := [.slice OA g.own.length co,.slice PA g.pri.length cp,.slice SA g.suc.length cS]) G29 S29 rfl (Dx hv (fun j hj => by rcases j with _ | _ | _ | j <;> first | rfl | (simp at hj; omega)))) hS<|?_
   refine Aj 4 G (by kernel_rfl) (fun _ _ _ h => h) G (fun v _ => mp_ G v) hS<|Aj 5 G (by kernel_rfl) (fun _ _ _ h => h) G (fun v _ => BN G v) hS<|Aj 6 G (by kernel_rfl) (fun _ _ _ h => h) G (fun v _ => AQ D3 G v) hS<|Aj 7 G (by kernel_rfl) (fun _ _ _ h => h) G (fun v hv => Ai G58 G ((Ac hv _).trans G)) hS<|Aj 8 G (by kernel_rfl) (fun _ _ _ h => h) G (fun v _ => mi_ G v) hS<|?_
   have hlift := fun (V2 : World) (hM : MS g base p OA PA SA co cp cS gm mc mz dn V2) => JL g hF OA PA SA co cp cS V2 hM.gr (some ⟨gm,0,none⟩) mc mz hlm hM.mC hM.good k hlt
   rw [hlm] at hlift
   refine Em 9 13 (by kernel_rfl) G G ?_ ?_
   ·refine cl La [] G ((hlift V1 hM).mono ?_)
    rintro e V2 ⟨m',rfl,hgm',hil,hb2⟩
    have hM := hM.below hb2
    have hB := Ad hB hb2
    have hS := hM.blk
    refine ⟨_,rfl,hS,?_⟩
    refine Aj 10 G (by kernel_rfl) (fun _ _ _ h => h) G (fun v _ => mv_ G v) hS<|Aj 11 G (by kernel_rfl) (fun _ _ _ h => h) G (fun v _ => Ef G G v) hS<|Aj 12 G (by kernel_rfl) (fun _ _ _ h => h) G (fun v _ => Ef G G v) hS<|AA 13 (by kernel_rfl) G<|oal (v := .agg zme.toArray) (fun _ => by kernel_rfl) G ?_
    intro b V3 hbe hbb hb3
    refine ⟨(hM.below hb3).blk,?_⟩
    refine AA 14 (by kernel_rfl) G<|Bo (vs := m'.enc) (cs := zme) S68 G G G (Me.enc_one _) hbb (by simp [Me.enc_len,zme]) ?_
    intro V4 hbb4 hg4
    have hb4 := hb3.grown hg4 hb3.size (fun k e => by cases e; omega)
    have hM := hM.below hb4
    have hB := Ad hB hb4
    refine ⟨hM.blk,?_⟩
    refine AA 15 (by kernel_rfl) G<|ai G ⟨hM.blk,?_⟩
    refine AY (by kernel_rfl) ?_
    exact ⟨(m',b),⟨rfl,rfl,rfl,rfl,rfl,rfl⟩,hB,hbb4,hgm',hil⟩
   ·refine oal (v := .agg zme.toArray) (fun _ => by kernel_rfl) G ?_
    intro b V2 hbe hbb hb2
    have hM2 := hM.below hb2
    refine ⟨hM2.blk,?_⟩
    refine AA 9 (by kernel_rfl) G<|cl La [] G ((hlift V2 hM2).mono ?_)
    rintro e V3 ⟨m',rfl,hgm',hil,hb3⟩
    have hS := (hM2.below hb3).blk
    refine ⟨_,rfl,hS,?_⟩
    refine Aj 10 G (by kernel_rfl) (fun _ _ _ h => h) G (fun v _ => mv_ G v) hS<|Aj 11 G (by kernel_rfl) (fun _ _ _ h => h) G (fun v _ => Ef G G v) hS<|Aj 12 G (by kernel_rfl) (fun _ _ _ h => h) G (fun v _ => Ef G G v) hS<|AA 14 (by kernel_rfl) G<|Bo (vs := m'.enc) (cs := zme) S68 G G G (Me.enc_one _) (Ab hbb hb3) (by simp [Me.enc_len,zme]) ?_
    intro V4 hbb4 hg4
    have hb4 := (Ad hb2 hb3).grown hg4 (Ad hb2 hb3).size (fun k e => by cases e; omega)
    have hM := hM.below hb4
    have hB := Ad hB hb4
    refine ⟨hM.blk,?_⟩
    refine AA 15 (by kernel_rfl) G<|ai G ⟨hM.blk,?_⟩
    refine AY (by kernel_rfl) ?_
    exact ⟨(m',b),⟨rfl,rfl,rfl,rfl,rfl,rfl⟩,hB,hbb4,hgm',hil⟩
  ·rintro ⟨m',b⟩ f V1 ⟨hB,hbb,hgm',hil⟩
   simp only at hbb hgm' hil
   have hM := h.below hB
   obtain ⟨m,hmk⟩ : ∃ m,mz[k]? = some m := ⟨_,gE (by omega)⟩
   have hgm := hM.good m (List.mem_of_getElem? hmk)
   have hrm := Gt (L := Bh g.pri) hmk
   obtain ⟨adM,hadM,hcM⟩ := Me.row hM.mC hmk
   cases hadM
   refine drt mixed 8 (by kernel_rfl) ?_
   intro V2 hb2 _ _
   have hM := hM.below hb2
   have hB := Ad hB hb2
   have hbb := Ab hbb hb2
   have hcM := fun j z hj => Ae hb2 (hcM j z hj)
   have hc : V2.cell? ⟨p,0 + 3,none⟩ = some (.slice (some ⟨gm,0,none⟩) g.own.length mc) := (Ac hM.blk 3).trans rfl
   refine sru (Bs (vs := m'.enc) G68 S68 G (Ak hbb))<|spu (mp_ G)<|spu (BN G)<|spu (AQ D3 G)<|sru (Ai G58 G ‹_›)<|spu (mi_ G)<|spu (AU U58 Z68 G G (by first | assumption | omega))<|?_
   refine sru (Bs (vs := m.enc) G68 S68 G hcM)<|cl K1 [] G ((Dm (Bh g.pri) m' m V2 hgm' hgm).mono ?_)
   rintro e V3 ⟨cv,rfl,hneg,hpos,hb3⟩
   refine ⟨_,rfl,?_⟩
   have hB := Ad hB hb3
   by_cases hcv : 0 < cv
   ·refine ogt G G<|ist (by omega)<|?_
    refine cdt G<|ab G<|rt1 G G ⟨true,rfl,⟨(fun h => by cases h),fun h => ?_⟩,hB⟩
    have := h k hlt _ hil
    rw [hrm] at this
    omega
   ·refine ogt G G<|isf (by omega)<|?_
    refine cdf G<|oad G G (by first | assumption | omega)<|mi G<|?_
    refine ⟨k + 1,⟨rfl,rfl,rfl,rfl⟩,⟨hlt,hB,fun v hv => ?_⟩,by omega⟩
    by_cases e : v = k
    ·subst e
     rintro ⟨y,hy,hly⟩
     rw [← hil.unique hy,hrm] at hly
     omega
    ·exact hno v (by omega)
 ·have hkn : k = g.own.length := by omega
  subst hkn
  refine ab G<|?_
  exact rt1 rfl rfl ⟨false,rfl,⟨fun _ => (DX g mz).2 hno,fun _ => rfl⟩,hB⟩
structure JB (base : Nat) (W W1 : World) : Prop where
 low : Below base W W1
 keep : KeepT 113 W W1
 lt : base ≤ W.heap.size
theorem JB.refl {base : Nat} {W : World} (h : base ≤ W.heap.size) : JB base W W := ⟨Below.refl _ _,KeepT.refl _ _,h⟩
theorem JB.lt' {base : Nat} {A B : World} (h : JB base A B) : base ≤ B.heap.size := Nat.le_trans h.lt h.low.size
theorem JB.new {base : Nat} {A B C : World} (h : JB base A B) (k : Below B.heap.size B C) : JB base A C :=
 ⟨h.low.trans ⟨k.os,k.tape,k.output,k.size,fun i hi => k.block i (Nat.lt_of_lt_of_le hi h.lt')⟩,h.keep.trans (KeepT.below k),h.lt⟩
theorem JB.turn {base s b : Nat} {A B C : World} {cs : Array Value} (h : JB base A B) (hg : B.grownBy C (some b)) (hb : B.heap[b]? = some (.cells cs s (0,0))) (ht : 113 ≠ s) (hle : base ≤ b) : JB base A C :=
 ⟨h.low.grown hg h.lt' (fun k e => by cases e; exact hle),h.keep.trans (KeepT.grown hg hb ht),h.lt⟩
def Jp (g : GL) (mz mz' : List Me) : Prop := ∃ (v : Nat) (m' : Me),v < g.own.length ∧ m'.Good (Bh g.pri) ∧ IsLift g.gm (Me.nat (Bh g.pri)) (rho (Bh g.pri) mz) v (m'.rk (Bh g.pri)) ∧ rho (Bh g.pri) mz v < m'.rk (Bh g.pri) ∧ (∀ u,u < v → ¬ Up g mz u) ∧ mz' = mz.set v m'
theorem unit223 (g : GL) (hF : g.Full) (base p : Nat) (OA PA SA : Option Addr) (co cp cS gm mc : Nat) (mz : List Me) (dn : Bool) (w : World) (h : MS g base p OA PA SA co cp cS gm mc mz dn w) :
  Calls Tryz.prog 223 #[.pointer (some ⟨p,0,none⟩)] w fun e w' => ∃ b mz' dn',e = .returned (.tuple #[.bool b,.int .i64 0]) ∧ MS g base p OA PA SA co cp cS gm mc mz' dn' w' ∧ (dn' = true ↔ CX g mz') ∧ (b = false → mz' = mz ∧ CX g mz) ∧ (b = true → Jp g mz mz') ∧ JB base w w' := by
 have hmx := hF.ok.max
 have hbw : base ≤ w.heap.size := Nat.le_trans h.hp (Nat.le_of_lt (Am h.blk))
 refine enter 62 Tryz.func223 G G _ (by simp) ?_
 refine ab G<|ai G<|ab G<|mp G<|onc G<|ofa G2 G<|Bc (v := .bool true) (cs := msc g OA PA SA co cp cS gm mc dn) (i := 0 + 4) S4 G G G h.blk (by simp) ?_
 intro w1 hb1 hg1
 have hJ : JB base w w1 := (JB.refl hbw).turn hg1 h.blk (by decide) h.hp
 have h : MS g base p OA PA SA co cp cS gm mc mz true w1 := h.done hg1 hb1
 have hc : w1.cell? ⟨p,0 + 3,none⟩ = some (.slice (some ⟨gm,0,none⟩) g.own.length mc) := (Ac h.blk 3).trans rfl
 refine mp G<|onc G<|ofa D3 G<|old G58 G ‹_›<|oln U58 G<|mi G<|lp (σ := Nat × Bool × List Me) (fun q => [(0,.pointer (some ⟨p,0,none⟩)),(4,.bool q.2.1),(15,.int .i64 g.own.length),(16,.int .i64 q.1)])
  (fun q V => q.1 ≤ g.own.length ∧ JB base w V ∧ MS g base p OA PA SA co cp cS gm mc q.2.2 true V ∧ (q.2.1 = false → q.2.2 = mz ∧ ∀ v,v < q.1 → ¬ Up g mz v) ∧ (q.2.1 = true → Jp g mz q.2.2)) (fun q => g.own.length - q.1) (0,false,mz) ⟨rfl,rfl,rfl,rfl,rfl⟩ ⟨Nat.zero_le _,hJ,h,fun _ => ⟨rfl,fun v hv => absurd hv (Nat.not_lt_zero v)⟩,fun e => by cases e⟩ ?_
 clear hc hJ h hb1 hg1
 rintro ⟨k,lf,mc'⟩ f V ⟨hk,hB,hM,hno,hyes⟩
 simp only at hk hM hno hyes
 have hlm := hM.hl
 refine olt G G<|cdd G (fun hlt => ?_) (fun hge => ?_)
 ·have hlt : k < g.own.length := Int.ofNat_lt.1 hlt
  refine mi G<|ai G<|cut (σ := Me × Nat) (fun s => [(0,.pointer (some ⟨p,0,none⟩)),(4,.bool lf),(15,.int .i64 g.own.length),(16,.int .i64 k),(5,.int .i64 k),(6,.pointer (some ⟨s.2,0,none⟩))])
   (fun s V1 => JB base w V1 ∧ MS g base p OA PA SA co cp cS gm mc mc' true V1 ∧ V1.heap[s.2]? = some (.cells s.1.enc.toArray 68 (0,0)) ∧ s.1.Good (Bh g.pri) ∧ IsLift g.gm (Me.nat (Bh g.pri)) (rho (Bh g.pri) mc') k (s.1.rk (Bh g.pri))) (by repeat' (first | exact BB | exact BD | exact Bl | refine Bi ?_ ?_ | refine Bk ?_ | refine Bj ?_ | refine AX _ ?_)) ?_ ?_
  ·refine Bu mixed (fun V => V.heap[p]? = some (.cells (msc g OA PA SA co cp cS gm mc true).toArray 129 (0,0))) ?_
   intro V1 hb1 _ _
   have hM := hM.below hb1
   have hB := JB.new hB hb1
   have hS := hM.blk
   refine Aj 0 G (by kernel_rfl) (fun _ _ _ h => h) G (fun v _ => mp_ G v) hS<|Aj 1 G (by kernel_rfl) (fun _ _ _ h => h) G (fun v _ => BN G v) hS<|Aj 2 G (by kernel_rfl) (fun _ _ _ h => h) G (fun v _ => AQ FO G v) hS<|Aj (v := .agg #[.slice OA g.own.length co,.slice PA g.pri.length cp,.slice SA g.suc.length cS]) 3 rfl (by kernel_rfl) (fun _ _ _ h => h) rfl (fun v hv => Bs (vs := [.slice OA g.own.length co,.slice PA g.pri.length cp,.slice SA g.suc.length cS]) G29 S29 rfl (Dx hv (fun j hj => by rcases j with _ | _ | _ | j <;> first | rfl | (simp at hj; omega)))) hS<|?_
   refine Aj 4 G (by kernel_rfl) (fun _ _ _ h => h) G (fun v _ => mp_ G v) hS<|Aj 5 G (by kernel_rfl) (fun _ _ _ h => h) G (fun v _ => BN G v) hS<|Aj 6 G (by kernel_rfl) (fun _ _ _ h => h) G (fun v _ => AQ D3 G v) hS<|Aj 7 G (by kernel_rfl) (fun _ _ _ h => h) G (fun v hv => Ai G58 G ((Ac hv _).trans G)) hS<|Aj 8 G (by kernel_rfl) (fun _ _ _ h => h) G (fun v _ => mi_ G v) hS<|?_
   have hlift := fun (V2 : World) (hM : MS g base p OA PA SA co cp cS gm mc mc' true V2) => JL g hF OA PA SA co cp cS V2 hM.gr (some ⟨gm,0,none⟩) mc mc' hlm hM.mC hM.good k hlt
   rw [hlm] at hlift
   refine Em 9 13 (by kernel_rfl) G G ?_ ?_
   ·refine cl La [] G ((hlift V1 hM).mono ?_)
    rintro e V2 ⟨m',rfl,hgm',hil,hb2⟩
    have hM := hM.below hb2
    have hB := JB.new hB hb2
    have hS := hM.blk
    refine ⟨_,rfl,hS,?_⟩
    refine Aj 10 G (by kernel_rfl) (fun _ _ _ h => h) G (fun v _ => mv_ G v) hS<|Aj 11 G (by kernel_rfl) (fun _ _ _ h => h) G (fun v _ => Ef G G v) hS<|Aj 12 G (by kernel_rfl) (fun _ _ _ h => h) G (fun v _ => Ef G G v) hS<|AA 13 (by kernel_rfl) G<|oal (v := .agg zme.toArray) (fun _ => by kernel_rfl) G ?_
    intro b V3 hbe hbb hb3
    refine ⟨(hM.below hb3).blk,?_⟩
    refine AA 14 (by kernel_rfl) G<|Bo (vs := m'.enc) (cs := zme) S68 G G G (Me.enc_one _) hbb (by simp [Me.enc_len,zme]) ?_
    intro V4 hbb4 hg4
    have hb4 := hb3.grown hg4 hb3.size (fun k e => by cases e; omega)
    have hM := hM.below hb4
    have hB := JB.new hB hb4
    refine ⟨hM.blk,?_⟩
    refine AA 15 (by kernel_rfl) G<|ai G ⟨hM.blk,?_⟩
    refine AY (by kernel_rfl) ?_
    exact ⟨(m',b),⟨rfl,rfl,rfl,rfl,rfl,rfl,rfl⟩,hB,hM,hbb4,hgm',hil⟩
   ·refine oal (v := .agg zme.toArray) (fun _ => by kernel_rfl) G ?_
    intro b V2 hbe hbb hb2
    have hM2 := hM.below hb2
    refine ⟨hM2.blk,?_⟩
    refine AA 9 (by kernel_rfl) G<|cl La [] G ((hlift V2 hM2).mono ?_)
    rintro e V3 ⟨m',rfl,hgm',hil,hb3⟩
    have hS := (hM2.below hb3).blk
    refine ⟨_,rfl,hS,?_⟩
    refine Aj 10 G (by kernel_rfl) (fun _ _ _ h => h) G (fun v _ => mv_ G v) hS<|Aj 11 G (by kernel_rfl) (fun _ _ _ h => h) G (fun v _ => Ef G G v) hS<|Aj 12 G (by kernel_rfl) (fun _ _ _ h => h) G (fun v _ => Ef G G v) hS<|AA 14 (by kernel_rfl) G<|Bo (vs := m'.enc) (cs := zme) S68 G G G (Me.enc_one _) (Ab hbb hb3) (by simp [Me.enc_len,zme]) ?_
    intro V4 hbb4 hg4
    have hb4 := (Ad hb2 hb3).grown hg4 (Ad hb2 hb3).size (fun k e => by cases e; omega)
    have hM := hM.below hb4
    have hB := JB.new hB hb4
    refine ⟨hM.blk,?_⟩
    refine AA 15 (by kernel_rfl) G<|ai G ⟨hM.blk,?_⟩
    refine AY (by kernel_rfl) ?_
    exact ⟨(m',b),⟨rfl,rfl,rfl,rfl,rfl,rfl,rfl⟩,hB,hM,hbb4,hgm',hil⟩
  ·rintro ⟨m',b⟩ f V1 ⟨hB,hM,hbb,hgm',hil⟩
   simp only at hbb hgm' hil
   obtain ⟨m,hmk⟩ : ∃ m,mc'[k]? = some m := ⟨_,gE (by omega)⟩
   have hgm := hM.good m (List.mem_of_getElem? hmk)
   have hrm := Gt (L := Bh g.pri) hmk
   obtain ⟨adM,hadM,hcM⟩ := Me.row hM.mC hmk
   cases hadM
   refine drt mixed 8 (by kernel_rfl) ?_
   intro V2 hb2 _ _
   have hM := hM.below hb2
   have hB := JB.new hB hb2
   have hbb := Ab hbb hb2
   have hcM := fun j z hj => Ae hb2 (hcM j z hj)
   have hc : V2.cell? ⟨p,0 + 3,none⟩ = some (.slice (some ⟨gm,0,none⟩) g.own.length mc) := (Ac hM.blk 3).trans rfl
   refine sru (Bs (vs := m'.enc) G68 S68 G (Ak hbb))<|spu (mp_ G)<|spu (BN G)<|spu (AQ D3 G)<|sru (Ai G58 G ‹_›)<|spu (mi_ G)<|spu (AU U58 Z68 G G (by first | assumption | omega))<|?_
   refine sru (Bs (vs := m.enc) G68 S68 G hcM)<|cl K1 [] G ((Dm (Bh g.pri) m' m V2 hgm' hgm).mono ?_)
   rintro e V3 ⟨cv,rfl,hneg,hpos,hb3⟩
   refine ⟨_,rfl,?_⟩
   have hB := JB.new hB hb3
   by_cases hcv : cv ≤ 0
   ·refine ole G G<|ist (by omega)<|?_
    refine cdt G<|oad G G (by first | assumption | omega)<|mi G<|?_
    refine ⟨(k + 1,lf,mc'),⟨rfl,rfl,rfl,rfl,rfl⟩,⟨hlt,hB,hM.below hb3,fun e => ⟨(hno e).1,fun v hv => ?_⟩,hyes⟩,by dsimp only; omega⟩
    by_cases e' : v = k
    ·subst e'
     rw [(hno e).1] at hil hrm
     rintro ⟨y,hy,hly⟩
     rw [← hil.unique hy,hrm] at hly
     omega
    ·exact (hno e).2 v (by dsimp only at hv; omega)
   ·refine ole G G<|isf (by omega)<|?_
    refine cdf G ?_
    have hkl : k < g.own.length := hlt
    have hM := hM.below hb3
    have hup : Up g mc' k := ⟨_,hil,by rw [hrm]; omega⟩
    have hbb := Ab hbb hb3
    cases lf with
    | true =>
     refine mb G<|cdt G<|mp G<|onc G<|ofa G2 G<|Bc (v := .bool false) (cs := msc g OA PA SA co cp cS gm mc true) (i := 0 + 4) S4 G G G hM.blk (by simp) ?_
     intro V4 hb4 hg4
     refine ab G<|ai G<|?_
     exact rt2 rfl rfl rfl ⟨true,mc',false,rfl,hM.done hg4 hb4,⟨(fun e => by cases e),fun hnl => absurd hup ((DX g mc').1 hnl k hkl)⟩,(fun e => by cases e),fun _ => hyes rfl,hB.turn hg4 hM.blk (by decide) hM.hp⟩
    | false =>
     obtain ⟨rfl,hno⟩ := hno rfl
     refine mb G<|cdf G<|drt mixed 7 (by kernel_rfl) ?_
     intro V4 hb4 _ _
     have hM := hM.below hb4
     have hB := hB.new hb4
     have hbb := Ab hbb hb4
     have hc : V4.cell? ⟨p,0 + 3,none⟩ = some (.slice (some ⟨gm,0,none⟩) g.own.length mc) := (Ac hM.blk 3).trans rfl
     refine spu (mp_ G)<|spu (BN G)<|spu (AQ D3 G)<|sru (Ai G58 G ‹_›)<|spu (mi_ G)<|sru (Bs (vs := m'.enc) G68 S68 G (Ak hbb))<|spu (AU U58 Z68 G G (by first | assumption | omega))<|?_
     refine Lf (z := m') Z68 hM.rm hkl G G ?_
     intro V5 hr5 hg5
     obtain ⟨cells,hcg⟩ := Kd.R_typed hM.rm gm rfl
     have hbgm := Kd.R_base hM.rm gm rfl
     have hM5 := hM.put hg5 hr5 (by rw [List.length_set]; exact hM.hl) (fun x hx => by
      rcases List.mem_or_eq_of_mem_set hx with h | rfl
      ·exact hM.good x h
      ·exact hgm')
     have hB5 := hB.turn hg5 hcg (by decide) hbgm
     refine ab G<|oad G G (by first | assumption | omega)<|mi G<|?_
     refine ⟨(k + 1,true,mc'.set k m'),⟨rfl,rfl,rfl,rfl,rfl⟩,⟨hkl,hB5,hM5,(fun e => by cases e),fun _ => ?_⟩,by dsimp only; omega⟩
     exact ⟨k,m',hkl,hgm',hil,by rw [hrm]; omega,hno,rfl⟩
 ·have hkn : k = g.own.length := by omega
  subst hkn
  cases lf with
  | true =>
   refine mb G<|cdt G<|mp G<|mp G<|cl C221 [] G ((any221 g hF base p OA PA SA co cp cS gm mc mc' true V hM).mono ?_)
   rintro e V1 ⟨b,rfl,hb,hb1⟩
   refine ⟨_,rfl,?_⟩
   have hM := hM.below hb1
   have hB := hB.new hb1
   refine ont G<|onc G<|ofa G2 G<|Bc (v := .bool (!b)) (cs := msc g OA PA SA co cp cS gm mc true) (i := 0 + 4) S4 G G G hM.blk (by simp) ?_
   intro V4 hb4 hg4
   refine mb G<|ab G<|ai G<|?_
   exact rt2 rfl rfl rfl ⟨true,mc',!b,rfl,hM.done hg4 hb4,by rw [← hb]; simp,(fun e => by cases e),fun _ => hyes rfl,hB.turn hg4 hM.blk (by decide) hM.hp⟩
  | false =>
   obtain ⟨rfl,hno⟩ := hno rfl
   refine mb G<|cdf G<|mb G<|ab G<|ai G<|?_
   have hnl := (DX g mc').2 hno
   exact rt2 rfl rfl rfl ⟨false,mc',true,rfl,hM,⟨fun _ => hnl,fun _ => rfl⟩,fun _ => ⟨rfl,hnl⟩,(fun e => by cases e),hB⟩
abbrev gsl (g : GL) (OA PA SA : Option Addr) (co cp cS : Nat) : List Value := [.slice OA g.own.length co,.slice PA g.pri.length cp,.slice SA g.suc.length cS]
theorem new47 (g : GL) (hF : g.Full) (OA PA SA : Option Addr) (co cp cS : Nat) (w : World) (hG : GR g w OA PA SA) :
  Calls Tryz.prog 47 #[.agg (gsl g OA PA SA co cp cS).toArray] w fun e w' => ∃ p OA' PA' SA' co' cp' cS' gm mc dn,e = .returned (.pointer (some ⟨p,0,none⟩)) ∧
   MS g w.heap.size p OA' PA' SA' co' cp' cS' gm mc (List.replicate g.own.length Me.zero) dn w' ∧ (dn = true ↔ CX g (List.replicate g.own.length Me.zero)) ∧ Below w.heap.size w w' := by
 have hmx := hF.ok.max
 have hlp := hF.ok.lp
 have hls := hF.ok.ls
 have hL : ∀ j,j < 8 → 0 ≤ Bh g.pri j := fun j _ => by have := Ga g.pri j; omega
 have hrow : ∀ r ∈ g.suc,r.length ≤ 1000000 := fun r hr => by
  obtain ⟨v,hv,rfl⟩ := List.getElem_of_mem hr
  have := (hF.ok.row v _ (gE hv)).2.1
  omega
 refine enter 32 Tryz.func47 G G _ (by simp) ?_
 refine obx (cs := gsl g OA PA SA co cp cS) G G ?_
 intro b w1 hbe hbb hb1
 refine ap G<|Bv 10 mixed (fun V => V.heap[b]? = some (.cells (gsl g OA PA SA co cp cS).toArray 29 (0,0))) ?_
 intro w2 hb2 _ _
 have hS := Ab hbb hb2
 have hB := Ad hb1 hb2
 refine Ay 0 G (by kernel_rfl) (fun _ _ _ h => h) G (fun v _ => AQ BQ G v) hS<|Ay 1 G (by kernel_rfl) (fun _ _ _ h => h) G (fun v hv => Ai G26 G ((Ac hv _).trans G)) hS<|Ay 3 G (by kernel_rfl) (fun _ _ _ h => h) G (fun v _ => AQ Cs G v) hS<|Ay 4 G (by kernel_rfl) (fun _ _ _ h => h) G (fun v hv => Ai G22 G ((Ac hv _).trans G)) hS<|Ay 6 G (by kernel_rfl) (fun _ _ _ h => h) G (fun v _ => AQ Dp G v) hS<|Ay 7 G (by kernel_rfl) (fun _ _ _ h => h) G (fun v hv => Ai G27 G ((Ac hv _).trans G)) hS<|Aq 2 (by kernel_rfl) G<|cl C44 [] G ((JW OA co g.own w2 (hG.below hB).own (by omega)).mono ?_)
 rintro e w3 ⟨OA',co',rfl,hro,hb3⟩
 have hS := Ab hS hb3
 have hB := Ad hB hb3
 refine ⟨_,rfl,fun _ => hS,?_⟩
 refine Ay 9 G (by kernel_rfl) (fun _ _ _ h => h) G (fun v _ => AQ BQ G v) hS<|Aq 5 (by kernel_rfl) G<|cl C53 [] G ((EC PA cp g.pri w3 (hG.below hB).pri (by omega)).mono ?_)
 rintro e w4 ⟨PA',cp',rfl,hrp,hb4⟩
 have hS := Ab hS hb4
 have hB := Ad hB hb4
 refine ⟨_,rfl,fun _ => hS,?_⟩
 refine Aq 8 (by kernel_rfl) G<|cl C51 [] G ((Fi SA cS g.suc w4 (hG.below hB).suc (by omega) hrow).mono ?_)
 rintro e w5 ⟨SA',cS',rfl,hrs,hb5⟩
 have hS := Ab hS hb5
 have hB := Ad hB hb5
 refine ⟨_,rfl,fun _ => hS,?_⟩
 have hs1 := hb1.size
 have hs2 := hb2.size
 have hs3 := hb3.size
 have hs4 := hb4.size
 have hro := Kd.R_lower (base := w2.heap.size) (base' := w.heap.size) (Kd.R_below (Kd.R_below hro hb4) hb5) (by omega)
 have hrp := Kd.R_lower (base := w3.heap.size) (base' := w.heap.size) (Kd.R_below hrp hb5) (by omega)
 have hrs := Kd.R_lower (base := w4.heap.size) (base' := w.heap.size) hrs (by omega)
 refine Aq 10 (by kernel_rfl) G<|Bc (v := .slice OA' g.own.length co') (cs := gsl g OA PA SA co cp cS) (i := 0 + 0) S26 G G G hS (by simp) ?_
 intro w6 hbb6 hg6
 refine ⟨fun h => absurd h (by decide),?_⟩
 have hbb6 : w6.heap[b]? = some (.cells [.slice OA' g.own.length co',.slice PA g.pri.length cp,.slice SA g.suc.length cS].toArray 29 (0,0)) := hbb6
 have hro := Ah hro hS (by decide) hg6
 have hrp := Ah hrp hS (by decide) hg6
 have hrs := Ah hrs hS (by decide) hg6
 have hB := hB.grown hg6 hB.size (fun k e => by cases e; omega)
 refine Aq 11 (by kernel_rfl) G<|ofa Cs G ⟨fun h => absurd h (by decide),?_⟩
 refine Aq 12 (by kernel_rfl) G<|Bc (v := .slice PA' g.pri.length cp') (cs := [.slice OA' g.own.length co',.slice PA g.pri.length cp,.slice SA g.suc.length cS]) (i := 0 + 1) S22 G G G hbb6 (by simp) ?_
 intro w7 hbb7 hg7
 have hbb7 : w7.heap[b]? = some (.cells [.slice OA' g.own.length co',.slice PA' g.pri.length cp',.slice SA g.suc.length cS].toArray 29 (0,0)) := hbb7
 have hro := Ah hro hbb6 (by decide) hg7
 have hrp := Ah hrp hbb6 (by decide) hg7
 have hrs := Ah hrs hbb6 (by decide) hg7
 have hB := hB.grown hg7 hB.size (fun k e => by cases e; omega)
 refine ⟨fun h => absurd h (by decide),?_⟩
 refine Aq 13 (by kernel_rfl) G<|ofa Dp G ⟨fun h => absurd h (by decide),?_⟩
 refine Aq 14 (by kernel_rfl) G<|Bc (v := .slice SA' g.suc.length cS') (cs := [.slice OA' g.own.length co',.slice PA' g.pri.length cp',.slice SA g.suc.length cS]) (i := 0 + 2) S27 G G G hbb7 (by simp) ?_
 intro w8 hbb8 hg8
 have hbb8 : w8.heap[b]? = some (.cells (gsl g OA' PA' SA' co' cp' cS').toArray 29 (0,0)) := hbb8
 have hro := Ah hro hbb7 (by decide) hg8
 have hrp := Ah hrp hbb7 (by decide) hg8
 have hrs := Ah hrs hbb7 (by decide) hg8
 have hB := hB.grown hg8 hB.size (fun k e => by cases e; omega)
 refine ⟨fun h => absurd h (by decide),?_⟩
 refine Bw (by kernel_rfl) ?_
 clear hbb hbb6 hbb7 hg6 hg7 hg8 hb1 hb2 hb3 hb4 hb5 hS hs2 hs3 hs4
 refine AV (vs := gsl g OA' PA' SA' co' cp' cS') G29 S29 G (Ak hbb8)<|pl (.agg #[.slice OA' g.own.length co',.slice PA' g.pri.length cp',.slice SA' g.suc.length cS',.slice none 0 0,.bool false]) (fun _ => by kernel_rfl)<|obx (cs := [.slice OA' g.own.length co',.slice PA' g.pri.length cp',.slice SA' g.suc.length cS',.slice none 0 0,.bool false]) G G ?_
 intro p w9 hpe hpb hb9
 have hbb := Ab hbb8 hb9
 have hro := Kd.R_below hro hb9
 have hrp := Kd.R_below hrp hb9
 have hrs := Kd.R_below hrs hb9
 have hs8 := hB.size
 have hB := Ad hB hb9
 refine ap G<|mp G<|mp G<|AV (vs := gsl g OA' PA' SA' co' cp' cS') G29 S29 G (Ak hbb)<|cl C84 [] G ((after84 g hF OA' PA' SA' co' cp' cS' w9 ⟨(Kd.R_reads' hro).2.2,(Kd.R_reads' hrp).2.2,(Kd.R_reads' hrs).2.2⟩).mono ?_)
 rintro e w10 ⟨gm,mc,dn,rfl,hrm,hdn,hb10⟩
 refine ⟨_,rfl,?_⟩
 have hpb := Ab hpb hb10
 have hro := Kd.R_below hro hb10
 have hrp := Kd.R_below hrp hb10
 have hrs := Kd.R_below hrs hb10
 have hs9 := hb9.size
 have hrm := Kd.R_lower (base' := w.heap.size) hrm (by omega)
 have hB := Ad hB hb10
 refine mv G<|oex G G<|oex G G<|oex G G<|onc G<|ofa D3 G<|Bc (v := .slice (some ⟨gm,0,none⟩) g.own.length mc) (cs := [.slice OA' g.own.length co',.slice PA' g.pri.length cp',.slice SA' g.suc.length cS',.slice none 0 0,.bool false]) (i := 0 + 3) S58 G G G hpb (by simp) ?_
 intro w11 hpb11 hg11
 have hpb11 : w11.heap[p]? = some (.cells (msc g OA' PA' SA' co' cp' cS' gm mc false).toArray 129 (0,0)) := hpb11
 have hM : MS g w.heap.size p OA' PA' SA' co' cp' cS' gm mc (List.replicate g.own.length Me.zero) false w11 :=
  ⟨hpb11,Ah hro hpb (by decide) hg11,Ah hrp hpb (by decide) hg11,Ah hrs hpb (by decide) hg11,Ah hrm hpb (by decide) hg11,by omega,List.length_replicate,fun m hm => by rw [List.eq_of_mem_replicate hm]; exact Me.zero_good hL⟩
 have hB := hB.grown hg11 hB.size (fun k e => by cases e; omega)
 refine onc G<|ofa G2 G<|Bc (v := .bool dn) (cs := msc g OA' PA' SA' co' cp' cS' gm mc false) (i := 0 + 4) S4 G G G hM.blk (by simp) ?_
 intro w12 hpb12 hg12
 have hB := hB.grown hg12 hB.size (fun k e => by cases e; omega)
 refine mp G<|ap G<|?_
 exact rt1 rfl rfl ⟨p,OA',PA',SA',co',cp',cS',gm,mc,dn,rfl,hM.done hg12 hpb12,hdn,hB⟩
def B8 (j : Nat) (T : Nat) (p : Nat) (u : Nat) (W : World) : Prop := W.heap[j]? = some (.cells [.iface T (.pointer (some ⟨p,0,none⟩)),.int .i64 u].toArray 113 (0,0))
theorem Jv (g : GL) (hF : g.Full) (OA PA SA : Option Addr) (co cp cS : Nat) (w : World) (hG : GR g w OA PA SA) :
  Calls Tryz.prog 16 #[.agg (gsl g OA PA SA co cp cS).toArray] w fun e w' => ∃ j p OA' PA' SA' co' cp' cS' gm mc dn,e = .returned (.tuple #[.pointer (some ⟨j,0,none⟩),.int .i64 0]) ∧ B8 j 108 p 0 w' ∧ w.heap.size ≤ j ∧
   MS g w.heap.size p OA' PA' SA' co' cp' cS' gm mc (List.replicate g.own.length Me.zero) dn w' ∧ (dn = true ↔ CX g (List.replicate g.own.length Me.zero)) ∧ Below w.heap.size w w' := by
 refine enter 15 Tryz.func16 G G _ (by simp) ?_
 refine obx (cs := gsl g OA PA SA co cp cS) G G ?_
 intro b w1 hbe hbb hb1
 refine ap G<|ai G<|AV (vs := gsl g OA PA SA co cp cS) G29 S29 G (Ak hbb)<|cl C46 [] G ((Gg g w1 OA PA SA co cp cS (hG.below hb1) hF).mono ?_)
 rintro e w2 ⟨rfl,hb2⟩
 refine ⟨_,rfl,?_⟩
 have hbb := Ab hbb hb2
 have hB := Ad hb1 hb2
 refine ai G<|mi G<|one G G<|isf (by omega)<|?_
 refine cdf G<|AV (vs := gsl g OA PA SA co cp cS) G29 S29 G (Ak hbb)<|cl C47 [] G ((new47 g hF OA PA SA co cp cS w2 (hG.below hB)).mono ?_)
 rintro e w3 ⟨p,OA',PA',SA',co',cp',cS',gm,mc,dn,rfl,hM,hdn,hb3⟩
 refine ⟨_,rfl,?_⟩
 refine pl (.iface 108 (.pointer (some ⟨p,0,none⟩))) (fun _ => by kernel_rfl)<|pl (.agg #[.iface 108 (.pointer (some ⟨p,0,none⟩)),.int .i64 0]) (fun _ => by kernel_rfl)<|obx (cs := [.iface 108 (.pointer (some ⟨p,0,none⟩)),.int .i64 (0 : Nat)]) G G ?_
 intro j w4 hje hjb hb4
 have hs2 := hB.size
 have hs3 := hb3.size
 refine ap G<|ai G<|?_
 have hM4 := hM.below hb4
 refine rt2 G G G ⟨j,p,OA',PA',SA',co',cp',cS',gm,mc,dn,rfl,hjb,by omega,⟨hM4.blk,?_,?_,?_,?_,?_,hM4.hl,hM4.good⟩,hdn,Ad (Ad hB hb3) hb4⟩
 ·exact Kd.R_lower hM4.ro hs2
 ·exact Kd.R_lower hM4.rp hs2
 ·exact Kd.R_lower hM4.rs hs2
 ·exact Kd.R_lower hM4.rm hs2
 ·exact Nat.le_trans hs2 hM4.hp
end
end Go.Proofs.YtmjllchdhcdinaaGreatDoor

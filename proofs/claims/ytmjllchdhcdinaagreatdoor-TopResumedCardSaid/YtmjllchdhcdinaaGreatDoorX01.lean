/- Part of the proof: A. -/
import Derived.Test.YtmjllchdhcdinaaGreatDoorX00
import Derived.Deep.Quiet
import Derived.StillTail
import Derived.Scope
import Derived.OrdersHeld
import Derived.RangeFuncRecord
import Derived.RangeFuncLeaves
import Derived.ControlIn
set_option linter.unusedVariables false
set_option linter.unusedSimpArgs false
set_option maxRecDepth 100000
set_option maxHeartbeats 8000000
namespace Go.Proofs.YtmjllchdhcdinaaGreatDoor
section
open Go Go.RowKit
theorem G.{u} {α : Sort u} {a : α} : a = a := rfl
theorem gE.{u} {α : Type u} {l : List α} {i : Nat} (h : i < l.length) : l[i]? = some l[i] := List.getElem?_eq_getElem h
theorem gD.{u} {α : Type u} {l : List α} {i : Nat} {a : α} : l.getD i a = l[i]?.getD a := List.getD_eq_getElem?_getD
inductive Fm (n : Nat) where
 | base (l : List Value) (h : l.length = n) (ds : List Deferred)
 | up (f : Fm n) (d : Nat) (v : Value)
namespace Fm
variable {n : Nat}
def toL : Fm n → List Value
 | base l _ _ => l
 | up f d v => (toL f).set d v
def ds : Fm n → List Deferred
 | base _ _ d => d
 | up f _ _ => ds f
theorem len : ∀ f : Fm n,f.toL.length = n
 | base _ h _ => h
 | up f d v => by simp [toL,len f]
def gt : Fm n → Nat → Value
 | base l _ _,t => l.getD t undef
 | up f d v,t => bif Nat.beq d t then (bif Nat.blt d n then v else undef) else gt f t
theorem B5 : ∀ (f : Fm n) (t : Nat),gt f t = f.toL.getD t undef
 | base l _ _,t => rfl
 | up f d v,t => by
  simp only [gt,toL]
  rw [B5 f t]
  by_cases h : d = t
  ·subst h
   have hb : Nat.beq d d = true := Nat.beq_refl d
   rw [hb]
   by_cases hd : d < n
   ·have : Nat.blt d n = true := Nat.ble_eq_true_of_le hd
    rw [this]
    simp [gD,len f,hd]
   ·have : Nat.blt d n = false := by
     cases e : Nat.blt d n with
     | false => rfl
     | true => exact absurd (Nat.le_of_ble_eq_true e) hd
    rw [this]
    simp [gD,len f,hd]
  ·have hb : Nat.beq d t = false := by
    cases e : Nat.beq d t with
    | false => rfl
    | true => exact absurd (Nat.eq_of_beq_eq_true e) h
   rw [hb]
   simp [gD,h]
def ups (f : Fm n) : List (Nat × Value) → Fm n
 | [] => f
 | (t,v) :: r => ups (up f t v) r
def has (f : Fm n) (d : List Deferred) : List (Nat × Value) → Prop
 | [] => f.ds = d
 | (t,v) :: r => gt f t = v ∧ has f d r
def re (f : Fm n) (d : List Deferred) : Fm n := base f.toL f.len d
def EW (f g : Fm n) : Prop := f.toL = g.toL ∧ f.ds = g.ds
theorem like_up {f : Fm n} {t : Nat} {v : Value} (h : gt f t = v) : EW (up f t v) f := by
 refine ⟨?_,rfl⟩
 simp only [toL]
 rw [← h,B5]
 apply List.ext_getElem?
 intro j
 by_cases e : t = j
 ·subst e
  by_cases hl : t < f.toL.length
  ·simp [hl,gD]
  ·simp [hl]
 ·simp [e]
theorem like_gt {f g : Fm n} (h : EW f g) (t : Nat) : gt f t = gt g t := by rw [B5,B5,h.1]
theorem Ei {f g : Fm n} {d : List Deferred} (h : EW f g) : ∀ l,has g d l → has f d l
 | [],a => h.2.trans a
 | (t,_) :: r,⟨a,b⟩ => ⟨(like_gt h t).trans a,Ei h r b⟩
theorem Je {f : Fm n} {d : List Deferred} : ∀ l,has f d l → f.ds = d
 | [],a => a
 | _ :: r,⟨_,b⟩ => Je r b
theorem like_re {f : Fm n} {d : List Deferred} (h : f.ds = d) : EW (re f d) f := ⟨rfl,h.symm⟩
theorem IF {d : List Deferred} : ∀ (l : List (Nat × Value)) (f : Fm n),has f d l → EW (ups f l) f
 | [],_,_ => ⟨rfl,rfl⟩
 | (t,v) :: r,f,⟨a,b⟩ => by
  have h1 := like_up a
  have h2 := IF r (up f t v) (Ei h1 r b)
  exact ⟨h2.1.trans h1.1,h2.2.trans h1.2⟩
theorem BS {d : List Deferred} (l : List (Nat × Value)) (f : Fm n) (h : has f d l) : EW (ups (re f d) l) f := by
 have h1 := like_re (Je l h)
 have h2 := IF l (re f d) (Ei h1 l h)
 exact ⟨h2.1.trans h1.1,h2.2.trans h1.2⟩
def act (f : Fm n) : Act := { tmps := f.toL.toArray,defers := f.ds }
theorem CS {f g : Fm n} (h : EW f g) : act f = act g := by unfold act; rw [h.1,h.2]
def ex (f : Fm n) : Operand → Value
 | .tmp t => gt f t
 | .const v => v
 | .global g => .pointer (some ⟨g,0,none⟩)
 | .func k => .func (.func k) #[] #[]
theorem Ba (f : Fm n) : (act f).eval = ex f := by
 funext x
 cases x with
 | tmp t => simp [Act.eval,act,ex,B5,gD]
 | const v => rfl
 | global g => rfl
 | func k => rfl
theorem Cc (f : Fm n) (d : Tmp) (v : Value) : (act f).put (some d) v = act (up f d v) := by simp [Act.put,act,toL,ds]
def wanted (ops : Array Oper) (f : Fm n) : Option (Nat × Bool) → Bool
 | none => true
 | some (j,b) =>
  match (ops[j]?).bind (·.dst) with
  | none => false
  | some t => match gt f t with
   | .bool c => c == b
   | _ => false
theorem BI (ops : Array Oper) (f : Fm n) (o : Oper) : Region.wanted o (yielded ops (act f).tmps) = wanted ops f o.guard := by
 unfold wanted Region.wanted
 cases o.guard with
 | none => rfl
 | some p =>
  obtain ⟨j,b⟩ := p
  simp only [yielded]
  cases (ops[j]?).bind (·.dst) with
  | none => rfl
  | some t =>
   simp only [Option.bind_some]
   have hg := B5 f t
   rw [gD] at hg
   rw [show (act f).tmps[t]? = f.toL[t]? by simp [act]]
   cases e : f.toL[t]? with
   | none => rw [e] at hg; rw [hg]; rfl
   | some v => rw [e] at hg; simp only [Option.getD_some] at hg; rw [hg]; cases v <;> rfl
end Fm
open Fm
section
variable {n : Nat}
abbrev Bd (n : Nat) := Exit → Fm n → World → Prop
def Cd (Q : Bd n) : Exit → Act → World → Prop := fun e a w => ∃ f,a = act f ∧ Q e f w
structure LS (P : Program) (ops : Array Oper) (Q : Bd n) (o : Oper) (rest : List Oper) (f : Fm n) (W : World) : Prop where
 out : wpList P ops (Cd Q) (o :: rest) (act f) W
def RL (P : Program) (ops : Array Oper) (Q : Bd n) : List Oper → Fm n → World → Prop
 | [],f,W => Q .normal f W
 | o :: rest,f,W => LS P ops Q o rest f W
theorem RL.out {P : Program} {ops : Array Oper} {Q : Bd n} : ∀ {l : List Oper} {f : Fm n} {W : World},RL P ops Q l f W → wpList P ops (Cd Q) l (act f) W
 | [],f,_,h => ⟨f,rfl,h⟩
 | _ :: _,_,_,h => LS.out h
structure CD (c : Operand) (f : Fm n) (X Y : Prop) : Prop where
 out : ∃ b,ex f c = .bool b ∧ if b = true then X else Y
structure CW (P : Program) (c : Code) (Q : Bd n) (f : Fm n) (W : World) : Prop where
 out : c.wp P (Cd Q) (act f) W
def thn (K : Fm n → World → Prop) (Q : Bd n) : Bd n
 | .normal,f,W => K f W
 | e,f,W => Q e f W
def blk (i : Nat) (Q : Bd n) : Bd n
 | .exit j,f,W => bif Nat.beq j i then Q .normal f W else Q (.exit j) f W
 | e,f,W => Q e f W
def noG (Q : Bd n) : Bd n
 | .goto _,_,_ => False
 | e,f,W => Q e f W
def wpc (P : Program) : Code → Bd n → Fm n → World → Prop
 | .skip,Q,f,W => Q .normal f W
 | .region _ ops false,Q,f,W => RL P ops Q ops.toList f W
 | .seq a b,Q,f,W => wpc P a (thn (wpc P b Q) Q) f W
 | .cond c a b,Q,f,W => CD c f (wpc P a Q f W) (wpc P b Q f W)
 | .block i b,Q,f,W => wpc P b (blk i Q) f W
 | .exit i,Q,f,W => Q (.exit i) f W
 | .ret,Q,f,W => Q .ret f W
 | .label _,Q,f,W => Q .normal f W
 | .scope b,Q,f,W => wpc P b (noG Q) f W
 | c,Q,f,W => CW P c Q f W
theorem CZ {P : Program} : ∀ (c : Code) {Q : Bd n} {f : Fm n} {W : World},wpc P c Q f W → c.wp P (Cd Q) (act f) W
 | .skip,Q,f,W,h => wp_skip ⟨f,rfl,h⟩
 | .region _ ops false,Q,f,W,h => wp_region_list (RL.out h)
 | .seq a b,Q,f,W,h => by
  refine wp_seq (Code.wp_mono ?_ (CZ a h))
  rintro e x w ⟨g,rfl,hq⟩
  cases e with
  | normal => exact CZ b hq
  | _ => exact ⟨g,rfl,hq⟩
 | .cond c a b,Q,f,W,h => by
  obtain ⟨t,hc,hh⟩ := CD.out h
  cases t with
  | true => exact wp_cond_true (by rw [Ba]; exact hc) (CZ a (by simpa using hh))
  | false => exact wp_cond_false (by rw [Ba]; exact hc) (CZ b (by simpa using hh))
 | .block i b,Q,f,W,h => by
  refine wp_block (Code.wp_mono ?_ (CZ b h))
  rintro e x w ⟨g,rfl,hq⟩
  cases e with
  | exit j =>
   by_cases e : j = i
   ·subst e
    have : Nat.beq j j = true := Nat.beq_refl j
    simp only [blk,this,cond_true] at hq
    simp only [Exit.inBlock,if_true]
    exact ⟨g,rfl,hq⟩
   ·have : Nat.beq j i = false := by
     cases h : Nat.beq j i with
     | false => rfl
     | true => exact absurd (Nat.eq_of_beq_eq_true h) e
    simp only [blk,this,cond_false] at hq
    simp only [Exit.inBlock,e,if_false]
    exact ⟨g,rfl,hq⟩
  | _ => exact ⟨g,rfl,hq⟩
 | .exit i,Q,f,W,h => wp_exit ⟨f,rfl,h⟩
 | .ret,Q,f,W,h => wp_ret ⟨f,rfl,h⟩
 | .region _ _ true,_,_,_,h => CW.out h
 | .loop _,_,_,_,h => CW.out h
 | .rangeFunc ..,_,_,_,h => CW.out h
 | .label _,Q,f,W,h => wp_label ⟨f,rfl,h⟩
 | .scope b,Q,f,W,h => by
  refine wp_scope_straight (Code.wp_mono ?_ (CZ b h))
  rintro e x w ⟨g,rfl,hq⟩
  cases e with
  | goto l => exact hq.elim
  | _ => exact ⟨g,rfl,hq⟩
 | .goto _,_,_,_,h => CW.out h
 | .refuse _,_,_,_,h => CW.out h
end
section
variable {n : Nat} {P : Program} {ops : Array Oper} {rest : List Oper} {Q : Bd n} {W w1 : World} {f : Fm n} {d : Tmp} {op : Op} {ty t t' : TypeId} {pos : String} {aft : Array Edge} {g : Option (Nat × Bool)} {v : Value} {x y c : Operand}
theorem Ce (ρ : Operand → Value) (o : Oper) : execOp ρ o = execOp ρ { dst := none, op := o.op, type := o.type, pos := "", after := #[], guard := none } := by
 cases o; rfl
def Ru (P : Program) (op : Op) (ty : TypeId) (f : Fm n) (W : World) : Result Next := (execOp (ex f) { dst := none, op := op, type := ty, pos := "", after := #[], guard := none }).run P W
theorem BH (hr : Ru P op ty f W = .ok (.value v) w1) (h : RL P ops Q rest (up f d v) w1) : LS P ops Q ⟨some d,op,ty,pos,aft,none⟩ rest f W := by
 refine ⟨wpList_plain G fun K hK => ?_⟩
 unfold Oper.wp
 rw [Ba,Ce]
 unfold Ru at hr
 rw [hr]
 show K ((act f).put (some d) v) w1
 rw [Cc]
 exact hK _ _ h.out
theorem HV (hr : Ru P op ty f W = .ok .skip w1) (h : RL P ops Q rest f w1) : LS P ops Q ⟨none,op,ty,pos,aft,none⟩ rest f W := by
 refine ⟨wpList_plain G fun K hK => ?_⟩
 unfold Oper.wp
 rw [Ba,Ce]
 unfold Ru at hr
 rw [hr]
 exact hK _ _ h.out
theorem HX {k : FuncId} {args : Array Value} (hr : Ru P op ty f W = .ok (.enter k args) W) (h : Calls P k args W fun e w' => ∃ v,e = .returned v ∧ RL P ops Q rest (up f d v) w') : LS P ops Q ⟨some d,op,ty,pos,aft,none⟩ rest f W := by
 refine ⟨wpList_plain G fun K hK => ?_⟩
 unfold Oper.wp
 rw [Ba,Ce]
 unfold Ru at hr
 rw [hr]
 refine Calls.mono h ?_
 rintro e w' ⟨v,rfl,hv⟩
 show K ((act f).put (some d) v) w'
 rw [Cc]
 exact hK _ _ hv.out
theorem gon {dd : Option Tmp} (hw : wanted ops f g = true) (h : LS P ops Q ⟨dd,op,ty,pos,aft,none⟩ rest f W) : LS P ops Q ⟨dd,op,ty,pos,aft,g⟩ rest f W := by
 refine ⟨?_⟩
 have h1 := h.out
 unfold wpList at h1 ⊢
 rw [BI] at h1 ⊢
 have e : (⟨dd,op,ty,pos,aft,g⟩ : Oper).guard = g := rfl
 rw [e,hw]
 rw [if_pos rfl]
 rw [if_pos (show wanted ops f none = true from rfl)] at h1
 exact h1
theorem gof (hw : wanted ops f g = false) (h : RL P ops Q rest (up f d undef) W) : LS P ops Q ⟨some d,op,ty,pos,aft,g⟩ rest f W := by
 refine ⟨?_⟩
 have h1 := h.out
 unfold wpList
 rw [BI]
 have e : (⟨some d,op,ty,pos,aft,g⟩ : Oper).guard = g := rfl
 rw [e,hw,if_neg (by simp)]
 show wpList P ops (Cd Q) rest ((act f).put (some d) undef) W
 rw [Cc]
 exact h1
def Pv (P : Program) (op : Op) (ty : TypeId) (f : Fm n) (v : Value) : Prop := ∀ W,Ru P op ty f W = .ok (.value v) W
theorem Bq (hp : Pv P op ty f v) (h : RL P ops Q rest (up f d v) W) : LS P ops Q ⟨some d,op,ty,pos,aft,none⟩ rest f W := BH (hp W) h
theorem pv_move (h : ex f x = v) : Pv P (.move x) ty f v := fun W => by subst h; rfl
theorem pv_assign (h : ex f x = v) : Pv P (.assign x) ty f v := fun W => by subst h; rfl
theorem mv_ (h : ex f x = v) : Pv P (.move x) ty f (v) := (pv_move h)
theorem mv (h : ex f x = v) (k : RL P ops Q rest (up f d v) W) : LS P ops Q ⟨some d,.move x,ty,pos,aft,none⟩ rest f W := Bq (mv_ h) k
theorem mi_ {k : IntKind} {i : Int} (h : ex f x = .int k i) : Pv P (.move x) ty f ((.int k i)) := mv_ h
theorem mi {k : IntKind} {i : Int} (h : ex f x = .int k i) (r : RL P ops Q rest (up f d (.int k i)) W) : LS P ops Q ⟨some d,.move x,ty,pos,aft,none⟩ rest f W := Bq (mi_ h) r
theorem ms_ {A : Option Addr} {i j : Nat} (h : ex f x = .slice A i j) : Pv P (.move x) ty f ((.slice A i j)) := mv_ h
theorem ms {A : Option Addr} {i j : Nat} (h : ex f x = .slice A i j) (r : RL P ops Q rest (up f d (.slice A i j)) W) : LS P ops Q ⟨some d,.move x,ty,pos,aft,none⟩ rest f W := Bq (ms_ h) r
theorem mb_ {b : Bool} (h : ex f x = .bool b) : Pv P (.move x) ty f ((.bool b)) := mv_ h
theorem mb {b : Bool} (h : ex f x = .bool b) (r : RL P ops Q rest (up f d (.bool b)) W) : LS P ops Q ⟨some d,.move x,ty,pos,aft,none⟩ rest f W := Bq (mb_ h) r
theorem mp_ {A : Option Addr} (h : ex f x = .pointer A) : Pv P (.move x) ty f ((.pointer A)) := mv_ h
theorem mp {A : Option Addr} (h : ex f x = .pointer A) (r : RL P ops Q rest (up f d (.pointer A)) W) : LS P ops Q ⟨some d,.move x,ty,pos,aft,none⟩ rest f W := Bq (mp_ h) r
theorem mt_ {s : ByteArray} (h : ex f x = .string s) : Pv P (.move x) ty f ((.string s)) := mv_ h
theorem mt {s : ByteArray} (h : ex f x = .string s) (r : RL P ops Q rest (up f d (.string s)) W) : LS P ops Q ⟨some d,.move x,ty,pos,aft,none⟩ rest f W := Bq (mt_ h) r
theorem mf_ {u : Fn} {p q : Array Value} (h : ex f x = .func u p q) : Pv P (.move x) ty f ((.func u p q)) := mv_ h
theorem mf {u : Fn} {p q : Array Value} (h : ex f x = .func u p q) (r : RL P ops Q rest (up f d (.func u p q)) W) : LS P ops Q ⟨some d,.move x,ty,pos,aft,none⟩ rest f W := Bq (mf_ h) r
theorem mm_ {r' : Option Nat} (h : ex f x = .map r') : Pv P (.move x) ty f ((.map r')) := mv_ h
theorem mm {r' : Option Nat} (h : ex f x = .map r') (r : RL P ops Q rest (up f d (.map r')) W) : LS P ops Q ⟨some d,.move x,ty,pos,aft,none⟩ rest f W := Bq (mm_ h) r
theorem av_ (h : ex f x = v) : Pv P (.assign x) ty f (v) := (pv_assign h)
theorem av (h : ex f x = v) (k : RL P ops Q rest (up f d v) W) : LS P ops Q ⟨some d,.assign x,ty,pos,aft,none⟩ rest f W := Bq (av_ h) k
theorem ai_ {k : IntKind} {i : Int} (h : ex f x = .int k i) : Pv P (.assign x) ty f ((.int k i)) := av_ h
theorem ai {k : IntKind} {i : Int} (h : ex f x = .int k i) (r : RL P ops Q rest (up f d (.int k i)) W) : LS P ops Q ⟨some d,.assign x,ty,pos,aft,none⟩ rest f W := Bq (ai_ h) r
theorem K7 {A : Option Addr} {i j : Nat} (h : ex f x = .slice A i j) : Pv P (.assign x) ty f ((.slice A i j)) := av_ h
theorem asl {A : Option Addr} {i j : Nat} (h : ex f x = .slice A i j) (r : RL P ops Q rest (up f d (.slice A i j)) W) : LS P ops Q ⟨some d,.assign x,ty,pos,aft,none⟩ rest f W := Bq (K7 h) r
theorem ab_ {b : Bool} (h : ex f x = .bool b) : Pv P (.assign x) ty f ((.bool b)) := av_ h
theorem ab {b : Bool} (h : ex f x = .bool b) (r : RL P ops Q rest (up f d (.bool b)) W) : LS P ops Q ⟨some d,.assign x,ty,pos,aft,none⟩ rest f W := Bq (ab_ h) r
theorem ap_ {A : Option Addr} (h : ex f x = .pointer A) : Pv P (.assign x) ty f ((.pointer A)) := av_ h
theorem ap {A : Option Addr} (h : ex f x = .pointer A) (r : RL P ops Q rest (up f d (.pointer A)) W) : LS P ops Q ⟨some d,.assign x,ty,pos,aft,none⟩ rest f W := Bq (ap_ h) r
theorem ast_ {s : ByteArray} (h : ex f x = .string s) : Pv P (.assign x) ty f ((.string s)) := av_ h
theorem ast {s : ByteArray} (h : ex f x = .string s) (r : RL P ops Q rest (up f d (.string s)) W) : LS P ops Q ⟨some d,.assign x,ty,pos,aft,none⟩ rest f W := Bq (ast_ h) r
theorem af_ {u : Fn} {p q : Array Value} (h : ex f x = .func u p q) : Pv P (.assign x) ty f ((.func u p q)) := av_ h
theorem af {u : Fn} {p q : Array Value} (h : ex f x = .func u p q) (r : RL P ops Q rest (up f d (.func u p q)) W) : LS P ops Q ⟨some d,.assign x,ty,pos,aft,none⟩ rest f W := Bq (af_ h) r
theorem am_ {r' : Option Nat} (h : ex f x = .map r') : Pv P (.assign x) ty f ((.map r')) := av_ h
theorem am {r' : Option Nat} (h : ex f x = .map r') (r : RL P ops Q rest (up f d (.map r')) W) : LS P ops Q ⟨some d,.assign x,ty,pos,aft,none⟩ rest f W := Bq (am_ h) r
theorem pkt_ (hc : ex f c = .bool true) (h : ex f x = v) : Pv P (.pick c x y) ty f (v) := (fun W => by simp [Ru,execOp,hc,h,asBool,go_sem])
theorem pkf_ (hc : ex f c = .bool false) (h : ex f y = v) : Pv P (.pick c x y) ty f (v) := (fun W => by simp [Ru,execOp,hc,h,asBool,go_sem])
theorem I2 {b : Bool} (hc : ex f c = .bool true) (h : ex f x = .bool b) : Pv P (.pick c x y) ty f ((.bool b)) := pkt_ hc h
theorem ptb {b : Bool} (hc : ex f c = .bool true) (h : ex f x = .bool b) (r : RL P ops Q rest (up f d (.bool b)) W) : LS P ops Q ⟨some d,.pick c x y,ty,pos,aft,none⟩ rest f W := Bq (I2 hc h) r
theorem Gx {b : Bool} (hc : ex f c = .bool false) (h : ex f y = .bool b) : Pv P (.pick c x y) ty f ((.bool b)) := pkf_ hc h
theorem pfb {b : Bool} (hc : ex f c = .bool false) (h : ex f y = .bool b) (r : RL P ops Q rest (up f d (.bool b)) W) : LS P ops Q ⟨some d,.pick c x y,ty,pos,aft,none⟩ rest f W := Bq (Gx hc h) r
theorem ont_ {b : Bool} (h : ex f x = .bool b) : Pv P (.unOp .not t x) ty f ((.bool (!b))) := (fun W => by simp [Ru,execOp,h,go_sem])
theorem ont {b : Bool} (h : ex f x = .bool b) (r : RL P ops Q rest (up f d (.bool (!b))) W) : LS P ops Q ⟨some d,.unOp .not t x,ty,pos,aft,none⟩ rest f W := Bq (ont_ h) r
theorem Ha {k : IntKind} {i j : Int} (hx : ex f x = .int k i) (hy : ex f y = .int k j) : Pv P (.binOp .lss t x y t') ty f ((.bool (decide (i < j)))) := (fun W => by simp [Ru,execOp,hx,hy,go_sem])
theorem olt {k : IntKind} {i j : Int} (hx : ex f x = .int k i) (hy : ex f y = .int k j) (r : RL P ops Q rest (up f d (.bool (decide (i < j)))) W) : LS P ops Q ⟨some d,.binOp .lss t x y t',ty,pos,aft,none⟩ rest f W := Bq (Ha hx hy) r
theorem Lw {k : IntKind} {i j : Int} (hx : ex f x = .int k i) (hy : ex f y = .int k j) : Pv P (.binOp .leq t x y t') ty f ((.bool (decide (i ≤ j)))) := (fun W => by simp [Ru,execOp,hx,hy,go_sem])
theorem ole {k : IntKind} {i j : Int} (hx : ex f x = .int k i) (hy : ex f y = .int k j) (r : RL P ops Q rest (up f d (.bool (decide (i ≤ j)))) W) : LS P ops Q ⟨some d,.binOp .leq t x y t',ty,pos,aft,none⟩ rest f W := Bq (Lw hx hy) r
theorem KA {k : IntKind} {i j : Int} (hx : ex f x = .int k i) (hy : ex f y = .int k j) : Pv P (.binOp .gtr t x y t') ty f ((.bool (decide (j < i)))) := (fun W => by simp [Ru,execOp,hx,hy,go_sem])
theorem ogt {k : IntKind} {i j : Int} (hx : ex f x = .int k i) (hy : ex f y = .int k j) (r : RL P ops Q rest (up f d (.bool (decide (j < i)))) W) : LS P ops Q ⟨some d,.binOp .gtr t x y t',ty,pos,aft,none⟩ rest f W := Bq (KA hx hy) r
theorem Iz {k : IntKind} {i j : Int} (hx : ex f x = .int k i) (hy : ex f y = .int k j) : Pv P (.binOp .geq t x y t') ty f ((.bool (decide (j ≤ i)))) := (fun W => by simp [Ru,execOp,hx,hy,go_sem])
theorem oge {k : IntKind} {i j : Int} (hx : ex f x = .int k i) (hy : ex f y = .int k j) (r : RL P ops Q rest (up f d (.bool (decide (j ≤ i)))) W) : LS P ops Q ⟨some d,.binOp .geq t x y t',ty,pos,aft,none⟩ rest f W := Bq (Iz hx hy) r
theorem Ly {k : IntKind} {i j : Int} (hx : ex f x = .int k i) (hy : ex f y = .int k j) : Pv P (.binOp .eql t x y t') ty f ((.bool (decide (i = j)))) := (fun W => by simp [Ru,execOp,hx,hy,go_sem]; rfl)
theorem oeq {k : IntKind} {i j : Int} (hx : ex f x = .int k i) (hy : ex f y = .int k j) (r : RL P ops Q rest (up f d (.bool (decide (i = j)))) W) : LS P ops Q ⟨some d,.binOp .eql t x y t',ty,pos,aft,none⟩ rest f W := Bq (Ly hx hy) r
theorem LR {k : IntKind} {i j : Int} (hx : ex f x = .int k i) (hy : ex f y = .int k j) : Pv P (.binOp .neq t x y t') ty f ((.bool (decide (i ≠ j)))) := (fun W => by simp [Ru,execOp,hx,hy,go_sem,bne]; rfl)
theorem one {k : IntKind} {i j : Int} (hx : ex f x = .int k i) (hy : ex f y = .int k j) (r : RL P ops Q rest (up f d (.bool (decide (i ≠ j)))) W) : LS P ops Q ⟨some d,.binOp .neq t x y t',ty,pos,aft,none⟩ rest f W := Bq (LR hx hy) r
theorem ist {p : Prop} [Decidable p] (hp : p) (r : RL P ops Q rest (up f d (.bool true)) W) : RL P ops Q rest (up f d (.bool (decide p))) W := by rw [decide_eq_true hp]; exact r
theorem isf {p : Prop} [Decidable p] (hp : ¬ p) (r : RL P ops Q rest (up f d (.bool false)) W) : RL P ops Q rest (up f d (.bool (decide p))) W := by rw [decide_eq_false hp]; exact r
theorem Lz {i j : Int} (hx : ex f x = .int .i64 i) (hy : ex f y = .int .i64 j) (h0 : -9223372036854775808 ≤ i + j ∧ i + j ≤ 9223372036854775807) : Pv P (.binOp .add t x y t') ty f ((.int .i64 (i + j))) := (fun W => by
 have := IntWalk.i64_in (i + j) ⟨by omega,by omega⟩
 simp [Ru,execOp,hx,hy,go_sem,this])
theorem oad {i j : Int} (hx : ex f x = .int .i64 i) (hy : ex f y = .int .i64 j) (h0 : -9223372036854775808 ≤ i + j ∧ i + j ≤ 9223372036854775807) (r : RL P ops Q rest (up f d (.int .i64 (i + j))) W) : LS P ops Q ⟨some d,.binOp .add t x y t',ty,pos,aft,none⟩ rest f W := Bq (Lz hx hy h0) r
theorem Lu {i j : Int} (hx : ex f x = .int .i64 i) (hy : ex f y = .int .i64 j) (h0 : -9223372036854775808 ≤ i - j ∧ i - j ≤ 9223372036854775807) : Pv P (.binOp .sub t x y t') ty f ((.int .i64 (i - j))) := (fun W => by
 have := IntWalk.i64_in (i - j) ⟨by omega,by omega⟩
 simp [Ru,execOp,hx,hy,go_sem,this])
theorem osb {i j : Int} (hx : ex f x = .int .i64 i) (hy : ex f y = .int .i64 j) (h0 : -9223372036854775808 ≤ i - j ∧ i - j ≤ 9223372036854775807) (r : RL P ops Q rest (up f d (.int .i64 (i - j))) W) : LS P ops Q ⟨some d,.binOp .sub t x y t',ty,pos,aft,none⟩ rest f W := Bq (Lu hx hy h0) r
theorem oml_ {i j : Int} (hx : ex f x = .int .i64 i) (hy : ex f y = .int .i64 j) (h0 : -9223372036854775808 ≤ i * j ∧ i * j ≤ 9223372036854775807) : Pv P (.binOp .mul t x y t') ty f ((.int .i64 (i * j))) := (fun W => by
 have := IntWalk.i64_in (i * j) ⟨by omega,by omega⟩
 simp [Ru,execOp,hx,hy,go_sem,this])
theorem oml {i j : Int} (hx : ex f x = .int .i64 i) (hy : ex f y = .int .i64 j) (h0 : -9223372036854775808 ≤ i * j ∧ i * j ≤ 9223372036854775807) (r : RL P ops Q rest (up f d (.int .i64 (i * j))) W) : LS P ops Q ⟨some d,.binOp .mul t x y t',ty,pos,aft,none⟩ rest f W := Bq (oml_ hx hy h0) r
theorem DJ {i j : Int} (hx : ex f x = .int .u8 i) (hy : ex f y = .int .u8 j) (h0 : 0 ≤ i - j ∧ i - j ≤ 255) : Pv P (.binOp .sub t x y t') ty f (.int .u8 (i - j)) := fun W => by
 have := IntWalk.u8_in (i - j) ⟨by omega,by omega⟩
 simp [Ru,execOp,hx,hy,go_sem,this]
theorem Kg {i j : Int} (hx : ex f x = .int .u8 i) (hy : ex f y = .int .u8 j) (h0 : 0 ≤ i - j ∧ i - j ≤ 255) (r : RL P ops Q rest (up f d (.int .u8 (i - j))) W) : LS P ops Q ⟨some d,.binOp .sub t x y t',ty,pos,aft,none⟩ rest f W := Bq (DJ hx hy h0) r
theorem Ec {e : TypeId} {A : Option Addr} {i j : Nat} (ht : P.underlying t = some (.slice e)) (hx : ex f x = .slice A i j) : Pv P (.call { callee := .builtin .len,args := #[x],argTypes := #[t] }) ty f ((.int .i64 i)) := (fun W => by simp [Ru,hx,ht,go_sem])
theorem oln {e : TypeId} {A : Option Addr} {i j : Nat} (ht : P.underlying t = some (.slice e)) (hx : ex f x = .slice A i j) (r : RL P ops Q rest (up f d (.int .i64 i)) W) : LS P ops Q ⟨some d,.call { callee := .builtin .len,args := #[x],argTypes := #[t] },ty,pos,aft,none⟩ rest f W := Bq (Ec ht hx) r
theorem omx_ {k : IntKind} {i j : Int} {ts : Array TypeId} (hx : ex f x = .int k i) (hy : ex f y = .int k j) : Pv P (.call { callee := .builtin .max,args := #[x,y],argTypes := ts }) ty f ((.int k (if i < j then j else i))) := (fun W => by simp [Ru,hx,hy,go_sem])
theorem omx {k : IntKind} {i j : Int} {ts : Array TypeId} (hx : ex f x = .int k i) (hy : ex f y = .int k j) (r : RL P ops Q rest (up f d (.int k (if i < j then j else i))) W) : LS P ops Q ⟨some d,.call { callee := .builtin .max,args := #[x,y],argTypes := ts },ty,pos,aft,none⟩ rest f W := Bq (omx_ hx hy) r
theorem LT {k : IntKind} {i j : Int} {ts : Array TypeId} (hx : ex f x = .int k i) (hy : ex f y = .int k j) : Pv P (.call { callee := .builtin .min,args := #[x,y],argTypes := ts }) ty f ((.int k (if j < i then j else i))) := (fun W => by simp [Ru,hx,hy,go_sem])
theorem omn {k : IntKind} {i j : Int} {ts : Array TypeId} (hx : ex f x = .int k i) (hy : ex f y = .int k j) (r : RL P ops Q rest (up f d (.int k (if j < i then j else i))) W) : LS P ops Q ⟨some d,.call { callee := .builtin .min,args := #[x,y],argTypes := ts },ty,pos,aft,none⟩ rest f W := Bq (LT hx hy) r
theorem Ki {e : TypeId} {i : Int} {k : IntKind} {a : Addr} {p q sz : Nat} (ht : P.underlying t = some (.slice e)) (hi : (P.info? e).map (·.size) = some sz) (hx : ex f x = .slice (some a) p q) (hy : ex f y = .int k i) (h : 0 ≤ i ∧ i < p)     : Pv P (.indexAddr t x y) ty f ((.pointer (some (a.add (i.toNat * sz))))) := (fun W => by
 obtain ⟨inf,hi',rfl⟩ := Option.map_eq_some_iff.1 hi
 simp [Ru,execOp,hx,hy,ht,go_sem,hi',h.1,h.2,sizeOf,typeInfo])
theorem oix {e : TypeId} {i : Int} {k : IntKind} {a : Addr} {p q sz : Nat} (ht : P.underlying t = some (.slice e)) (hi : (P.info? e).map (·.size) = some sz) (hx : ex f x = .slice (some a) p q) (hy : ex f y = .int k i) (h : 0 ≤ i ∧ i < p)
  (r : RL P ops Q rest (up f d (.pointer (some (a.add (i.toNat * sz))))) W) : LS P ops Q ⟨some d,.indexAddr t x y,ty,pos,aft,none⟩ rest f W := Bq (Ki ht hi hx hy h) r
theorem AU {e : TypeId} {i : Nat} {k : IntKind} {a : Addr} {p q sz : Nat} (ht : P.underlying t = some (.slice e)) (hi : (P.info? e).map (·.size) = some sz) (hx : ex f x = .slice (some a) p q) (hy : ex f y = .int k (i : Nat)) (h : i < p)
  : Pv P (.indexAddr t x y) ty f ((.pointer (some (a.add (i * sz))))) := by
 have := Ki (ty := ty) ht hi hx hy (by omega : 0 ≤ (i : Int) ∧ (i : Int) < p)
 simpa using this
theorem AD {e : TypeId} {i : Nat} {k : IntKind} {a : Addr} {p q sz : Nat} (ht : P.underlying t = some (.slice e)) (hi : (P.info? e).map (·.size) = some sz) (hx : ex f x = .slice (some a) p q) (hy : ex f y = .int k (i : Nat)) (h : i < p)
  (r : RL P ops Q rest (up f d (.pointer (some (a.add (i * sz))))) W) : LS P ops Q ⟨some d,.indexAddr t x y,ty,pos,aft,none⟩ rest f W := Bq (AU ht hi hx hy h) r
theorem BN {a : Addr} (hx : ex f x = .pointer (some a)) : Pv P (.nilCheck x) ty f ((.pointer (some a))) := (fun W => by simp [Ru,execOp,hx,go_sem])
theorem onc {a : Addr} (hx : ex f x = .pointer (some a)) (r : RL P ops Q rest (up f d (.pointer (some a))) W) : LS P ops Q ⟨some d,.nilCheck x,ty,pos,aft,none⟩ rest f W := Bq (BN hx) r
def Fld (P : Program) (s i off : Nat) : Prop := ∀ a W,(Instr.fieldAt s (.pointer (some a)) i).run P W = .ok (.pointer (some (a.add off))) W
theorem AQ {s i off b o : Nat} (hF : Fld P s i off) (hx : ex f x = .pointer (some ⟨b,o,none⟩)) : Pv P (.fieldAddr s x i) ty f ((.pointer (some ⟨b,o + off,none⟩))) := (fun W => by
 have h := hF ⟨b,o,none⟩ W
 have e : (⟨b,o,none⟩ : Addr).add off = ⟨b,o + off,none⟩ := by unfold Addr.add; split <;> simp_all
 rw [e] at h
 show (do pure (Next.value (← Instr.fieldAt s (ex f x) i)) : Sem Next).run P W = _
 rw [hx]
 generalize Instr.fieldAt s (.pointer (some ⟨b,o,none⟩)) i = S at h ⊢
 simp [h,go_sem])
theorem ofa {s i off b o : Nat} (hF : Fld P s i off) (hx : ex f x = .pointer (some ⟨b,o,none⟩)) (r : RL P ops Q rest (up f d (.pointer (some ⟨b,o + off,none⟩))) W) : LS P ops Q ⟨some d,.fieldAddr s x i,ty,pos,aft,none⟩ rest f W := Bq (AQ hF hx) r
theorem CQ {e m : Nat} {i : Int} {k : IntKind} {b o sz : Nat} (ht : P.underlying t = some (.array m e)) (hi : (P.info? e).map (·.size) = some sz) (hx : ex f x = .pointer (some ⟨b,o,none⟩)) (hy : ex f y = .int k i) (h : 0 ≤ i ∧ i < m) :
  Pv P (.indexAddr t x y) ty f (.pointer (some ⟨b,o + i.toNat * sz,none⟩)) := fun W => by
 obtain ⟨inf,hi',rfl⟩ := Option.map_eq_some_iff.1 hi
 simp [Ru,execOp,hx,hy,ht,go_sem,hi',h.1,h.2,sizeOf,typeInfo]
theorem Ee {e m : Nat} {i : Int} {k : IntKind} {b o sz : Nat} (ht : P.underlying t = some (.array m e)) (hi : (P.info? e).map (·.size) = some sz) (hx : ex f x = .pointer (some ⟨b,o,none⟩)) (hy : ex f y = .int k i) (h : 0 ≤ i ∧ i < m)
  (r : RL P ops Q rest (up f d (.pointer (some ⟨b,o + i.toNat * sz,none⟩))) W) : LS P ops Q ⟨some d,.indexAddr t x y,ty,pos,aft,none⟩ rest f W := Bq (CQ ht hi hx hy h) r
theorem pl_ (v : Value) (h : ∀ W,Ru P op ty f W = .ok (.value v) W) : Pv P op ty f v := h
theorem pl (v : Value) (h : ∀ W,Ru P op ty f W = .ok (.value v) W) (r : RL P ops Q rest (up f d v) W) : LS P ops Q ⟨some d,op,ty,pos,aft,none⟩ rest f W := Bq h r
end
section
variable {n : Nat} {P : Program} {Q : Bd n} {W : World} {f : Fm n} {c : Operand} {X Y : Prop}
theorem cdt (h : ex f c = .bool true) (hx : X) : CD c f X Y := ⟨true,h,by simpa using hx⟩
theorem cdf (h : ex f c = .bool false) (hy : Y) : CD c f X Y := ⟨false,h,by simpa using hy⟩
theorem cdb {b : Bool} (h : ex f c = .bool b) (hx : b = true → X) (hy : b = false → Y) : CD c f X Y := by
 cases b with
 | true => exact cdt h (hx rfl)
 | false => exact cdf h (hy rfl)
theorem cdd {p : Prop} [Decidable p] (h : ex f c = .bool (decide p)) (hx : p → X) (hy : ¬ p → Y) : CD c f X Y := cdb h (fun e => hx (of_decide_eq_true e)) (fun e => hy (of_decide_eq_false e))
theorem cdT {p : Prop} [Decidable p] (h : ex f c = .bool (decide p)) (hp : p) (hx : X) : CD c f X Y := cdd h (fun _ => hx) (fun e => absurd hp e)
theorem lp {σ : Type} {body : Code} (S : σ → List (Nat × Value)) (J : σ → World → Prop) (μ : σ → Nat) (s0 : σ) (h0 : has f f.ds (S s0)) (hJ : J s0 W)
  (round : ∀ s (g : Fm n) W,J s W → wpc P body (thn (fun g' W' => ∃ s',has g' f.ds (S s') ∧ J s' W' ∧ μ s' < μ s) Q) (ups (re g f.ds) (S s)) W) : CW P (.loop body) Q f W := by
 refine ⟨?_⟩
 refine wp_loop_ghost (fun m a W => ∃ s g,μ s = m ∧ a = act g ∧ has g f.ds (S s) ∧ J s W) (μ s0) ⟨s0,f,rfl,rfl,h0,hJ⟩ ?_
 rintro m a W ⟨s,g,rfl,rfl,hS,hJ⟩
 have h1 := CZ body (round s g W hJ)
 rw [CS (BS _ _ hS)] at h1
 refine Code.wp_mono ?_ h1
 rintro e x w ⟨g',rfl,hq⟩
 cases e with
 | normal =>
  obtain ⟨s',hS',hJ',hlt⟩ := hq
  exact ⟨μ s',hlt,s',g',rfl,rfl,hS',hJ'⟩
 | _ => exact ⟨g',rfl,hq⟩
def evs (f : Fm n) : List Operand → List Value
 | [] => []
 | x :: r => ex f x :: evs f r
theorem Gf (f : Fm n) : ∀ l : List Operand,l.map (ex f) = evs f l
 | [] => rfl
 | x :: r => by simp [evs,Gf f r]
def Ag (P : Program) (k : FuncId) : Prop := ∃ fn, P.funcs[k]? = some fn ∧ (fn.name == "runtime.NumGoroutine") = false ∧ fn.body.isNone = false
theorem Jy {k : FuncId} {ty : TypeId} {x : Operand} {xs : List Operand} {ts : Array TypeId} {caps : List Value} (hC : Ag P k) (hx : ex f x = .func (.func k) #[] caps.toArray) :
  Ru P (.call { callee := .value x,args := xs.toArray,argTypes := ts }) ty f W = .ok (.enter k (evs f xs ++ caps).toArray) W := by
 obtain ⟨fn,h1,h2,h3⟩ := hC
 rw [← Gf]
 simp only [beq_eq_false_iff_ne,ne_eq] at h2
 cases hb : fn.body with
 | none => rw [hb] at h3; simp at h3
 | some b => simp [Ru,hx,go_sem,callFunc,h1,h2,hb]
section
variable {ops : Array Oper} {rest : List Oper} {d : Tmp} {ty : TypeId} {pos : String} {aft : Array Edge} {x : Operand} {xs : List Operand} {ts : Array TypeId} {k : FuncId}
theorem cl (hC : Ag P k) (caps : List Value) (hx : ex f x = .func (.func k) #[] caps.toArray) (h : Calls P k (evs f xs ++ caps).toArray W fun e w' => ∃ v,e = .returned v ∧ RL P ops Q rest (up f d v) w') :
  LS P ops Q ⟨some d,.call { callee := .value x,args := xs.toArray,argTypes := ts },ty,pos,aft,none⟩ rest f W := HX (Jy hC hx) h
end
structure SS (P : Program) (ops : Array Oper) (W : World) (K : Fm n → Prop) (o : Oper) (rest : List Oper) (f : Fm n) : Prop where
 out : wpStill P ops W (fun a => ∃ f,a = act f ∧ K f) (o :: rest) (act f)
def SL (P : Program) (ops : Array Oper) (W : World) (K : Fm n → Prop) : List Oper → Fm n → Prop
 | [],f => K f
 | o :: rest,f => SS P ops W K o rest f
theorem SL.out {P : Program} {ops : Array Oper} {W : World} {K : Fm n → Prop} : ∀ {l : List Oper} {f : Fm n},SL P ops W K l f → wpStill P ops W (fun a => ∃ f,a = act f ∧ K f) l (act f)
 | [],f,h => ⟨f,rfl,h⟩
 | _ :: _,_,h => SS.out h
section
variable {ops : Array Oper} {rest : List Oper} {d : Tmp} {op : Op} {ty : TypeId} {pos : String} {aft : Array Edge} {g : Option (Nat × Bool)} {v : Value} {K : Fm n → Prop}
theorem sru (hr : Ru P op ty f W = .ok (.value v) W) (r : SL P ops W K rest (up f d v)) : SS P ops W K ⟨some d,op,ty,pos,aft,none⟩ rest f := by
 refine ⟨?_⟩
 unfold wpStill
 rw [if_pos (by rw [BI]; rfl)]
 unfold Oper.still
 rw [Ba,Ce]
 unfold Ru at hr
 rw [hr,Oper.stillUpon_value]
 have := r.out
 rw [show (act f).put (some d) v = act (up f d v) from Cc f d v]
 exact this
theorem spu (hp : Pv P op ty f v) (r : SL P ops W K rest (up f d v)) : SS P ops W K ⟨some d,op,ty,pos,aft,none⟩ rest f := sru (hp W) r
theorem scl {k : FuncId} {x : Operand} {xs : List Operand} {ts : Array TypeId} (hC : Ag P k) (caps : List Value) (v : Value) (hx : ex f x = .func (.func k) #[] caps.toArray) (h : Calls P k (evs f xs ++ caps).toArray W fun e w' => e = .returned v ∧ w' = W) (r : SL P ops W K rest (up f d v)) :
  SS P ops W K ⟨some d,.call { callee := .value x,args := xs.toArray,argTypes := ts },ty,pos,aft,none⟩ rest f := by
 refine ⟨?_⟩
 unfold wpStill
 rw [if_pos (by rw [BI]; rfl)]
 unfold Oper.still
 rw [Ba,Ce]
 have hr := Jy (P := P) (W := W) (ty := ty) (ts := ts) (xs := xs) hC hx
 unfold Ru at hr
 rw [hr]
 refine ⟨rfl,v,h,?_⟩
 have := r.out
 rw [show (act f).put (some d) v = act (up f d v) from Cc f d v]
 exact this
theorem son {dd : Option Tmp} (hw : wanted ops f g = true) (h : SS P ops W K ⟨dd,op,ty,pos,aft,none⟩ rest f) : SS P ops W K ⟨dd,op,ty,pos,aft,g⟩ rest f := by
 refine ⟨?_⟩
 have h1 := h.out
 unfold wpStill at h1 ⊢
 rw [BI] at h1 ⊢
 have e : (⟨dd,op,ty,pos,aft,g⟩ : Oper).guard = g := rfl
 rw [e,hw,if_pos rfl]
 rw [if_pos (show wanted ops f none = true from rfl)] at h1
 exact h1
theorem sof (hw : wanted ops f g = false) (h : SL P ops W K rest (up f d undef)) : SS P ops W K ⟨some d,op,ty,pos,aft,g⟩ rest f := by
 refine ⟨?_⟩
 have h1 := h.out
 unfold wpStill
 rw [BI]
 have e : (⟨some d,op,ty,pos,aft,g⟩ : Oper).guard = g := rfl
 rw [e,hw,if_neg (by simp)]
 rw [show (act f).put (⟨some d,op,ty,pos,aft,g⟩ : Oper).dst undef = act (up f d undef) from Cc f d undef]
 exact h1
end
theorem Ka {P : Program} {ops : Array Oper} {W : World} {K : Fm n → Prop} {rest : List Oper} {f : Fm n} {d : Tmp} {p : Prop} [Decidable p] (hp : p) (r : SL P ops W K rest (up f d (.bool true))) : SL P ops W K rest (up f d (.bool (decide p))) := by rw [decide_eq_true hp]; exact r
theorem Fr {P : Program} {ops : Array Oper} {W : World} {K : Fm n → Prop} {rest : List Oper} {f : Fm n} {d : Tmp} {p : Prop} [Decidable p] (hp : ¬ p) (r : SL P ops W K rest (up f d (.bool false))) : SL P ops W K rest (up f d (.bool (decide p))) := by rw [decide_eq_false hp]; exact r
def F2 (P : Program) : Prop := P.follows .mixedOrders = true
theorem drt {id : Nat} {ops : Array Oper} (hm : F2 P) (m : Nat) (hB : Region.lexTailB .any ops m = true)
  (h : ∀ W1,Below W.heap.size W W1 → W.grownBy W1 none → W1.heap = W.heap → SL P ops W1 (fun f' => RL P ops Q (ops.toList.drop m) f' W1) (ops.toList.take m) f) : CW P (.region id ops true) Q f W := by
 refine ⟨?_⟩
 have h1 := (h W.drew ((Below.refl _ _).drew) ⟨rfl,rfl,rfl,Nat.le_refl _,fun _ _ _ => rfl⟩ rfl).out
 have e : ops = ops.toList.toArray := by simp
 have : (Code.region id ops.toList.toArray true).wp P (Cd Q) (act f) W := by
  refine wp_region_still_tail m hm (by rw [← e]; exact hB) ?_
  have h2 : ∀ (l : List Oper) (a : Act),wpStill P ops W.drew (fun a => ∃ f,a = act f ∧ RL P ops Q (ops.toList.drop m) f W.drew) l a → wpStill P ops W.drew (fun a' => wpList P ops (Cd Q) (ops.toList.drop m) a' W.drew) l a := by
   intro l
   induction l with
   | nil => rintro a ⟨g,rfl,hg⟩; exact hg.out
   | cons o l ih =>
    intro a ha
    unfold wpStill at ha ⊢
    split
    ·rename_i hw
     rw [if_pos hw] at ha
     exact Oper.still_mono ih ha
    ·rename_i hw
     rw [if_neg hw] at ha
     exact ih _ ha
  simpa using h2 _ _ h1
 rw [← e] at this
 exact this
structure AH (P : Program) (ops : Array Oper) (Q : Bd n) (S : World → Prop) (fuel : Nat) (listed : Array Bool) (f : Fm n) (W : World) : Prop where
 out : wpAnyH P .any ops (Cd Q) S fuel listed (act f) W
def tk (ops : Array Oper) (listed : Array Bool) (i : Nat) : Bool := Region.noSelect ops && Region.free .any ops listed i && (Region.ready .any ops listed).contains i
section
variable {ops : Array Oper} {S : World → Prop} {fuel : Nat} {listed : Array Bool}
theorem Bu {id : Nat} (hm : F2 P) (S : World → Prop) (h : ∀ W1,Below W.heap.size W W1 → W.grownBy W1 none → W1.heap = W.heap → AH P ops Q S ops.size (Array.replicate ops.size false) f W1) : CW P (.region id ops true) Q f W :=
 ⟨wp_region_held hm (h W.drew ((Below.refl _ _).drew) ⟨rfl,rfl,rfl,Nat.le_refl _,fun _ _ _ => rfl⟩ rfl).out⟩
theorem AY (hr : Region.ready .any ops listed = []) (h : Q .normal f W) : AH P ops Q S fuel listed f W := ⟨wpAnyH_done hr ⟨f,rfl,h⟩ fuel⟩
theorem Aj (i : Nat) {d : Tmp} {op : Op} {ty : TypeId} {pos : String} {aft : Array Edge} {g : Option (Nat × Bool)} {v : Value} (hi : ops[i]? = some ⟨some d,op,ty,pos,aft,g⟩) (hk : tk ops listed i = true) (hN : ∀ c f W,¬ Q (.panic c) f W) (hw : wanted ops f g = true)
  (hy : ∀ w,S w → Ru P op ty f w = .ok (.value v) w) (hS : S W) (h : AH P ops Q S fuel (listed.setIfInBounds i true) (up f d v) W) : AH P ops Q S (fuel + 1) listed f W := by
 simp only [tk,Bool.and_eq_true] at hk
 obtain ⟨⟨h1,h2⟩,h3⟩ := hk
 refine ⟨wpAnyH_take (v := v) hi h1 h2 h3 ?_ (.inl ⟨by rw [BI]; exact hw,fun w hw' => ?_⟩) hS ?_⟩
 ·rintro c a w ⟨f',_,hq⟩; exact absurd hq (hN c f' w)
 ·rw [Ba,Ce]; exact hy w hw'
 ·rw [show (act f).put (⟨some d,op,ty,pos,aft,g⟩ : Oper).dst v = act (up f d v) from Cc f d v]
  exact h.out
theorem Di {K : Fm n → World → Prop} {o : Oper} {i : Nat} (hi : ops[i]? = some o) (h : LS P ops (thn K Q) o [] f W) : wpOp P ops (Cd Q) i (fun a' w' => ∃ f',a' = act f' ∧ K f' w') (act f) W := by
 have h1 := h.out
 unfold wpOp
 simp only [hi]
 unfold wpList at h1
 have hup : ∀ (next : Act → World → Prop) (r : Result Next),Oper.upon P o (act f) next (Cd (thn K Q)) r → Oper.upon P o (act f) next (Cd Q) r := by
  intro next r
  cases r with
  | ok x w =>
   cases x with
   | enter k args => exact fun h => Calls.mono h fun e w' => by cases e <;> exact id
   | _ => exact id
  | halt x w => cases x <;> exact id
 split
 ·rename_i hw
  rw [if_pos hw] at h1
  rcases h1 with h1 | ⟨h1,h2⟩
  ·exact .inl (hup _ _ h1)
  ·exact .inr ⟨h1,h2⟩
 ·rename_i hw
  rw [if_neg hw] at h1
  exact h1
theorem AA (i : Nat) {o : Oper} (hr : Region.ready .any ops listed = [i]) (hi : ops[i]? = some o) (h : LS P ops (thn (fun f' w' => S w' ∧ AH P ops Q S fuel (listed.setIfInBounds i true) f' w') Q) o [] f W) : AH P ops Q S (fuel + 1) listed f W := by
 refine ⟨wpAnyH_all hr (by simp) fun j hj => ?_⟩
 rw [List.mem_singleton.1 hj]
 refine wpOp_mono ?_ (Di hi h)
 rintro a w ⟨f',rfl,hS,hA⟩
 exact ⟨hS,hA.out⟩
theorem Em (i j : Nat) {o o' : Oper} (hr : Region.ready .any ops listed = [i,j]) (hi : ops[i]? = some o) (hj : ops[j]? = some o') (h : LS P ops (thn (fun f' w' => S w' ∧ AH P ops Q S fuel (listed.setIfInBounds i true) f' w') Q) o [] f W)
  (h' : LS P ops (thn (fun f' w' => S w' ∧ AH P ops Q S fuel (listed.setIfInBounds j true) f' w') Q) o' [] f W) : AH P ops Q S (fuel + 1) listed f W := by
 refine ⟨wpAnyH_all hr (by simp) fun k hk => ?_⟩
 rcases List.mem_cons.1 hk with rfl | hk
 ·refine wpOp_mono ?_ (Di hi h)
  rintro a w ⟨f',rfl,hS,hA⟩
  exact ⟨hS,hA.out⟩
 ·rw [List.mem_singleton.1 hk]
  refine wpOp_mono ?_ (Di hj h')
  rintro a w ⟨f',rfl,hS,hA⟩
  exact ⟨hS,hA.out⟩
end
def Lv (P : Program) (fn : Func) (tmps : Array Value) (R : Ending → World → Prop) : List Deferred → World → Prop
 | [],W => ∃ v,(results fn tmps).run P W = .ok v W ∧ R (.returned v) W
 | d :: ds,W => ∃ r,d = { target := .collected r,args := #[] } ∧ W.heap[r]? = some (.deferred (some [])) ∧ Lv P fn tmps R ds (W.putObj r (.deferred none))
structure RT (P : Program) (fn : Func) (R : Ending → World → Prop) (f : Fm n) (W : World) : Prop where
 out : Lv P fn f.toL.toArray R f.ds W
def bp (P : Program) (fn : Func) (R : Ending → World → Prop) : Bd n
 | .normal,f,W => RT P fn R f W
 | .ret,f,W => RT P fn R f W
 | _,_,_ => False
theorem Ja {fn : Func} {tmps : Array Value} {R : Ending → World → Prop} : ∀ (ds : List Deferred) (W : World),Lv P fn tmps R ds W → LeavesInM Fence.wide 0 P fn tmps R ds .returning W
 | [],W,h => h
 | d :: ds,W,h => by
  obtain ⟨r,rfl,h1,h2⟩ := h
  exact ⟨by simp,.inl ⟨r,_,rfl,run_takeDeferred h1,Ja ds _ h2⟩⟩
theorem enter (n : Nat) {k : FuncId} {fn : Func} {body : Code} {w : World} {R : Ending → World → Prop} (hf : P.funcs[k]? = some fn) (hb : fn.body = some body) (hn : fn.ntmps = n) (args : List Value) (hl : args.length ≤ n)
  (h : wpc P body (bp P fn R) (Fm.base (args ++ List.replicate (n - args.length) undef) (by simp; omega) [] : Fm n) w) : Calls P k args.toArray w R := by
 refine (callsIn_wide (n := 0)).1 (callsIn_of_wp_marks hf hb trivial (wpIn_wide.2 ?_))
 have e : ({ tmps := args.toArray ++ Array.replicate (fn.ntmps - args.toArray.size) undef,defers := [] } : Act) = act (Fm.base (args ++ List.replicate (n - args.length) undef) (by simp; omega) [] : Fm n) := by
  simp [act,toL,ds,hn]
 rw [e]
 refine Code.wp_mono ?_ (CZ body h)
 rintro e x W ⟨g,rfl,hq⟩
 cases e with
 | normal => exact Ja _ _ (RT.out hq)
 | ret => exact Ja _ _ (RT.out hq)
 | _ => exact hq.elim
variable {fn : Func} {R : Ending → World → Prop}
theorem rtv {v : Value} (hd : f.ds = []) (hv : (results fn f.toL.toArray).run P W = .ok v W) (h : R (.returned v) W) : RT P fn R f W := ⟨by rw [hd]; exact ⟨v,hv,h⟩⟩
theorem rt1 {t : Tmp} {v : Value} (hr : fn.results = #[.tmp t]) (hv : gt f t = v) (h : R (.returned v) W) (hd : f.ds = [] := by rfl) : RT P fn R f W := rtv hd (by rw [results_tmp hr]; have := B5 f t; rw [hv] at this; simp only [this]; simp [gD]) h
theorem rt2 {t u : Tmp} {v1 v2 : Value} (hr : fn.results = #[.tmp t,.tmp u]) (hv : gt f t = v1) (hu : gt f u = v2) (h : R (.returned (.tuple #[v1,v2])) W) (hd : f.ds = [] := by rfl) : RT P fn R f W := rtv hd (by
 rw [results_tmp2 hr]
 have h1 := B5 f t; rw [hv] at h1
 have h2 := B5 f u; rw [hu] at h2
 rw [h1,h2]; simp [gD]) h
theorem rt0 (hr : fn.results = #[]) (h : R (.returned (.tuple #[])) W) (hd : f.ds = [] := by rfl) : RT P fn R f W := rtv hd (results_none hr _ _ _) h
end
end
end Go.Proofs.YtmjllchdhcdinaaGreatDoor

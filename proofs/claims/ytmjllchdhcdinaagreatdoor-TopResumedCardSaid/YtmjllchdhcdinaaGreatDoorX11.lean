/- Part of the proof: H. -/
import Derived.Test.YtmjllchdhcdinaaGreatDoorX10
import Derived.MapKept
set_option linter.unusedVariables false
set_option linter.unusedSimpArgs false
set_option maxRecDepth 100000
set_option maxHeartbeats 8000000
namespace Go.Proofs.YtmjllchdhcdinaaGreatDoor
section
open Go Fm Go.RowKit Go.Proofs.YtmjllchdhcdinaaGreatDoorW.PrintWords
def MapIs (W : World) (r : Nat) (ks : List (ByteArray × Value)) : Prop := ∃ es clock,W.heap[r]? = some (.map es clock) ∧ es.toList.map (fun e => (e.key,e.val)) = ks.map (fun p => (Value.string p.1,p.2))
theorem MapIs.lt {W : World} {r : Nat} {ks : List (ByteArray × Value)} (h : MapIs W r ks) : r < W.heap.size := by
 obtain ⟨es,clock,hb,_⟩ := h
 exact (Array.getElem?_eq_some_iff.1 hb).1
theorem MapIs.same {W W1 : World} {r : Nat} {ks : List (ByteArray × Value)} (h : MapIs W r ks) (e : W1.heap[r]? = W.heap[r]?) : MapIs W1 r ks := by
 obtain ⟨es,clock,hb,hk⟩ := h
 exact ⟨es,clock,e.trans hb,hk⟩
theorem MapIs.below {W W1 : World} {r : Nat} {ks : List (ByteArray × Value)} (h : MapIs W r ks) (hb : Below W.heap.size W W1) : MapIs W1 r ks := h.same (hb.block r h.lt)
theorem MapIs.grown {W W1 : World} {r : Nat} {o : Option Nat} {ks : List (ByteArray × Value)} (h : MapIs W r ks) (hg : W.grownBy W1 o) (hne : some r ≠ o) : MapIs W1 r ks := h.same (hg.block r h.lt hne)
theorem MapIs.ne {W : World} {r p t : Nat} {cs : Array Value} {ks : List (ByteArray × Value)} (h : MapIs W r ks) (hp : W.heap[p]? = some (.cells cs t (0,0))) : r ≠ p := by
 obtain ⟨es,clock,hb,_⟩ := h
 rintro rfl
 rw [hb] at hp
 cases hp
theorem MapIs.cells {W W1 : World} {r p t : Nat} {cs : Array Value} {ks : List (ByteArray × Value)} (h : MapIs W r ks) (hg : W.grownBy W1 (some r)) (hp : W.heap[p]? = some (.cells cs t (0,0))) : W1.heap[p]? = some (.cells cs t (0,0)) :=
 (hg.block p (Am hp) (fun e => h.ne hp (by injection e with e; exact e.symm))).trans hp
theorem MapIs.keep {W W1 : World} {r p t : Nat} {cs : Array Value} {ks : List (ByteArray × Value)} (h : MapIs W r ks) (hg : W.grownBy W1 (some p)) (hp : W.heap[p]? = some (.cells cs t (0,0))) : MapIs W1 r ks :=
 h.grown hg (fun e => h.ne hp (by injection e))
theorem MapIs.row {α : Type} {d : Kd α} {e base : Nat} {ok : Nat → Prop} {W W1 : World} {v : Value} {xs : List α} {r : Nat} {ks : List (ByteArray × Value)} (h : MapIs W r ks) (hg : W.grownBy W1 (some r)) (hr : d.R e W base ok v xs) : d.R e W1 base ok v xs := by
 refine Kd.R_mono (Kd.R_move (Kd.R_bound hr) (fun k hk => hg.block k hk.2.2.1 (fun he => ?_))) (fun _ hk => hk.1)
 obtain ⟨_,_,_,q,_,cells,hc⟩ := hk
 exact h.ne hc (by injection he with he; exact he.symm)
theorem MapIs.set {base s : Nat} {W W1 : World} {v : Value} {r : Nat} {ks : List (ByteArray × Value)} (h : MapIs W r ks) (hg : W.grownBy W1 (some r)) (hs : SetB W base v s) : SetB W1 base v s := by
 obtain ⟨A,n,c,rfl,hc,h' | ⟨h0,rfl,g,cs,rfl,hb,hh,h1⟩⟩ := hs
 ·exact ⟨A,n,c,rfl,hc,.inl h'⟩
 ·exact ⟨_,1,c,rfl,hc,.inr ⟨h0,rfl,g,cs,rfl,hb,h.cells hg hh,h1⟩⟩
section
variable {n : Nat} {P : Program} {ops : Array Oper} {rest : List Oper} {Q : Bd n} {W : World} {f : Fm n} {d ty t kt et : Nat} {x y z : Operand} {pos : String} {aft : Array Edge} {r : Nat} {ks : List (ByteArray × Value)} {s : ByteArray} {v : Value}
def BK (ks : List (ByteArray × Value)) (s : ByteArray) : Option Value := (ks.find? fun p => p.1 == s).map (·.2)
theorem EN (s : ByteArray) : ∀ (es : List MapEntry) (ks : List (ByteArray × Value)) (i : Nat),es.map (fun e => (e.key,e.val)) = ks.map (fun p => (Value.string p.1,p.2)) →
  ∃ a,Instr.findNow .string (.string s) es i = some a ∧ a.map (·.2) = BK ks s
 | [],ks,i,h => by
  have : ks = [] := by cases ks with
   | nil => rfl
   | cons _ _ => cases h
  subst this
  exact ⟨none,rfl,rfl⟩
 | e :: es,[],i,h => by cases h
 | e :: es,p :: ks,i,h => by
  simp only [List.map_cons,List.cons.injEq,Prod.mk.injEq] at h
  obtain ⟨⟨hk,hv⟩,hr⟩ := h
  obtain ⟨r,hr',hiff⟩ := MapKept.sameNow_of_keys (d := .string) (a := .string s) (b := .string p.1) trivial trivial
  unfold Instr.findNow
  rw [hk,hr']
  cases r with
  | true =>
   have := hiff.1 rfl
   injection this with this
   subst this
   refine ⟨some (i,e.val),rfl,?_⟩
   simp [BK,hv,(MapKept.bytes_beq p.1 p.1).2 rfl]
  | false =>
   have hne : (p.1 == s) = false := by
    cases h : p.1 == s with
    | false => rfl
    | true => rw [MapKept.bytes_beq] at h; subst h; exact absurd (hiff.2 rfl) (by simp)
   obtain ⟨a,h1,h2⟩ := EN s es ks (i + 1) hr
   refine ⟨a,h1,?_⟩
   rw [h2]
   simp [BK,List.find?_cons,hne]
theorem Kh (h : ∀ w1,MapIs w1 W.heap.size [] → Below W.heap.size W w1 → RL P ops Q rest (up f d (.map (some W.heap.size))) w1) : LS P ops Q ⟨some d,.makeMap t none,ty,pos,aft,none⟩ rest f W := by
 refine BH (w1 := W.alloc (.map #[] 0)) G (h _ ⟨#[],0,World.alloc_heap_new W _,rfl⟩ (AP (Below.refl _ _) _))
theorem It (hk : P.underlying kt = some .string) (ht : P.underlying t = some (.map kt et)) (hm : MapIs W r ks) {z : Value} (hz : (zeroValue et).run P W = .ok z W) (c : Bool) :
  (Instr.lookup t (.map (some r)) (.string s) c).run P W = .ok (if c = true then .tuple #[(BK ks s).getD z,.bool (BK ks s).isSome] else (BK ks s).getD z) W := by
 obtain ⟨es,clock,hb,hks⟩ := hm
 obtain ⟨a,h1,h2⟩ := EN s es.toList ks 0 hks
 have hc := MapKept.run_checkKey (P := P) (w := W) (k := .string s) hk trivial es.isEmpty 9999
 have hf := MapKept.run_findKey (P := P) (w := W) hk h1
 unfold Instr.lookup
 simp only [Sem.run_bind,run_underlying ht,Result.andThen_ok,MapKept.run_getObj_map hb,hc,hf,Sem.run_pure]
 rw [← h2]
 cases a with
 | none => cases c <;> simp [hz,Sem.run_bind,Result.andThen_ok,Sem.run_pure]
 | some p => cases c <;> simp [Sem.run_pure,Result.andThen_ok,Sem.run_bind]
theorem olk {z : Value} (hk : P.underlying kt = some .string) (ht : P.underlying t = some (.map kt et)) (hx : ex f x = .map (some r)) (hy : ex f y = .string s) (hm : MapIs W r ks) (hz : (zeroValue et).run P W = .ok z W)
  (h : RL P ops Q rest (up f d (.tuple #[(BK ks s).getD z,.bool (BK ks s).isSome])) W) : LS P ops Q ⟨some d,.lookup t x y true,ty,pos,aft,none⟩ rest f W := by
 refine BH (w1 := W) ?_ h
 have := It (P := P) (s := s) hk ht hm hz true
 unfold Ru
 simp only [execOp,hx,hy,Sem.run_bind,this,Result.andThen_ok,Sem.run_pure,if_true]
theorem olk1 {z : Value} (hk : P.underlying kt = some .string) (ht : P.underlying t = some (.map kt et)) (hx : ex f x = .map (some r)) (hy : ex f y = .string s) (hm : MapIs W r ks) (hz : (zeroValue et).run P W = .ok z W)
  (h : RL P ops Q rest (up f d ((BK ks s).getD z)) W) : LS P ops Q ⟨some d,.lookup t x y false,ty,pos,aft,none⟩ rest f W := by
 refine BH (w1 := W) ?_ h
 have := It (P := P) (s := s) hk ht hm hz false
 unfold Ru
 simp only [execOp,hx,hy,Sem.run_bind,this,Result.andThen_ok,Sem.run_pure,if_false,Bool.false_eq_true]
theorem Jw (hk : P.underlying kt = some .string) (ht : P.underlying t = some (.map kt et)) (hm : MapIs W r ks) (hn : BK ks s = none) :
  ∃ w1,(Instr.mapUpdate t (.map (some r)) (.string s) v).run P W = .ok () w1 ∧ MapIs w1 r (ks ++ [(s,v)]) ∧ W.grownBy w1 (some r) := by
 obtain ⟨es,clock,hb,hks⟩ := hm
 obtain ⟨a,h1,h2⟩ := EN s es.toList ks 0 hks
 have ha : a = none := by rw [hn] at h2; cases a with
  | none => rfl
  | some _ => cases h2
 subst ha
 have hc := MapKept.run_checkKey (P := P) (w := W) (k := .string s) hk trivial false 9999
 have hf := MapKept.run_findKey (P := P) (w := W) hk h1
 refine ⟨W.putObj r (.map (es.push { key := .string s,val := v,born := clock }) (clock + 1)),?_,?_,grownBy_putObj' W r _⟩
 ·unfold Instr.mapUpdate
  simp only [Sem.run_bind,run_underlying ht,Result.andThen_ok,MapKept.run_getObj_map hb,hc,hf]
  exact MapKept.run_setObj_map _ hb
 ·refine ⟨_,_,World.putObj_heap_same (Array.getElem?_eq_some_iff.1 hb).1,?_⟩
  simp [hks]
theorem opm (hk : P.underlying kt = some .string) (ht : P.underlying t = some (.map kt et)) (hx : ex f x = .map (some r)) (hy : ex f y = .string s) (hz : ex f z = v) (hm : MapIs W r ks) (hn : BK ks s = none)
  (h : ∀ w1,MapIs w1 r (ks ++ [(s,v)]) → W.grownBy w1 (some r) → RL P ops Q rest f w1) : LS P ops Q ⟨none,.mapUpdate t x y z,ty,pos,aft,none⟩ rest f W := by
 obtain ⟨w1,h1,h2,h3⟩ := Jw (P := P) (v := v) hk ht hm hn
 refine HV (w1 := w1) ?_ (h w1 h2 h3)
 unfold Ru
 simp only [execOp,hx,hy,hz,Sem.run_bind,h1,Result.andThen_ok,Sem.run_pure]
theorem opi (hk : P.underlying kt = some .string) (ht : P.underlying t = some (.map kt et)) (hx : ex f x = .map (some r)) (hy : ex f y = .string s) (hz : ex f z = v) (hm : MapIs W r ks) (hn : BK ks s = none)
  (h : ∀ w1,MapIs w1 r (ks ++ [(s,v)]) → W.grownBy w1 (some r) → RL P ops Q rest f w1) : LS P ops Q ⟨none,.insert t x y z,ty,pos,aft,none⟩ rest f W := by
 obtain ⟨w1,h1,h2,h3⟩ := Jw (P := P) (v := v) hk ht hm hn
 refine HV (w1 := w1) ?_ (h w1 h2 h3)
 unfold Ru
 simp only [execOp,hx,hy,hz,Sem.run_bind,h1,Result.andThen_ok,Sem.run_pure]
theorem Kz (ht : P.underlying t = some (.map kt et)) (hx : ex f x = .map (some r)) (hm : MapIs W r ks) (h : RL P ops Q rest (up f d (.int .i64 ks.length)) W) : LS P ops Q ⟨some d,.call { callee := .builtin .len,args := #[x],argTypes := #[t] },ty,pos,aft,none⟩ rest f W := by
 obtain ⟨es,clock,hb,hks⟩ := hm
 have hl : es.size = ks.length := by have := congrArg List.length hks; simpa using this
 refine BH (w1 := W) ?_ h
 have e : (Builtin.len_ #[t] ty #[.map (some r)]).run P W = .ok (.int .i64 ks.length) W := by
  unfold Builtin.len_
  simp [run_underlying ht,MapKept.run_getObj_map hb,hl,Result.andThen_ok,goInt]
 simp [Ru,hx,go_sem,e]
end
end
end Go.Proofs.YtmjllchdhcdinaaGreatDoor

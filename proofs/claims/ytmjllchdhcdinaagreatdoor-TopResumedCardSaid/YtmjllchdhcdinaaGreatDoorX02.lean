/- Part of the proof: M. -/
import Derived.Test.YtmjllchdhcdinaaGreatDoorX01
import Derived.Laws.Small
import Derived.Laws.StructEq
import Derived.Lib.SliceRun
set_option linter.unusedVariables false
set_option linter.unusedSimpArgs false
set_option maxRecDepth 100000
set_option maxHeartbeats 8000000
namespace Go.Proofs.YtmjllchdhcdinaaGreatDoor
section
open Go Fm Go.RowKit Go.Proofs.YtmjllchdhcdinaaGreatDoorW.PrintWords
theorem grown_set (W : World) (g i : Nat) (v : Value) : W.grownBy (W.setCell ⟨g,i,none⟩ v) (some g) :=
 ⟨rfl,rfl,rfl,by simp [World.setCell],fun k _ hne => Below.heap_setCell W _ v k (fun e => hne (by rw [e]))⟩
section
variable {n : Nat} {P : Program} {ops : Array Oper} {rest : List Oper} {Q : Bd n} {W : World} {f : Fm n} {d : Tmp} {ty t e : TypeId} {x y : Operand} {pos : String} {aft : Array Edge} {α : Type}
theorem H2 (f : Fm n) (x : Operand) (v : Value) (h : ex f x = v) : (act f).eval x = v := by rw [Ba]; exact h
theorem Iu {w : World} {p : Addr} {v : Value} (hag : (isAgg t).run P w = .ok false w) (hc : w.cell? p = some v) : (loadVar t p).run P w = .ok v w := by
 unfold loadVar
 simp [hag,hc,go_sem]
theorem Ai {p : Addr} {v : Value} (hag : ∀ w,(isAgg t).run P w = .ok false w) (ha : ex f x = .pointer (some p)) (hc : W.cell? p = some v) : Ru P (.load t x) ty f W = .ok (.value v) W := by
 show (do pure (Next.value (← Instr.loadAt t (ex f x))) : Sem Next).run P W = _
 rw [ha]
 unfold Instr.loadAt
 simp [Instr.sureAddr,hag W,hc,go_sem]
theorem old {p : Addr} {v : Value} (hag : ∀ w,(isAgg t).run P w = .ok false w) (ha : ex f x = .pointer (some p)) (hc : W.cell? p = some v) (h : RL P ops Q rest (up f d v) W) : LS P ops Q ⟨some d,.load t x,ty,pos,aft,none⟩ rest f W := BH (Ai hag ha hc) h
theorem B9 (w : World) (a : Addr) : ∀ (vs : List Value) (i : Nat) (acc : Array Value),(∀ j v,vs[j]? = some v → w.cell? (a.add (i + j)) = some v) → (loadCellsFrom a i vs.length acc).run P w = .ok (acc ++ vs.toArray) w
 | [],i,acc,_ => by simp [loadCellsFrom,go_sem]
 | v :: vs,i,acc,h => by
  have h0 : w.cell? (a.add i) = some v := h 0 v rfl
  have ih := B9 w a vs (i + 1) (acc.push v) (fun j u hj => by have := h (j + 1) u (by simpa using hj); rwa [show i + (j + 1) = i + 1 + j by omega] at this)
  simp only [List.length_cons,loadCellsFrom]
  simp [h0,ih,go_sem]
theorem Bs {p : Addr} {vs : List Value} (hag : ∀ w,(isAgg t).run P w = .ok true w) (hsz : ∀ w,(sizeOf t).run P w = .ok vs.length w) (ha : ex f x = .pointer (some p)) (hc : ∀ j v,vs[j]? = some v → W.cell? (p.add j) = some v) : Ru P (.load t x) ty f W = .ok (.value (.agg vs.toArray)) W := by
 show (do pure (Next.value (← Instr.loadAt t (ex f x))) : Sem Next).run P W = _
 rw [ha]
 have := B9 (P := P) W p vs 0 #[] (fun j v hj => by simpa using hc j v hj)
 unfold Instr.loadAt loadVar loadCells
 simp [Instr.sureAddr,hag,hsz,this,go_sem]
theorem AV {p : Addr} {vs : List Value} (hag : ∀ w,(isAgg t).run P w = .ok true w) (hsz : ∀ w,(sizeOf t).run P w = .ok vs.length w) (ha : ex f x = .pointer (some p)) (hc : ∀ j v,vs[j]? = some v → W.cell? (p.add j) = some v)
  (h : RL P ops Q rest (up f d (.agg vs.toArray)) W) : LS P ops Q ⟨some d,.load t x,ty,pos,aft,none⟩ rest f W := BH (Bs hag hsz ha hc) h
theorem ru_store {p : Addr} {u v : Value} (hsz : ∀ w,(sizeOf t).run P w = .ok 1 w) (ha : ex f x = .pointer (some p)) (hv : ex f y = v) (h1 : v.oneCell' = true) (hc : W.cell? p = some u) (hf : W.frozen? p = false) : Ru P (.store t x y) ty f W = .ok .skip (W.setCell p v) := by
 show (do (Instr.storeAt t (ex f x) (ex f y)); pure Next.skip : Sem Next).run P W = _
 rw [ha,hv]
 have hcs : v.cells = #[v] := by cases v <;> simp_all [Value.oneCell',Value.cells]
 have hs := run_store P W p v .plain h1
 unfold Instr.storeAt storeVar
 simp only [hcs,Instr.sureAddr]
 simp [storeCells,hsz,hs,hc,hf,go_sem]
theorem ost {p : Addr} {u v : Value} (hsz : ∀ w,(sizeOf t).run P w = .ok 1 w) (ha : ex f x = .pointer (some p)) (hv : ex f y = v) (h1 : v.oneCell' = true) (hc : W.cell? p = some u) (hf : W.frozen? p = false)
  (h : RL P ops Q rest f (W.setCell p v)) : LS P ops Q ⟨none,.store t x y,ty,pos,aft,none⟩ rest f W := HV (ru_store hsz ha hv h1 hc hf) h
theorem Bc {g i : Nat} {tt : TypeId} {cs : List Value} {v : Value} (hsz : ∀ w,(sizeOf t).run P w = .ok 1 w) (ha : ex f x = .pointer (some ⟨g,i,none⟩)) (hv : ex f y = v) (h1 : v.oneCell' = true) (hb : W.heap[g]? = some (.cells cs.toArray tt (0,0))) (hi : i < cs.length)
  (h : ∀ w1,w1.heap[g]? = some (.cells (cs.set i v).toArray tt (0,0)) → W.grownBy w1 (some g) → RL P ops Q rest f w1) : LS P ops Q ⟨none,.store t x y,ty,pos,aft,none⟩ rest f W := by
 have hc : W.cell? ⟨g,i,none⟩ = some cs[i] := by rw [Ac hb]; simp [hi]
 refine ost hsz ha hv h1 hc (EP hb i) (h _ ?_ ?_)
 ·have := JY hb i v
  simpa using this
 ·exact grown_set W g i v
theorem obx {v : Value} {cs : List Value} (hv : ex f x = v) (hcs : v.cells = cs.toArray)
  (h : ∀ g w1,g = W.heap.size → w1.heap[g]? = some (.cells cs.toArray t (0,0)) → Below W.heap.size W w1 → RL P ops Q rest (up f d (.pointer (some ⟨g,0,none⟩))) w1) : LS P ops Q ⟨some d,.box t x,ty,pos,aft,none⟩ rest f W := by
 refine BH (v := .pointer (some ⟨W.heap.size,0,none⟩)) (w1 := W.alloc (.cells cs.toArray t)) ?_ (h _ _ G (JZ W _) (AP (Below.refl _ _) _))
 show (do pure (Next.value (← Instr.box t (ex f x))) : Sem Next).run P W = _
 rw [hv]
 unfold Instr.box newVar newRow
 simp only [hcs]
 simp [go_sem]
theorem oal {v : Value} {cs : List Value} (hz : ∀ w,(zeroValue t).run P w = .ok v w) (hcs : v.cells = cs.toArray)
  (h : ∀ g w1,g = W.heap.size → w1.heap[g]? = some (.cells cs.toArray t (0,0)) → Below W.heap.size W w1 → RL P ops Q rest (up f d (.pointer (some ⟨g,0,none⟩))) w1) : LS P ops Q ⟨some d,.alloc t,ty,pos,aft,none⟩ rest f W := by
 refine BH (v := .pointer (some ⟨W.heap.size,0,none⟩)) (w1 := W.alloc (.cells cs.toArray t)) ?_ (h _ _ G (JZ W _) (AP (Below.refl _ _) _))
 show (do pure (Next.value (← Instr.alloc t true (.tuple #[]))) : Sem Next).run P W = _
 have hz' := hz W
 unfold Instr.alloc newVar newRow
 simp [hz',go_sem]
 show W.alloc (.cells v.cells t) = _
 rw [hcs]
theorem HW {o : Oper} (h : wpList P ops (Cd Q) (o :: rest) (act f) W) : LS P ops Q o rest f W := ⟨h⟩
theorem Ej {v : Value} {W : World} (h : RL P ops Q rest (up f d v) W) : wpList P ops (Cd Q) rest ((act f).put (some d) v) W := by rw [Cc]; exact h.out
theorem omk (k : Kd α) (ht : P.underlying t = some (.slice e)) {z : Value} {bytes : Nat} (hinfo : (P.info? e).map (fun i => (i.zero,i.size,i.bytes)) = some (some z,k.sz,bytes))
  {n : Nat} (hx : ex f x = .int .i64 (n : Nat)) (hy : ex f y = .int .i64 (n : Nat)) (z0 : α) (hzero : ∀ b,k.M W b (fun _ => True) z0 z.cells.toList) (hl : n * bytes ≤ 281474976710656)
  (hz : z.cells.size = k.sz) (hs0 : 0 < k.sz) (hb0 : 0 < bytes)
  (h : ∀ A c w1,k.R e w1 W.heap.size (fun _ => True) (.slice A n c) (List.replicate n z0) → Below W.heap.size W w1 → RL P ops Q rest (up f d (.slice A n c)) w1) :
  LS P ops Q ⟨some d,.makeSlice t x y,ty,pos,aft,none⟩ rest f W := by
 refine HW (Kd.R_make k (w0 := W) W.heap.size e G G t x y G n (H2 _ _ _ hx) (H2 _ _ _ hy) ht z bytes hinfo hz hs0 hb0 z0 (ok := fun _ => True) (okp := fun _ => True) (hzero _) (fun _ _ => trivial) trivial (by omega) (by simpa using hl) (Below.refl _ _) (Nat.le_refl _) ?_)
 intro v1 w1 hr hb hg _
 obtain ⟨A,c,rfl⟩ := Kd.R_slice hr
 simp only [Int.toNat_natCast,List.length_replicate] at hr ⊢
 exact Ej (h A c w1 hr hb)
theorem CG {enc : α → Value} {h1 : ∀ x,(enc x).oneCell' = true} {g n cap base : Nat} {ok : Nat → Prop} {xs : List α} {k : Nat} {z : α} (hsz : ∀ w,(sizeOf t).run P w = .ok 1 w)
  (HO : (Kd.scalar enc h1).R e W base ok (.slice (some ⟨g,0,none⟩) n cap) xs) (hk : k < n) (ha : ex f x = .pointer (some (Addr.add ⟨g,0,none⟩ (k * 1)))) (hv : ex f y = enc z)
  (h : ∀ w1,(Kd.scalar enc h1).R e w1 base ok (.slice (some ⟨g,0,none⟩) n cap) (xs.set k z) → W.grownBy w1 (some g) → RL P ops Q rest f w1) : LS P ops Q ⟨none,.store t x y,ty,pos,aft,none⟩ rest f W := by
 obtain ⟨hc,hf⟩ := Kd.R_celln z HO (k : Int) (by omega) (by omega)
 obtain ⟨h2,h3⟩ := Kd.R_putg HO (k : Int) z
 simp only [Int.toNat_natCast] at hc hf h2 h3
 rw [Nat.mul_one,add_plain] at ha
 exact ost hsz ha hv (h1 z) hc hf (h _ h2 h3)
theorem ru_lit0 {z : Value} {sz bytes : Nat} (ht : P.underlying t = some (.slice e)) (hinfo : (P.info? e).map (fun i => (i.zero,i.size,i.bytes)) = some (some z,sz,bytes)) : Ru P (.buildSlice t 0 #[]) ty f W = .ok (.value (.slice (some ⟨W.heap.size,0,none⟩) 0 0)) (W.alloc (.cells #[] e)) := by
 obtain ⟨i0,hi,hzz⟩ := Option.map_eq_some_iff.1 hinfo
 simp [Ru,execOp,Instr.buildSlice,Instr.fill,newRow,run_underlying ht,hi,sizeOf,typeInfo,go_sem]
theorem Hr (k : Kd α) {z : Value} {sz bytes : Nat} (ht : P.underlying t = some (.slice e)) (hinfo : (P.info? e).map (fun i => (i.zero,i.size,i.bytes)) = some (some z,sz,bytes))
  (h : ∀ A c w1,k.R e w1 W.heap.size (fun _ => True) (.slice A 0 c) ([] : List α) → Below W.heap.size W w1 → RL P ops Q rest (up f d (.slice A 0 c)) w1) : LS P ops Q ⟨some d,.buildSlice t 0 #[],ty,pos,aft,none⟩ rest f W := by
 refine HW (Kd.R_lit k (w0 := W) W.heap.size e G G (xs := ([] : List α)) (inner := []) (ok := fun _ => True) (okp := fun _ => True) ?_ (Reps.none _ _) (fun _ _ => trivial) trivial (Below.refl _ _) (Nat.le_refl _) (by simp) ?_)
 ·rw [Ba,Ce]; exact ru_lit0 ht hinfo
 ·intro v1 w1 hr hb _ _
  obtain ⟨A,c,rfl⟩ := Kd.R_slice hr
  exact Ej (h A c w1 hr hb)
theorem AJ {z u : Value} {bytes : Nat} (ht : P.underlying t = some (.slice e)) (hinfo : (P.info? e).map (fun i => (i.zero,i.size,i.bytes)) = some (some z,1,bytes)) (hx : ex f x = u) (hu : u.oneCell' = true) :
  Ru P (.buildSlice t 1 #[(0,x)]) ty f W = .ok (.value (.slice (some ⟨W.heap.size,0,none⟩) 1 1)) (W.alloc (.cells #[u] e)) := by
 obtain ⟨i0,hi,hzz⟩ := Option.map_eq_some_iff.1 hinfo
 simp only [Prod.mk.injEq] at hzz
 obtain ⟨h0,h1,h2⟩ := hzz
 have hcs : u.cells = #[u] := by cases u <;> simp_all [Value.oneCell',Value.cells]
 have hrun : (Instr.buildSlice t 1 #[(0,u)]).run P W = .ok (.slice (some ⟨W.heap.size,0,none⟩) 1 1) (W.alloc (.cells #[u] e)) := by
  unfold Instr.buildSlice
  simp only [Instr.fill,hcs]
  simp [newRow,run_underlying ht,hi,sizeOf,typeInfo,zeroValue,h0,h1,go_sem]
 show (do pure (Next.value (← Instr.buildSlice t 1 (#[(0,x)].map fun (i,x) => (i,ex f x)))) : Sem Next).run P W = _
 rw [show (#[(0,x)].map fun (i,x) => (i,ex f x)) = #[(0,u)] by simp [hx]]
 generalize Instr.buildSlice t 1 #[(0,u)] = S at hrun ⊢
 simp [hrun,go_sem]
theorem EJ (k : Kd α) {d2 ty2 : Nat} {s : Operand} {pos2 : String} {aft2 : Array Edge} {base : Nat} {ok okp : Nat → Prop} {A : Option Addr} {c m : Nat} {xs : List α} {p : α} {cs : List Value} {z : Value} {bytes : Nat}
  (ht : P.underlying t = some (.slice e)) (hinfo : (P.info? e).map (fun i => (i.zero,i.size,i.bytes)) = some (some z,k.sz,bytes)) (hz : z.cells.size = k.sz) (hs0 : 0 < k.sz) (hb0 : 0 < bytes)
  (hs : ex f s = .slice A m c) (hne : s ≠ .tmp d) (hd : Nat.blt d n = true)
  (hrun : Ru P (.buildSlice t 1 #[(0,x)]) ty f W = .ok (.value (.slice (some ⟨W.heap.size,0,none⟩) 1 1)) (W.alloc (.cells cs.toArray e)))
  (HO : k.R e W base ok (.slice A m c) xs) (hp : k.M W base okp p cs) (hokp : ∀ i,okp i → ok i ∧ some i ≠ (Value.slice A m c).ownBlock) (hfresh : ∀ i,W.heap.size ≤ i → ok i) (hbase : base ≤ W.heap.size) (hl : (xs.length + 1) * bytes ≤ 140737488355328)
  (h : ∀ A' c' w1,k.R e w1 base ok (.slice A' (xs ++ [p]).length c') (xs ++ [p]) → W.grownBy w1 (Value.slice A m c).ownBlock → RL P ops Q rest (up (up f d (.slice (some ⟨W.heap.size,0,none⟩) 1 1)) d2 (.slice A' (xs ++ [p]).length c')) w1) :
  LS P ops Q ⟨some d,.buildSlice t 1 #[(0,x)],ty,pos,aft,none⟩ (⟨some d2,.call { callee := .builtin .append,args := #[s,.tmp d],argTypes := #[t,t] },ty2,pos2,aft2,none⟩ :: rest) f W := by
 refine BH hrun<|HW (Kd.R_append k (w0 := W) base G s (.tmp d) t e z bytes G ht hinfo hz hs0 hb0 (.slice A m c) xs p cs ok okp ?_ ?_ hp hokp hfresh HO (Below.refl _ _) hbase hl ?_)
 ·rw [Ba]
  cases s with
  | tmp j =>
   have hj : Nat.beq d j = false := by
    cases e : Nat.beq d j with
    | false => rfl
    | true => exact absurd (congrArg Operand.tmp (Nat.eq_of_beq_eq_true e)).symm hne
   simp only [ex,gt,hj,cond_false]
   exact hs
  | _ => exact hs
 ·rw [Ba]
  have hj : Nat.beq d d = true := Nat.beq_refl d
  simp only [ex,gt,hj,hd,cond_true]
 ·intro v1 w1 hr hb hg hat
  obtain ⟨A',c',rfl⟩ := Kd.R_slice hr
  exact Ej (h A' c' w1 hr hg)
theorem BW (k : Kd α) {Rr : α → List Value → Prop} {s : Operand} {base : Nat} {ok okp : Nat → Prop} {A B : Option Addr} {c m p q : Nat} {xs ys : List α} {z : Value} {bytes : Nat}
  (ht : P.underlying t = some (.slice e)) (hinfo : (P.info? e).map (fun i => (i.zero,i.size,i.bytes)) = some (some z,k.sz,bytes)) (hz : z.cells.size = k.sz) (hs0 : 0 < k.sz) (hb0 : 0 < bytes)
  (hs : ex f s = .slice A m c) (hx : ex f x = .slice B p q) (HO : k.R e W base ok (.slice A m c) xs) (HR : ReadsRow Rr k.sz W B p ys) (hKM : ∀ x cs,Rr x cs → k.M W base okp x cs) (hokp : ∀ i,okp i → ok i ∧ some i ≠ (Value.slice A m c).ownBlock) (hfresh : ∀ i,W.heap.size ≤ i → ok i) (hbase : base ≤ W.heap.size) (hl : (xs.length + p) * bytes ≤ 140737488355328)
  (h : ∀ A' c' w1,k.R e w1 base ok (.slice A' (xs ++ ys).length c') (xs ++ ys) → W.grownBy w1 (Value.slice A m c).ownBlock → RL P ops Q rest (up f d (.slice A' (xs ++ ys).length c')) w1) :
  LS P ops Q ⟨some d,.call { callee := .builtin .append,args := #[s,x],argTypes := #[t,t] },ty,pos,aft,none⟩ rest f W := by
 refine HW (Kd.R_append_rows k (w0 := W) base G s x t e z bytes G ht hinfo hz hs0 hb0 (.slice A m c) xs ys B p q ok okp (H2 _ _ _ hs) (H2 _ _ _ hx) HO HR hKM hokp hfresh (Below.refl _ _) hbase hl ?_)
 intro v1 w1 hr hb hg hat
 obtain ⟨A',c',rfl⟩ := Kd.R_slice hr
 exact Ej (h A' c' w1 hr hg)
theorem obq {a b : Bool} {t' : TypeId} (ht : P.underlying t = some .bool) (hx : ex f x = .bool a) (hy : ex f y = .bool b) (r : RL P ops Q rest (up f d (.bool (a == b))) W) : LS P ops Q ⟨some d,.binOp .eql t x y t',ty,pos,aft,none⟩ rest f W := Bq (fun W => by
 simp [Ru,execOp,hx,hy,go_sem,run_eql_bool W t a b ht]) r
theorem obn {a b : Bool} {t' : TypeId} (ht : P.underlying t = some .bool) (hx : ex f x = .bool a) (hy : ex f y = .bool b) (r : RL P ops Q rest (up f d (.bool (a != b))) W) : LS P ops Q ⟨some d,.binOp .neq t x y t',ty,pos,aft,none⟩ rest f W := Bq (fun W => by
 simp [Ru,execOp,hx,hy,go_sem,run_neq_bool W t a b ht,bne]) r
theorem oen {A : Option Addr} {i j : Nat} {t' : TypeId} (ht : P.underlying t = some (.slice e)) (hx : ex f x = .slice A i j) (r : RL P ops Q rest (up f d (.bool A.isNone)) W) : LS P ops Q ⟨some d,.binOp .eql t x (.const (.slice none 0 0)) t',ty,pos,aft,none⟩ rest f W := Bq (fun W => by
 have hn : ex f (.const (.slice none 0 0)) = .slice none 0 0 := rfl
 simp [Ru,execOp,hx,hn,go_sem,Lib.run_eql_slice_nil W t e A i j 0 0 ht]) r
end
section
variable {α : Type} {enc : α → Value} {h1 : ∀ x,(enc x).oneCell' = true} {w : World}
theorem DG {β : Type} {d : Kd β} {A : Option Addr} {n : Nat} {xs : List β} (h : d.C w A n xs) {k : Nat} {x : β} (hx : xs[k]? = some x) : ∃ ad c,A = some ad ∧ c.length = d.sz ∧ d.K w x c ∧ ∀ j u,c[j]? = some u → w.cell? (ad.add (k * d.sz + j)) = some u := by
 have hn := Kd.C_len h
 have hk : k < n := by rw [← hn]; exact (List.getElem?_eq_some_iff.1 hx).1
 obtain ⟨ad,c,e,hc,hK,hcell⟩ := Kd.C_get h x (k : Int) (by omega) (by omega)
 rw [Int.toNat_natCast,gD,hx] at hK
 exact ⟨ad,c,e,hc,hK,by simpa using hcell⟩
theorem Au {A : Option Addr} {n : Nat} {xs : List α} (h : (Kd.scalar enc h1).C w A n xs) {k : Nat} {x : α} (hx : xs[k]? = some x) : ∃ ad,A = some ad ∧ w.cell? (ad.add (k * 1)) = some (enc x) := by
 obtain ⟨ad,c,e,_,hK,hcell⟩ := DG h hx
 have hK' : c = [enc x] := hK
 subst hK'
 exact ⟨ad,e,hcell 0 _ rfl⟩
end
end
end Go.Proofs.YtmjllchdhcdinaaGreatDoor

/- Part of the proof: P5 P6 P7 P8 C1 C2. -/
import Derived.Test.YtmjllchdhcdinaaGreatDoorX07
import Derived.Great.FillDense
set_option linter.unusedVariables false
set_option linter.unusedSimpArgs false
set_option maxRecDepth 100000
set_option maxHeartbeats 8000000
namespace Go.Proofs.YtmjllchdhcdinaaGreatDoor
section
open Go Fm Go.RowKit Go.Proofs.YtmjllchdhcdinaaGreatDoorW.PrintWords
section
variable {n : Nat} {P : Program} {ops : Array Oper} {rest : List Oper} {Q : Bd n} {W : World} {f : Fm n} {d : Tmp} {ty t e : TypeId} {pos : String} {aft : Array Edge}
theorem run_litn {us : List Value} {z : Value} {sz bytes : Nat} (ht : P.underlying t = some (.slice e)) (hinfo : (P.info? e).map (fun i => (i.zero,i.size,i.bytes)) = some (some z,sz,bytes)) (hz : z.cells.size = sz) (hs0 : 0 < sz) (hu : ∀ u ∈ us,u.cells.size = sz) (hb : us.length * sz ≤ 16777216) :
  (Instr.buildSlice t us.length ((us.zipIdx 0).map fun x => (x.2,x.1)).toArray).run P W = .ok (.slice (some ⟨W.heap.size,0,none⟩) us.length us.length) (W.alloc (.cells (us.flatMap fun v => v.cells.toList).toArray e)) := by
 obtain ⟨i0,hi,hzz⟩ := Option.map_eq_some_iff.1 hinfo
 simp only [Prod.mk.injEq] at hzz
 obtain ⟨h0,h1,h2⟩ := hzz
 have hfill := Go.Great.fill_whole hs0 us ((Array.range (us.length * sz)).map (z.cells[· % z.cells.size]!)) hu (by simp)
 by_cases hne : us.length = 0
 ·have : us = [] := List.length_eq_zero_iff.1 hne
  subst this
  unfold Instr.buildSlice
  simp [newRow,run_underlying ht,hi,sizeOf,typeInfo,Instr.fill,go_sem]
 ·have hne' : us.length * sz ≠ 0 := fun e => by rcases Nat.mul_eq_zero.1 e with e | e <;> omega
  unfold Instr.buildSlice
  generalize ((us.zipIdx 0).map fun x => (x.2,x.1)) = parts at hfill ⊢
  simp [newRow,run_underlying ht,hi,sizeOf,typeInfo,zeroValue,h0,h1,Nat.not_lt.2 hb,go_sem]
  rw [if_neg hne']
  erw [hfill]
  rfl
theorem Cj {els : Array (Nat × Operand)} {m : Nat} {us : List Value} {cs : List Value} {z : Value} {sz bytes : Nat} (ht : P.underlying t = some (.slice e)) (hinfo : (P.info? e).map (fun i => (i.zero,i.size,i.bytes)) = some (some z,sz,bytes)) (hz : z.cells.size = sz) (hs0 : 0 < sz)
  (xs' : List Operand) (hels : els.toList = (xs'.zipIdx 0).map fun x => (x.2,x.1)) (hx : xs'.map (ex f) = us) (hm : us.length = m) (hu : ∀ u ∈ us,u.cells.size = sz) (hcs : (us.flatMap fun v => v.cells.toList) = cs) (hb : us.length * sz ≤ 16777216) :
  Ru P (.buildSlice t m els) ty f W = .ok (.value (.slice (some ⟨W.heap.size,0,none⟩) m m)) (W.alloc (.cells cs.toArray e)) := by
 subst hm hcs
 have hrun := run_litn (P := P) (W := W) ht hinfo hz hs0 hu hb
 have hmap : (els.map fun (x : Nat × Operand) => (x.1,ex f x.2)) = ((us.zipIdx 0).map fun x => (x.2,x.1)).toArray := by
  apply Array.toList_inj.1
  rw [Array.toList_map,hels,← hx,List.zipIdx_map]
  simp [List.map_map,Function.comp_def]
 show (do pure (Next.value (← Instr.buildSlice t us.length (els.map fun (x : Nat × Operand) => (x.1,ex f x.2)))) : Sem Next).run P W = _
 rw [hmap]
 generalize Instr.buildSlice t us.length _ = S at hrun ⊢
 simp [hrun,go_sem]
end
end
section
open Go Fm Go.RowKit Go.Proofs.YtmjllchdhcdinaaGreatDoorW.PrintWords
open PGame (via)
section
variable {n : Nat} {P : Program} {ops : Array Oper} {rest : List Oper} {Q : Bd n} {W : World} {f : Fm n} {d : Tmp} {ty t e : TypeId} {x y : Operand} {pos : String} {aft : Array Edge} {α : Type}
theorem Eg (k : Kd α) {s x : Operand} {base : Nat} {ok okp : Nat → Prop} {A : Option Addr} {c m : Nat} {xs : List α} {p : α} {cs : List Value} {z : Value} {bytes : Nat}
  (ht : P.underlying t = some (.slice e)) (hinfo : (P.info? e).map (fun i => (i.zero,i.size,i.bytes)) = some (some z,k.sz,bytes)) (hz : z.cells.size = k.sz) (hs0 : 0 < k.sz) (hb0 : 0 < bytes)
  (hs : ex f s = .slice A m c) (hx : ex f x = .slice (some ⟨W.heap.size,0,none⟩) 1 1)
  (HO : k.R e W base ok (.slice A m c) xs) (hp : k.M W base okp p cs) (hokp : ∀ i,okp i → ok i ∧ some i ≠ (Value.slice A m c).ownBlock) (hfresh : ∀ i,W.heap.size ≤ i → ok i) (hbase : base ≤ W.heap.size) (hl : (xs.length + 1) * bytes ≤ 140737488355328)
  (h : ∀ A' c' w1,k.R e w1 base ok (.slice A' (xs ++ [p]).length c') (xs ++ [p]) → W.grownBy w1 (Value.slice A m c).ownBlock → RL P ops Q rest (up f d (.slice A' (xs ++ [p]).length c')) w1) :
  LS P ops Q ⟨some d,.call { callee := .builtin .append,args := #[s,x],argTypes := #[t,t] },ty,pos,aft,none⟩ rest f (W.alloc (.cells cs.toArray e)) := by
 refine HW (Kd.R_append k (w0 := W) base G s x t e z bytes G ht hinfo hz hs0 hb0 (.slice A m c) xs p cs ok okp ?_ ?_ hp hokp hfresh HO (Below.refl _ _) hbase hl ?_)
 ·rw [Ba]; exact hs
 ·rw [Ba]; exact hx
 ·intro v1 w1 hr hb hg hat
  obtain ⟨A',c',rfl⟩ := Kd.R_slice hr
  exact Ej (h A' c' w1 hr hg)
end
theorem I68 : (Tryz.prog.info? 68).map (fun i => (i.zero,i.size,i.bytes)) = some (some (.agg zme.toArray),9,72) := by kernel_rfl
def rho (L : Nat → Int) (mz : List Me) (u : Nat) : Nat := ((mz[u]?).map (Me.rk L)).getD 0
theorem Gt {L : Nat → Int} {mz : List Me} {u : Nat} {m : Me} (h : mz[u]? = some m) : rho L mz u = m.rk L := by simp [rho,h]
def IsLift (g : PGame) (lim : Nat → Nat) (ρ : Nat → Nat) (v x : Nat) : Prop :=
 (∃ u,u ∈ g.suc v ∧ x = via lim (PGame.W lim 8) (g.pri v) (ρ u)) ∧ (g.own v = 0 → ∀ u,u ∈ g.suc v → x ≤ via lim (PGame.W lim 8) (g.pri v) (ρ u)) ∧ (g.own v ≠ 0 → ∀ u,u ∈ g.suc v → via lim (PGame.W lim 8) (g.pri v) (ρ u) ≤ x)
theorem IsLift.unique {g : PGame} {lim : Nat → Nat} {ρ : Nat → Nat} {v x y : Nat} (hx : IsLift g lim ρ v x) (hy : IsLift g lim ρ v y) : x = y := by
 obtain ⟨⟨u,hu,rfl⟩,h1,h2⟩ := hx
 obtain ⟨⟨u',hu',rfl⟩,h1',h2'⟩ := hy
 by_cases e : g.own v = 0
 ·have := h1 e u' hu'
  have := h1' e u hu
  omega
 ·have := h2 e u' hu'
  have := h2' e u hu
  omega
theorem JM (g : GL) (hg : g.Ok) (OA PA SA : Option Addr) (co cp cS : Nat) (L : Nat → Int) (s : Nat) (w : World) (hG : GR g w OA PA SA) (hs : w.heap[s]? = some (.cells (slv g OA PA SA co cp cS L).toArray 234 (0,0))) (hL : ∀ j,j < 8 → 0 ≤ L j ∧ L j ≤ 4096)
  (MA : Option Addr) (mc : Nat) (mz : List Me) (hlm : mz.length = g.own.length) (hC : Me.kd.C w MA mz.length mz) (hm : ∀ m ∈ mz,m.Good L) (v : Nat) (hv : v < g.own.length) :
  Calls Tryz.prog 176 #[.pointer (some ⟨s,0,none⟩),.slice MA mz.length mc,.int .i64 v] w fun e w' => ∃ m' : Me,e = .returned (.agg m'.enc.toArray) ∧ m'.Good L ∧ IsLift g.gm (Me.nat L) (rho L mz) v (m'.rk L) ∧ Below w.heap.size w w' := by
 have hls := hg.ls
 have hlp := hg.lp
 have hmx := hg.max
 obtain ⟨row,hrow⟩ : ∃ row,g.suc[v]? = some row := ⟨_,gE (by omega)⟩
 obtain ⟨pr,hpr⟩ : ∃ x,g.pri[v]? = some x := ⟨_,gE (by omega)⟩
 obtain ⟨ow,how⟩ : ∃ x,g.own[v]? = some x := ⟨_,gE hv⟩
 obtain ⟨hr0,hr1,hr2⟩ := hg.row v row hrow
 have hp := hg.pri v pr hpr
 have hsuc := FC hrow
 have hgp := H1 hpr
 have hgo := GK how
 obtain ⟨adS,c,rfl,_,⟨RA,rc,rfl,hrc,hRow⟩,hcS⟩ := DG hG.suc hrow
 have hcS : w.cell? (adS.add (v * 1)) = some (.slice RA row.length rc) := hcS 0 _ rfl
 obtain ⟨adP,rfl,hcP⟩ := Au hG.pri hpr
 obtain ⟨adO,rfl,hcO⟩ := Au hG.own how
 have hvS : v < g.suc.length := by omega
 have hvP : v < g.pri.length := by omega
 refine enter 54 Tryz.func176 G G _ (by simp) ?_
 refine oal (v := .agg zme.toArray) (fun _ => by kernel_rfl) G ?_
 intro r w1 hr hrb hb1
 refine asl G<|?_
 have hs1 := Ab hs hb1
 have hwr : w.heap.size ≤ r := by omega
 have hcS1 := Ae hb1 hcS
 have h2 : w1.cell? ⟨s,0 + 0 + 2,none⟩ = some (.slice (some adS) g.suc.length cS) := (Ac hs1 2).trans rfl
 refine mp G<|onc G<|ofa Ji G<|ofa Dp G<|old G27 G ‹_›<|mi G<|AD U27 Z22 G G (by first | assumption | omega)<|old G22 G ‹_›<|oln U22 G<|mi G<|?_
 refine cut (σ := Option Addr × Nat × List Me) (fun q => [(0,.pointer (some ⟨s,0,none⟩)),(2,.int .i64 v),(6,.pointer (some ⟨r,0,none⟩)),(7,.slice q.1 q.2.2.length q.2.1)])
  (fun q V => Below w.heap.size w V ∧ V.heap[r]? = some (.cells zme.toArray 68 (0,0)) ∧ Me.kd.C V q.1 q.2.2.length q.2.2 ∧ (∀ m ∈ q.2.2,m.Good L) ∧ q.2.2.map (Me.rk L) = row.map fun u => via (Me.nat L) (PGame.W (Me.nat L) 8) pr.toNat (rho L mz u.toNat)) (by repeat' (first | exact BB | exact BD | exact Bl | refine Bi ?_ ?_ | refine Bk ?_ | refine Bj ?_ | refine AX _ ?_)) ?_ ?_
 ·refine lp (σ := Nat × Option Addr × Nat × List Me) (fun q => [(0,.pointer (some ⟨s,0,none⟩)),(1,.slice MA mz.length mc),(2,.int .i64 v),(6,.pointer (some ⟨r,0,none⟩)),(7,.slice q.2.1 q.2.2.2.length q.2.2.1),(17,.slice RA row.length rc),(18,.int .i64 row.length),(19,.int .i64 q.1)])
   (fun q V => q.1 ≤ row.length ∧ Below w.heap.size w V ∧ V.heap[r]? = some (.cells zme.toArray 68 (0,0)) ∧ Me.kd.R 68 V (r + 1) (fun _ => True) (.slice q.2.1 q.2.2.2.length q.2.2.1) q.2.2.2 ∧ (∀ m ∈ q.2.2.2,m.Good L) ∧ q.2.2.2.map (Me.rk L) = (row.take q.1).map fun u => via (Me.nat L) (PGame.W (Me.nat L) 8) pr.toNat (rho L mz u.toNat))
   (fun q => row.length - q.1) (0,none,0,[]) ⟨rfl,rfl,rfl,rfl,rfl,rfl,rfl,rfl,rfl⟩ ⟨Nat.zero_le _,hb1,hrb,Kd.R_nil _ _ _ _ _,by simp,by simp⟩ ?_
  clear hrb hb1 hs1 hcS1 h2
  rintro ⟨k,A',c',vs⟩ f V ⟨hk,hB,hrb,hR,hgv,hmap⟩
  simp only at hk hR hgv hmap
  refine olt G G<|cdd G (fun h => ?_) (fun h => ?_)
  ·have h : k < row.length := Int.ofNat_lt.1 h
   obtain ⟨u,hu⟩ := Int.eq_ofNat_of_zero_le (hr2 _ (List.getElem_mem h)).1
   have hrk : row[k]? = some (u : Int) := by rw [gE h,hu]
   have hul : u < mz.length := by have := (hr2 _ (List.mem_of_getElem? hrk)).2; omega
   obtain ⟨m,hmu⟩ : ∃ m,mz[u]? = some m := ⟨_,gE hul⟩
   obtain ⟨adR,rfl,hcR⟩ := Au (Kd.C_below hRow hB) hrk
   refine AD U22 Z3 G G (by first | assumption | omega)<|old G3 G ‹_›<|ai G<|?_
   obtain ⟨adM,rfl,hcM⟩ := Me.row hC hmu
   have hSall : ∀ V1,Below w.heap.size w V1 → V1.heap[s]? = some (.cells (slv g (some adO) (some adP) (some adS) co cp cS L).toArray 234 (0,0)) ∧ V1.cell? ⟨s,0 + 0 + 1,none⟩ = some (.slice (some adP) g.pri.length cp) ∧ V1.cell? (adP.add (v * 1)) = some (.int .i64 pr) ∧ ∀ (j : Nat) (z : Value),m.enc[j]? = some z → V1.cell? ((adM.add (u * 9)).add j) = some z :=
    fun V1 hB => ⟨Ab hs hB,(Ac (Ab hs hB) 1).trans rfl,Ae hB hcP,fun j z hj => Ae hB (hcM j z hj)⟩
   refine Bu mixed (fun V => V.heap[s]? = some (.cells (slv g (some adO) (some adP) (some adS) co cp cS L).toArray 234 (0,0)) ∧ V.cell? ⟨s,0 + 0 + 1,none⟩ = some (.slice (some adP) g.pri.length cp) ∧ V.cell? (adP.add (v * 1)) = some (.int .i64 pr) ∧ ∀ (j : Nat) (z : Value),m.enc[j]? = some z → V.cell? ((adM.add (u * 9)).add j) = some z) ?_
   intro V1 hb1 _ _
   have hB := Ad hB hb1
   have hrb := Ab hrb hb1
   have hR := EV (Kd.R_below hR hb1)
   have hsV := Ab hs hB
   have hS := hSall V1 hB
   refine Aj 0 G (by kernel_rfl) (fun _ _ _ h => h) G (fun v _ => ms_ G v) hS<|Aj 1 G (by kernel_rfl) (fun _ _ _ h => h) G (fun v _ => mp_ G v) hS<|Aj 2 G (by kernel_rfl) (fun _ _ _ h => h) G (fun v _ => mp_ G v) hS<|Aj 3 G (by kernel_rfl) (fun _ _ _ h => h) G (fun v _ => BN G v) hS<|Aj 4 G (by kernel_rfl) (fun _ _ _ h => h) G (fun v _ => AQ Ji G v) hS<|Aj 5 G (by kernel_rfl) (fun _ _ _ h => h) G (fun v _ => AQ Cs G v) hS<|Aj 6 G (by kernel_rfl) (fun _ _ _ h => h) G (fun v hv => Ai G22 G ((Ac hv.1 _).trans G)) hS<|Aj 7 G (by kernel_rfl) (fun _ _ _ h => h) G (fun v _ => mi_ G v) hS<|Aj 8 G (by kernel_rfl) (fun _ _ _ h => h) G (fun v _ => AU U22 Z3 G G (by first | assumption | omega) v) hS<|Aj 9 G (by kernel_rfl) (fun _ _ _ h => h) G (fun v hv => Ai G3 G hv.2.2.1) hS<|Aj 10 G (by kernel_rfl) (fun _ _ _ h => h) G (fun v _ => ms_ G v) hS<|Aj 11 G (by kernel_rfl) (fun _ _ _ h => h) G (fun v _ => mi_ G v) hS<|?_
   refine Aj 12 G (by kernel_rfl) (fun _ _ _ h => h) G (fun v _ => AU Fo Z68 G G hul v) hS<|Aj 13 G (by kernel_rfl) (fun _ _ _ h => h) G (fun v hv => Bs (vs := m.enc) G68 S68 G hv.2.2.2) hS<|AA 14 (by kernel_rfl) G<|cl C192 [] G ((via192 g (some adO) (some adP) (some adS) co cp cS L s V1 pr m hsV hp (hm m (List.mem_of_getElem? hmu)) hL).mono ?_)
   rintro e V2 ⟨m',rfl,hgm',hrk',hb2⟩
   refine ⟨_,rfl,?_⟩
   have hB := Ad hB hb2
   have hrb := Ab hrb hb2
   have hrl := Am hrb
   have hR := EV (Kd.R_below hR hb2)
   have hlen : vs.length = k := by have := congrArg List.length hmap; simp at this; omega
   refine ⟨hSall V2 hB,?_⟩
   refine AA 15 (by kernel_rfl) G<|BH (Cj (us := [.agg m'.enc.toArray]) (sz := 9) Fo I68 G (by decide) [.tmp 37] G G G (by intro u hu; rw [List.mem_singleton.1 hu]; rfl) (List.append_nil m'.enc) (by simp)) ?_
   have hba := AP (Below.refl V2.heap.size V2) (.cells m'.enc.toArray 68)
   refine ⟨hSall _ (Ad hB hba),?_⟩
   refine AA 16 (by kernel_rfl) G<|Eg (bytes := 72) Me.kd (p := m') (okp := fun _ => False) Fo I68 G (by decide) (by decide) G G hR G (fun i hi => hi.elim) (fun _ _ => trivial) hrl (by omega) ?_
   intro A1 c1 V3 hR3 hg3
   have hB3 := hB.grown hg3 hB.size (fun b hb => by have := Kd.R_base hR b hb; omega)
   refine ⟨hSall _ hB3,?_⟩
   refine AA 17 (by kernel_rfl) G<|asl G<|⟨hSall _ hB3,AY (by kernel_rfl) ?_⟩
   refine oad G G (by first | assumption | omega)<|mi G<|?_
   refine ⟨(k + 1,A1,c1,vs ++ [m']),⟨rfl,rfl,rfl,rfl,rfl,rfl,rfl,rfl,rfl⟩,⟨h,hB3,Ar hrb hg3 (fun e => by have := Kd.R_base hR r e.symm; omega),hR3,fun x hx => ?_,?_⟩,Nat.sub_lt_sub_left h (Nat.lt_succ_self k)⟩
   ·rcases List.mem_append.1 hx with hx | hx
    ·exact hgv x hx
    ·rw [List.mem_singleton.1 hx]; exact hgm'
   ·dsimp only
    rw [List.map_append,hmap,List.take_succ_eq_append_getElem h,List.map_append,hu]
    simp only [List.map_cons,List.map_nil,Int.toNat_natCast,Gt hmu,hrk']
  ·have hkn : k = row.length := by omega
   subst hkn
   rw [List.take_length] at hmap
   obtain ⟨_,_,hC⟩ := Kd.R_reads' hR
   exact ⟨(A',c',vs),⟨rfl,rfl,rfl,rfl,rfl⟩,hB,hrb,hC,hgv,hmap⟩
 clear hrb hb1 hs1 hcS1 h2
 rintro ⟨A',c',vs⟩ f V ⟨hB,hrb,hCv,hgv,hmap⟩
 simp only at hCv hgv hmap
 have hlen : vs.length = row.length := by have := congrArg List.length hmap; simpa using this
 have hvne : vs ≠ [] := fun e => by rw [e] at hlen; exact hr0 (List.length_eq_zero_iff.1 hlen.symm)
 have hin : ∀ m ∈ vs,∃ u,u ∈ g.gm.suc v ∧ m.rk L = via (Me.nat L) (PGame.W (Me.nat L) 8) (g.gm.pri v) (rho L mz u) := fun m hm => by
  have : m.rk L ∈ vs.map (Me.rk L) := List.mem_map_of_mem hm
  rw [hmap] at this
  obtain ⟨u,hu,e⟩ := List.mem_map.1 this
  exact ⟨u.toNat,by rw [hsuc]; exact List.mem_map_of_mem hu,by rw [hgp]; exact e.symm⟩
 have hout : ∀ u,u ∈ g.gm.suc v → ∃ m ∈ vs,m.rk L = via (Me.nat L) (PGame.W (Me.nat L) 8) (g.gm.pri v) (rho L mz u) := fun u hu => by
  rw [hsuc] at hu
  obtain ⟨z,hz,rfl⟩ := List.mem_map.1 hu
  have : via (Me.nat L) (PGame.W (Me.nat L) 8) pr.toNat (rho L mz z.toNat) ∈ vs.map (Me.rk L) := by rw [hmap]; exact List.mem_map.2 ⟨z,hz,rfl⟩
  obtain ⟨m,hm,e⟩ := List.mem_map.1 this
  exact ⟨m,hm,by rw [hgp]; exact e⟩
 have hcO := Ae hB hcO
 have hsV := Ab hs hB
 have h0 : V.cell? ⟨s,0 + 0 + 0,none⟩ = some (.slice (some adO) g.own.length co) := (Ac hsV 0).trans rfl
 refine mp G<|onc G<|ofa Ji G<|ofa BQ G<|old G26 G ‹_›<|mi G<|AD U26 Z5 G G (by first | assumption | omega)<|old G5 G ‹_›<|oeq G G<|?_
 refine cdd G (fun ho => ?_) (fun ho => ?_)
 ·refine ms G<|cl C193 [] G ((min193 L A' c' vs V hCv hgv hvne).mono ?_)
  rintro e V2 ⟨m',rfl,hmem,hle,hb2⟩
  refine ⟨_,rfl,?_⟩
  have hB := Ad hB hb2
  have hrb := Ab hrb hb2
  refine Bo (vs := m'.enc) (cs := zme) S68 G G G (Me.enc_one _) hrb (by simp [Me.enc_len,zme]) ?_
  intro V3 hr3 hg3
  refine rtc (vs := m'.enc) G G hr3 G68 S68<|⟨m',rfl,hgv m' hmem,⟨hin m' hmem,fun _ u hu => ?_,fun e => absurd (by rw [hgo,ho]; rfl) e⟩,hB.grown hg3 hB.size (fun k hk => by cases hk; exact hwr)⟩
  obtain ⟨m,hm,e⟩ := hout u hu
  rw [← e]; exact hle m hm
 ·have hno : g.gm.own v ≠ 0 := by have := hg.own v ow how; rw [hgo]; omega
  refine ms G<|cl C194 [] G ((max194 L A' c' vs V hCv hgv hvne).mono ?_)
  rintro e V2 ⟨m',rfl,hmem,hle,hb2⟩
  refine ⟨_,rfl,?_⟩
  have hB := Ad hB hb2
  have hrb := Ab hrb hb2
  refine Bo (vs := m'.enc) (cs := zme) S68 G G G (Me.enc_one _) hrb (by simp [Me.enc_len,zme]) ?_
  intro V3 hr3 hg3
  refine rtc (vs := m'.enc) G G hr3 G68 S68<|⟨m',rfl,hgv m' hmem,⟨hin m' hmem,fun e => absurd e hno,fun _ u hu => ?_⟩,hB.grown hg3 hB.size (fun k hk => by cases hk; exact hwr)⟩
  obtain ⟨m,hm,e⟩ := hout u hu
  rw [← e]; exact hle m hm
theorem slv_put (g : GL) (OA PA SA : Option Addr) (co cp cS : Nat) (L : Nat → Int) (x : Int) : ∀ k,k < 8 → (slv g OA PA SA co cp cS L).set (k + 3) (.int .i64 x) = slv g OA PA SA co cp cS (fun j => if j = k then x else L j)
 | 0,_ | 1,_ | 2,_ | 3,_ | 4,_ | 5,_ | 6,_ | 7,_ => rfl
 | k + 8,h => by omega
def Bh (l : List Int) (j : Nat) : Int := ((l.filter fun p => decide (p = 2 * (j : Int) + 1)).length : Nat)
theorem lims_snoc_even {l : List Int} {p : Int} (h : p % 2 = 0) : Bh (l ++ [p]) = Bh l := by
 funext j
 unfold Bh
 rw [List.filter_append,List.filter_cons,if_neg (by simp; omega)]
 simp
theorem lims_snoc_odd {l : List Int} {p : Int} (h : p % 2 = 1) (h0 : 0 ≤ p) : Bh (l ++ [p]) = fun j => if j = (p / 2).toNat then Bh l (p / 2).toNat + 1 else Bh l j := by
 funext j
 unfold Bh
 by_cases e : j = (p / 2).toNat
 ·rw [if_pos e,List.filter_append,List.filter_cons,if_pos (by simp; omega)]
  subst e
  simp
 ·rw [if_neg e,List.filter_append,List.filter_cons,if_neg (by simp; omega)]
  simp
theorem Ga (l : List Int) (j : Nat) : 0 ≤ Bh l j ∧ Bh l j ≤ l.length := by
 unfold Bh
 have := List.length_filter_le (fun p => decide (p = 2 * (j : Int) + 1)) l
 omega
theorem KD (g : GL) (hg : g.Ok) (OA PA SA : Option Addr) (co cp cS : Nat) (w : World) (hG : GR g w OA PA SA) :
  Calls Tryz.prog 121 #[.agg #[.slice OA g.own.length co,.slice PA g.pri.length cp,.slice SA g.suc.length cS]] w fun e w' => ∃ s,e = .returned (.pointer (some ⟨s,0,none⟩)) ∧ w.heap.size ≤ s ∧ w'.heap[s]? = some (.cells (slv g OA PA SA co cp cS (Bh g.pri)).toArray 234 (0,0)) ∧ Below w.heap.size w w' := by
 have hmx := hg.max
 have hlp := hg.lp
 refine enter 32 Tryz.func121 G G _ (by simp) ?_
 refine obx G G ?_
 intro b w1 hbe hbb hb1
 have hbb : w1.heap[b]? = some (.cells [.slice OA g.own.length co,.slice PA g.pri.length cp,.slice SA g.suc.length cS].toArray 29 (0,0)) := hbb
 refine ap G<|AV (vs := [.slice OA g.own.length co,.slice PA g.pri.length cp,.slice SA g.suc.length cS]) G29 S29 G (Ak hbb)<|pl (.agg (slv g OA PA SA co cp cS (fun _ => 0)).toArray) (fun _ => by kernel_rfl)<|obx (cs := slv g OA PA SA co cp cS (fun _ => 0)) G G ?_
 intro s w2 hse hsb hb2
 have hs1 := hb1.size
 have hbb := Ab hbb hb2
 have hB := Ad hb1 hb2
 have hws : w.heap.size ≤ s := by omega
 have h1 : w2.cell? ⟨b,0 + 1,none⟩ = some (.slice PA g.pri.length cp) := (Ac hbb 1).trans rfl
 refine ap G<|ofa Cs G<|old G22 G ‹_›<|oln U22 G<|mi G<|lp (σ := Nat) (fun k => [(3,.pointer (some ⟨s,0,none⟩)),(10,.slice PA g.pri.length cp),(11,.int .i64 g.pri.length),(12,.int .i64 k)])
  (fun k V => k ≤ g.pri.length ∧ Below w.heap.size w V ∧ V.heap[s]? = some (.cells (slv g OA PA SA co cp cS (Bh (g.pri.take k))).toArray 234 (0,0))) (fun k => g.pri.length - k) 0 ⟨rfl,rfl,rfl,rfl,rfl⟩ ⟨Nat.zero_le _,hB,hsb⟩ ?_
 clear hB hsb hbb hb1 hb2 h1
 rintro k f V ⟨hk,hB,hsb⟩
 refine olt G G<|cdd G (fun h => ?_) (fun h => ?_)
 ·have h : k < g.pri.length := Int.ofNat_lt.1 h
  obtain ⟨p,hp⟩ : ∃ p,g.pri[k]? = some p := ⟨_,gE h⟩
  obtain ⟨hp0,hp1⟩ := hg.pri k p hp
  have hpk : g.pri[k] = p := by rw [gE h] at hp; injection hp
  obtain ⟨adP,rfl,hcP⟩ := Au hG.pri hp
  have hcP := Ae hB hcP
  refine AD U22 Z3 G G (by first | assumption | omega)<|old G3 G ‹_›<|ai G<|?_
  refine mi G<|orm G G (by first | assumption | omega)<|oeq G G<|?_
  refine cdd G (fun hod => ?_) (fun hev => ?_)
  ·refine drt mixed 11 (by kernel_rfl) ?_
   intro V1 hb1 _ _
   have hB := Ad hB hb1
   have hsb := Ab hsb hb1
   have hk8 : (p / 2).toNat < 8 := by omega
   have hLl := Ga (g.pri.take k) (p / 2).toNat
   have hlt : (g.pri.take k).length = k := by rw [List.length_take]; omega
   have hc : V1.cell? ⟨s,0 + 3 + (p / 2).toNat * 1,none⟩ = some (.int .i64 (Bh (g.pri.take k) (p / 2).toNat)) := by
    rw [show 0 + 3 + (p / 2).toNat * 1 = (p / 2).toNat + 3 by omega,Ac hsb,← I1 g OA (some adP) SA co cp cS _ _ hk8]; simp
   refine spu (mp_ G)<|spu (mi_ G)<|spu (LO G G (by omega) (by omega))<|spu (BN G)<|spu (AQ Ib G)<|spu (CQ U66 Z3 G G (by first | assumption | omega))<|sru (Ai G3 G ‹_›)<|spu (Lz G G (by first | assumption | omega))<|spu (BN G)<|spu (AQ Ib G)<|spu (CQ U66 Z3 G G (by first | assumption | omega))<|?_
   refine Bc (v := .int .i64 (Bh (g.pri.take k) (p / 2).toNat + 1)) (cs := slv g OA (some adP) SA co cp cS (Bh (g.pri.take k))) (i := 0 + 3 + (p / 2).toNat * 1) S3 G G G hsb (by simp [slv]; omega) ?_
   intro V2 hs2 hg2
   rw [show 0 + 3 + (p / 2).toNat * 1 = (p / 2).toNat + 3 by omega,slv_put _ _ _ _ _ _ _ _ _ _ hk8,← lims_snoc_odd (by omega) hp0,← hpk,← List.take_succ_eq_append_getElem h] at hs2
   refine oad G G (by first | assumption | omega)<|mi G<|?_
   exact ⟨k + 1,⟨rfl,rfl,rfl,rfl,rfl⟩,⟨h,hB.grown hg2 hB.size (fun k hk => by cases hk; exact hws),hs2⟩,Nat.sub_lt_sub_left h (Nat.lt_succ_self k)⟩
  ·refine oad G G (by first | assumption | omega)<|mi G<|?_
   rw [← lims_snoc_even (p := p) (by omega),← hpk,← List.take_succ_eq_append_getElem h] at hsb
   exact ⟨k + 1,⟨rfl,rfl,rfl,rfl,rfl⟩,⟨h,hB,hsb⟩,Nat.sub_lt_sub_left h (Nat.lt_succ_self k)⟩
 ·have hkn : k = g.pri.length := by omega
  subst hkn
  rw [List.take_length] at hsb
  refine mp G<|ap G<|?_
  exact rt1 rfl rfl ⟨s,rfl,hws,hsb,hB⟩
def cts (c : Nat → Int) : List Value := [.int .i64 (c 0),.int .i64 (c 1),.int .i64 (c 2),.int .i64 (c 3),.int .i64 (c 4),.int .i64 (c 5),.int .i64 (c 6),.int .i64 (c 7)]
theorem idx8 (c : Nat → Int) : ∀ k,k < 8 → ∀ W,(Instr.index 66 (.agg (cts c).toArray) (.int .i64 (k : Nat))).run Tryz.prog W = .ok (.int .i64 (c k)) W
 | 0,_,_ | 1,_,_ | 2,_,_ | 3,_,_ | 4,_,_ | 5,_,_ | 6,_,_ | 7,_,_ => by kernel_rfl
 | k + 8,h,_ => by omega
theorem oidx8 {n : Nat} {ops : Array Oper} {rest : List Oper} {Q : Bd n} {W : World} {f : Fm n} {d : Tmp} {ty : TypeId} {x y : Operand} {pos : String} {aft : Array Edge} {c : Nat → Int} {k : Nat} (hx : ex f x = .agg (cts c).toArray) (hy : ex f y = .int .i64 (k : Nat)) (h : k < 8) (r : RL Tryz.prog ops Q rest (up f d (.int .i64 (c k))) W) :
  LS Tryz.prog ops Q ⟨some d,.index 66 x y,ty,pos,aft,none⟩ rest f W := BH (by
 show (do pure (Next.value (← Instr.index 66 (ex f x) (ex f y))) : Sem Next).run Tryz.prog W = _
 rw [hx,hy]
 have := idx8 c k h W
 generalize Instr.index 66 _ _ = S at this ⊢
 simp [this,go_sem]) r
theorem Me.enc_cts (m : Me) : ∀ j v,(cts m.c)[j]? = some v → m.enc[j + 1]? = some v
 | 0,_,h | 1,_,h | 2,_,h | 3,_,h | 4,_,h | 5,_,h | 6,_,h | 7,_,h => h
 | j + 8,v,h => by rw [List.getElem?_eq_none (by simp [cts])] at h; cases h
theorem valid227 (g : GL) (OA PA SA : Option Addr) (co cp cS : Nat) (L : Nat → Int) (s : Nat) (w : World) (m : Me) (hs : w.heap[s]? = some (.cells (slv g OA PA SA co cp cS L).toArray 234 (0,0))) (hm : m.Good L) :
  Calls Tryz.prog 227 #[.pointer (some ⟨s,0,none⟩),.agg m.enc.toArray] w fun e w' => e = .returned (.bool true) ∧ Below w.heap.size w w' := by
 refine enter 34 Tryz.func227 G G _ (by simp) ?_
 refine obx (cs := m.enc) G G ?_
 intro b w1 hb hbb hb1
 refine ab G<|ofa F0 G<|AV (vs := cts m.c) G66 S66 G (fun j v hj => by rw [show (⟨b,0 + 1,none⟩ : Addr).add j = ⟨b,j + 1,none⟩ by unfold Addr.add; split <;> simp_all <;> omega,Ac hbb]; simpa using m.enc_cts j v hj) ?_
 refine mi G<|?_
 have hs1 := Ab hs hb1
 refine lp (σ := Nat) (fun k => [(0,.pointer (some ⟨s,0,none⟩)),(3,.pointer (some ⟨b,0,none⟩)),(8,.agg (cts m.c).toArray),(9,.int .i64 k)]) (fun k V => k ≤ 8 ∧ V = w1) (fun k => 8 - k) 0 ⟨rfl,rfl,rfl,rfl,rfl⟩ ⟨by omega,rfl⟩ ?_
 rintro k f V ⟨hk,rfl⟩
 refine olt G G<|cdd G (fun h => ?_) (fun h => ?_)
 ·have h : k < 8 := by omega
  have hmk := hm.1 k h
  have hl : V.cell? ⟨s,0 + 3 + (k : Int).toNat * 1,none⟩ = some (.int .i64 (L k)) := by
   rw [show 0 + 3 + (k : Int).toNat * 1 = k + 3 by simp; omega,Ac hs1,← I1 g OA PA SA co cp cS L k h]; simp
  refine mi G<|oidx8 G G h<|ai G<|ai G<|mi G<|olt G G<|isf (by omega)<|mb G<|gon G<|mi G<|gon G<|mp G<|gon G<|mi G<|gon G<|onc G<|gon G<|ofa Ib G<|gon G<|Ee U66 Z3 G G (by first | assumption | omega)<|gon G<|old G3 G ‹_›<|gon G<|ogt G G<|isf (by omega)<|pfb G G<|?_
  refine cdf G<|oad G G (by first | assumption | omega)<|mi G<|?_
  exact ⟨k + 1,⟨rfl,rfl,rfl,rfl,rfl⟩,⟨h,rfl⟩,by omega⟩
 ·have ht : V.cell? ⟨b,0 + 0,none⟩ = some (.bool m.top) := (Ac hbb 0).trans rfl
  cases htm : m.top with
  | false =>
   rw [htm] at ht
   refine ofa DP G<|old G4 G ‹_›<|ont G<|mb G<|gof G<|gof G<|gof G<|ptb G G<|ab G<|?_
   exact rt1 rfl rfl ⟨rfl,hb1⟩
  | true =>
   rw [htm] at ht
   have hz := hm.2 htm
   have henc : m.enc = [.bool true,.int .i64 0,.int .i64 0,.int .i64 0,.int .i64 0,.int .i64 0,.int .i64 0,.int .i64 0,.int .i64 0] := by
    simp [Me.enc,htm,hz]
   rw [henc] at hbb
   refine ofa DP G<|old G4 G ‹_›<|ont G<|mb G<|gon G<|AV (vs := [.bool true,.int .i64 0,.int .i64 0,.int .i64 0,.int .i64 0,.int .i64 0,.int .i64 0,.int .i64 0,.int .i64 0]) G68 S68 G (Ak hbb)<|gon G<|pl (.agg #[.bool true,.int .i64 0,.int .i64 0,.int .i64 0,.int .i64 0,.int .i64 0,.int .i64 0,.int .i64 0,.int .i64 0]) (fun _ => by kernel_rfl)<|gon G<|pl (.bool true) (fun _ => by kernel_rfl)<|pfb G G<|ab G<|?_
   exact rt1 rfl rfl ⟨rfl,hb1⟩
theorem lift226 (g : GL) (OA PA SA : Option Addr) (co cp cS : Nat) (L : Nat → Int) (s c : Nat) (w : World) (m : Me) (hs : w.heap[s]? = some (.cells (slv g OA PA SA co cp cS L).toArray 234 (0,0))) (hc : w.heap[c]? = some (.cells #[.pointer (some ⟨s,0,none⟩)] 201 (0,0))) (hm : m.Good L) :
  Calls Tryz.prog 226 #[.agg m.enc.toArray,.pointer (some ⟨c,0,none⟩)] w fun e w' => e = .returned (.bool false) ∧ Below w.heap.size w w' := by
 refine enter 8 Tryz.func226 G G _ (by simp) ?_
 refine obx (cs := m.enc) G G ?_
 intro b w1 hb hbb hb1
 refine ab G<|?_
 have hc0 : w1.cell? ⟨c,0,none⟩ = some (.pointer (some ⟨s,0,none⟩)) := (Ac (Ab hc hb1) 0).trans rfl
 refine old LE G ‹_›<|AV (vs := m.enc) G68 S68 G (Ak hbb)<|cl C227 [] G ((valid227 g OA PA SA co cp cS L s w1 m (Ab hs hb1) hm).mono ?_)
 rintro e w2 ⟨rfl,hb2⟩
 refine ⟨_,rfl,?_⟩
 refine ont G<|ab G<|?_
 exact rt1 rfl rfl ⟨rfl,Ad hb1 hb2⟩
theorem index228 (g : GL) (OA PA SA : Option Addr) (co cp cS : Nat) (L : Nat → Int) (s c : Nat) (w : World) (hs : w.heap[s]? = some (.cells (slv g OA PA SA co cp cS L).toArray 234 (0,0))) (hc : w.heap[c]? = some (.cells #[.pointer (some ⟨s,0,none⟩)] 201 (0,0)))
  (MA : Option Addr) (mc : Nat) (mz : List Me) (hC : Me.kd.C w MA mz.length mz) (hm : ∀ m ∈ mz,m.Good L) :
  Calls Tryz.prog 228 #[.slice MA mz.length mc,.func (.func 226) #[] #[.pointer (some ⟨c,0,none⟩)]] w fun e w' => e = .returned (.int .i64 (-1)) ∧ Below w.heap.size w w' := by
 have hmax := Kd.C_max hC
 refine enter 19 Tryz.func228 G G _ (by simp) ?_
 refine ai G<|ms G<|oln U58 G<|mi G<|lp (σ := Nat) (fun k => [(0,.slice MA mz.length mc),(1,.func (.func 226) #[] #[.pointer (some ⟨c,0,none⟩)]),(7,.int .i64 mz.length),(8,.int .i64 k)]) (fun k V => k ≤ mz.length ∧ Below w.heap.size w V) (fun k => mz.length - k) 0 ⟨rfl,rfl,rfl,rfl,rfl⟩ ⟨Nat.zero_le _,Below.refl _ _⟩ ?_
 rintro k f V ⟨hk,hB⟩
 refine olt G G<|cdd G (fun h => ?_) (fun h => ?_)
 ·have h : k < mz.length := Int.ofNat_lt.1 h
  obtain ⟨m,hmk⟩ : ∃ m,mz[k]? = some m := ⟨_,gE h⟩
  obtain ⟨adM,rfl,hcM⟩ := Me.row (Kd.C_below hC hB) hmk
  refine mi G<|ai G<|mf G<|ms G<|mi G<|AD Fo Z68 G G h<|AV (vs := m.enc) G68 S68 G hcM<|cl C226 [.pointer (some ⟨c,0,none⟩)] G ((lift226 g OA PA SA co cp cS L s c V m (Ab hs hB) (Ab hc hB) (hm m (List.mem_of_getElem? hmk))).mono ?_)
  rintro e V1 ⟨rfl,hb1⟩
  refine ⟨_,rfl,?_⟩
  refine cdf G<|oad G G (by first | assumption | omega)<|mi G<|?_
  exact ⟨k + 1,⟨rfl,rfl,rfl,rfl,rfl⟩,⟨h,Ad hB hb1⟩,Nat.sub_lt_sub_left h (Nat.lt_succ_self k)⟩
 ·refine ai G<|?_
  exact rt1 rfl rfl ⟨rfl,hB⟩
theorem contains225 (g : GL) (OA PA SA : Option Addr) (co cp cS : Nat) (L : Nat → Int) (s c : Nat) (w : World) (hs : w.heap[s]? = some (.cells (slv g OA PA SA co cp cS L).toArray 234 (0,0))) (hc : w.heap[c]? = some (.cells #[.pointer (some ⟨s,0,none⟩)] 201 (0,0)))
  (MA : Option Addr) (mc : Nat) (mz : List Me) (hC : Me.kd.C w MA mz.length mz) (hm : ∀ m ∈ mz,m.Good L) :
  Calls Tryz.prog 225 #[.slice MA mz.length mc,.func (.func 226) #[] #[.pointer (some ⟨c,0,none⟩)]] w fun e w' => e = .returned (.bool false) ∧ Below w.heap.size w w' := by
 refine enter 9 Tryz.func225 G G _ (by simp) ?_
 refine ab G<|ms G<|mf G<|cl C228 [] G ((index228 g OA PA SA co cp cS L s c w hs hc MA mc mz hC hm).mono ?_)
 rintro e w1 ⟨rfl,hb1⟩
 refine ⟨_,rfl,?_⟩
 refine oge G G<|ab G<|?_
 exact rt1 rfl rfl ⟨rfl,hb1⟩
theorem JL (g : GL) (hF : g.Full) (OA PA SA : Option Addr) (co cp cS : Nat) (w : World) (hG : GR g w OA PA SA)
  (MA : Option Addr) (mc : Nat) (mz : List Me) (hlm : mz.length = g.own.length) (hC : Me.kd.C w MA mz.length mz) (hm : ∀ m ∈ mz,m.Good (Bh g.pri)) (v : Nat) (hv : v < g.own.length) :
  Calls Tryz.prog 224 #[.agg #[.slice OA g.own.length co,.slice PA g.pri.length cp,.slice SA g.suc.length cS],.slice MA mz.length mc,.int .i64 v] w fun e w' => ∃ m' : Me,e = .returned (.tuple #[.agg m'.enc.toArray,.int .i64 0]) ∧ m'.Good (Bh g.pri) ∧ IsLift g.gm (Me.nat (Bh g.pri)) (rho (Bh g.pri) mz) v (m'.rk (Bh g.pri)) ∧ Below w.heap.size w w' := by
 have hg := hF.ok
 have hmx := hg.max
 have hlp := hg.lp
 have hL : ∀ j,j < 8 → 0 ≤ Bh g.pri j ∧ Bh g.pri j ≤ 4096 := fun j _ => by have := Ga g.pri j; omega
 refine enter 45 Tryz.func224 G G _ (by simp) ?_
 refine obx G G ?_
 intro b w1 hbe hbb hb1
 have hbb : w1.heap[b]? = some (.cells [.slice OA g.own.length co,.slice PA g.pri.length cp,.slice SA g.suc.length cS].toArray 29 (0,0)) := hbb
 refine oal (v := .agg zme.toArray) (fun _ => by kernel_rfl) G ?_
 intro r w2 hre hrb hb2
 have hs1 := hb1.size
 have hwr : w.heap.size ≤ r := by omega
 have hbb := Ab hbb hb2
 have hB := Ad hb1 hb2
 refine ai G<|AV (vs := [.slice OA g.own.length co,.slice PA g.pri.length cp,.slice SA g.suc.length cS]) G29 S29 G (Ak hbb)<|cl C46 [] G ((Gg g w2 OA PA SA co cp cS (hG.below hB) hF).mono ?_)
 rintro e w3 ⟨rfl,hb3⟩
 refine ⟨_,rfl,?_⟩
 have hbb := Ab hbb hb3
 have hrb := Ab hrb hb3
 have hB := Ad hB hb3
 refine ai G<|mi G<|one G G<|isf (by omega)<|?_
 refine cdf G<|AV (vs := [.slice OA g.own.length co,.slice PA g.pri.length cp,.slice SA g.suc.length cS]) G29 S29 G (Ak hbb)<|cl Mc [] G ((KD g hg OA PA SA co cp cS w3 (hG.below hB)).mono ?_)
 rintro e w4 ⟨s,rfl,hws,hsb,hb4⟩
 refine ⟨_,rfl,?_⟩
 have hbb := Ab hbb hb4
 have hrb := Ab hrb hb4
 have hB := Ad hB hb4
 refine oal (v := .pointer none) (fun _ => by kernel_rfl) G ?_
 intro c w5 hce hcb hb5
 have hbb := Ab hbb hb5
 have hrl := Am hrb
 have hsl := Am hsb
 have hrb := Ab hrb hb5
 have hsb := Ab hsb hb5
 have hB := Ad hB hb5
 refine Bc (v := .pointer (some ⟨s,0,none⟩)) (cs := [.pointer none]) (i := 0) S201 G G G hcb (by simp) ?_
 intro w6 hcb hg6
 have hbl := Am hbb
 have hcw : w.heap.size ≤ c := by have := hb3.size; have := hb4.size; have := hb2.size; omega
 have hbb := Ar hbb hg6 (fun e => An hbb (by assumption : w5.heap[c]? = some (.cells [.pointer none].toArray 201 (0,0))) (by decide) (by injection e))
 have hrb := Ar hrb hg6 (fun e => by injection e with e; omega)
 have hsb := Ar hsb hg6 (fun e => by injection e with e; omega)
 have hB := hB.grown hg6 hB.size (fun k hk => by cases hk; exact hcw)
 have hbb : w6.heap[b]? = some (.cells [.slice OA g.own.length co,.slice PA g.pri.length cp,.slice SA g.suc.length cS].toArray 29 (0,0)) := hbb
 have h0 : w6.cell? ⟨b,0 + 0,none⟩ = some (.slice OA g.own.length co) := (Ac hbb 0).trans rfl
 refine ms G<|oln U58 G<|ofa BQ G<|old G26 G ‹_›<|oln U26 G<|one G G<|isf (by omega)<|ab G<|?_
 refine cdf G<|ms G<|pl (.func (.func 226) #[] #[.pointer (some ⟨c,0,none⟩)]) (fun _ => by kernel_rfl)<|cl C225 [] G ((contains225 g OA PA SA co cp cS (Bh g.pri) s c w6 hsb hcb MA mc mz (Kd.C_below hC hB) hm).mono ?_)
 rintro e w7 ⟨rfl,hb7⟩
 refine ⟨_,rfl,?_⟩
 have hrb := Ab hrb hb7
 have hsb := Ab hsb hb7
 have hcb := Ab hcb hb7
 have hB := Ad hB hb7
 refine ab G<|cdf G<|mi G<|olt G G<|isf (by omega)<|mb G<|gon G<|mi G<|gon G<|ms G<|gon G<|oln U58 G<|gon G<|oge G G<|isf (by omega)<|pfb G G<|ab G<|?_
 refine cdf G ?_
 have hc0 : w7.cell? ⟨c,0,none⟩ = some (.pointer (some ⟨s,0,none⟩)) := (Ac hcb 0).trans rfl
 refine old LE G ‹_›<|ms G<|mi G<|cl L4 [] G ((JM g hg OA PA SA co cp cS (Bh g.pri) s w7 (hG.below hB) hsb hL MA mc mz hlm (Kd.C_below hC hB) hm v hv).mono ?_)
 rintro e w8 ⟨m',rfl,hgm,hil,hb8⟩
 refine ⟨_,rfl,?_⟩
 have hrb := Ab hrb hb8
 have hB := Ad hB hb8
 refine Bo (vs := m'.enc) (cs := zme) S68 G G G (Me.enc_one _) hrb (by simp [Me.enc_len,zme]) ?_
 intro w9 hr9 hg9
 refine ai G<|K2 (vs := m'.enc) G G G hr9 G68 S68 ?_
 exact ⟨m',rfl,hgm,hil,hB.grown hg9 hB.size (fun k hk => by cases hk; exact hwr)⟩
end
section
open Go Fm Go.RowKit Go.Proofs.YtmjllchdhcdinaaGreatDoorW.PrintWords
structure Ed where
 src : Int
 dst : Int
 care : Int
 want : Int
def Ed.enc (x : Ed) : List Value := [.int .i64 x.src,.int .i64 x.dst,.int .u8 x.care,.int .u8 x.want]
theorem Ed.enc_one (x : Ed) : ∀ u ∈ x.enc,u.oneCell' = true := by
 intro u hu
 simp only [Ed.enc,List.mem_cons,List.not_mem_nil,or_false] at hu
 rcases hu with rfl | rfl | rfl | rfl <;> rfl
def Ed.kd : Kd Ed where
 sz := 4
 E := []
 K := fun _ x cs => cs = x.enc
 M := fun _ _ _ x cs => cs = x.enc
 K_len := fun h => by rw [h]; rfl
 K_one := fun h u hu => by
  rw [h] at hu
  exact Ed.enc_one _ u hu
 K_below := fun _ h => h
 K_of_M := fun h => h
 M_mono := fun _ h => h
 M_bound := fun h => h
 M_move := fun _ h => h
 M_lower := fun _ h => h
theorem I71 : (Tryz.prog.info? 71).map (fun i => (i.zero,i.size,i.bytes)) = some (some (.agg #[.int .i64 0,.int .i64 0,.int .u8 0,.int .u8 0]),4,24) := by kernel_rfl
theorem Ed.row {w : World} {A : Option Addr} {n : Nat} {es : List Ed} (h : Ed.kd.C w A n es) {k : Nat} {m : Ed} (hm : es[k]? = some m) : ∃ ad,A = some ad ∧ ∀ j v,m.enc[j]? = some v → w.cell? ((ad.add (k * 4)).add j) = some v := by
 obtain ⟨ad,c,rfl,_,hK,hc⟩ := DG h hm
 have hK : c = m.enc := hK
 subst hK
 exact ⟨ad,rfl,fun j v hj => by rw [Addr.add_add]; exact hc j v hj⟩
theorem JU (A : Option Addr) (c : Nat) (xs : List Me) (w : World) (hs : Me.kd.C w A xs.length xs) (hb : xs.length ≤ 1000000) :
  Calls Tryz.prog 54 #[.slice A xs.length c] w fun e w' => ∃ B c',e = .returned (.slice B xs.length c') ∧ Me.kd.R 68 w' w.heap.size (fun _ => True) (.slice B xs.length c') xs ∧ Below w.heap.size w w' := by
 refine enter 8 Tryz.func54 G G _ (by simp) ?_
 refine asl G<|ms G<|oen U58 G<|?_
 cases A with
 | none =>
  refine cdt G<|asl G<|?_
  have h0 : xs.length = 0 := by
   have := hs.2.2
   rcases Nat.eq_zero_or_pos xs.length with h | h
   ·exact h
   ·obtain ⟨ad,h1,_⟩ := this h; cases h1
  have h1 : xs = [] := List.length_eq_zero_iff.1 h0
  subst h1
  exact rt1 rfl rfl ⟨_,_,rfl,Kd.R_nil _ _ _ _ _,Below.refl _ _⟩
 | some ad =>
  refine cdf G<|Hr Me.kd Fo I68 ?_
  intro A1 c1 w1 hr hb1
  refine ms G<|BW Me.kd Fo I68 G (by decide) (by decide) G G hr (Kd.C_below hs hb1) (okp := fun i => some i ≠ (Value.slice A1 0 c1).ownBlock) (fun _ _ h => h) (fun _ h => ⟨trivial,h⟩) (fun _ _ => trivial) hb1.size (by simp; omega) ?_
  intro A2 c2 w2 hr2 hg2
  refine asl G<|?_
  simp only [List.nil_append] at hr2
  exact rt1 rfl rfl ⟨_,_,rfl,hr2,hb1.grown hg2 hb1.size (fun k hk => Kd.R_base hr k hk)⟩
theorem EC (A : Option Addr) (c : Nat) (xs : List Int) (w : World) (hs : (Kd.int .i64).C w A xs.length xs) (hb : xs.length ≤ 1000000) :
  Calls Tryz.prog 53 #[.slice A xs.length c] w fun e w' => ∃ B c',e = .returned (.slice B xs.length c') ∧ (Kd.int .i64).R 3 w' w.heap.size (fun _ => True) (.slice B xs.length c') xs ∧ Below w.heap.size w w' := by
 refine enter 8 Tryz.func53 G G _ (by simp) ?_
 refine asl G<|ms G<|oen U22 G<|?_
 cases A with
 | none =>
  refine cdt G<|asl G<|?_
  have h0 : xs.length = 0 := by
   have := hs.2.2
   rcases Nat.eq_zero_or_pos xs.length with h | h
   ·exact h
   ·obtain ⟨ad,h1,_⟩ := this h; cases h1
  have h1 : xs = [] := List.length_eq_zero_iff.1 h0
  subst h1
  exact rt1 rfl rfl ⟨_,_,rfl,Kd.R_nil _ _ _ _ _,Below.refl _ _⟩
 | some ad =>
  refine cdf G<|Hr (Kd.int .i64) U22 I3 ?_
  intro A1 c1 w1 hr hb1
  refine ms G<|BW (Kd.int .i64) U22 I3 G (by decide) (by decide) G G hr (Kd.C_below hs hb1) (okp := fun i => some i ≠ (Value.slice A1 0 c1).ownBlock) (fun _ _ h => h) (fun _ h => ⟨trivial,h⟩) (fun _ _ => trivial) hb1.size (by simp; omega) ?_
  intro A2 c2 w2 hr2 hg2
  refine asl G<|?_
  simp only [List.nil_append] at hr2
  exact rt1 rfl rfl ⟨_,_,rfl,hr2,hb1.grown hg2 hb1.size (fun k hk => Kd.R_base hr k hk)⟩
theorem JW (A : Option Addr) (c : Nat) (xs : List Int) (w : World) (hs : (Kd.int .u8).C w A xs.length xs) (hb : xs.length ≤ 1000000) :
  Calls Tryz.prog 44 #[.slice A xs.length c] w fun e w' => ∃ B c',e = .returned (.slice B xs.length c') ∧ (Kd.int .u8).R 5 w' w.heap.size (fun _ => True) (.slice B xs.length c') xs ∧ Below w.heap.size w w' := by
 refine enter 8 Tryz.func44 G G _ (by simp) ?_
 refine asl G<|ms G<|oen U26 G<|?_
 cases A with
 | none =>
  refine cdt G<|asl G<|?_
  have h0 : xs.length = 0 := by
   have := hs.2.2
   rcases Nat.eq_zero_or_pos xs.length with h | h
   ·exact h
   ·obtain ⟨ad,h1,_⟩ := this h; cases h1
  have h1 : xs = [] := List.length_eq_zero_iff.1 h0
  subst h1
  exact rt1 rfl rfl ⟨_,_,rfl,Kd.R_nil _ _ _ _ _,Below.refl _ _⟩
 | some ad =>
  refine cdf G<|Hr (Kd.int .u8) U26 I5 ?_
  intro A1 c1 w1 hr hb1
  refine ms G<|BW (Kd.int .u8) U26 I5 G (by decide) (by decide) G G hr (Kd.C_below hs hb1) (okp := fun i => some i ≠ (Value.slice A1 0 c1).ownBlock) (fun _ _ h => h) (fun _ h => ⟨trivial,h⟩) (fun _ _ => trivial) hb1.size (by simp; omega) ?_
  intro A2 c2 w2 hr2 hg2
  refine asl G<|?_
  simp only [List.nil_append] at hr2
  exact rt1 rfl rfl ⟨_,_,rfl,hr2,hb1.grown hg2 hb1.size (fun k hk => Kd.R_base hr k hk)⟩
theorem JV (A : Option Addr) (c : Nat) (xs : List Bool) (w : World) (hs : Kd.bool.C w A xs.length xs) (hb : xs.length ≤ 1000000) :
  Calls Tryz.prog 52 #[.slice A xs.length c] w fun e w' => ∃ B c',e = .returned (.slice B xs.length c') ∧ Kd.bool.R 4 w' w.heap.size (fun _ => True) (.slice B xs.length c') xs ∧ Below w.heap.size w w' := by
 refine enter 8 Tryz.func52 G G _ (by simp) ?_
 refine asl G<|ms G<|oen U33 G<|?_
 cases A with
 | none =>
  refine cdt G<|asl G<|?_
  have h0 : xs.length = 0 := by
   have := hs.2.2
   rcases Nat.eq_zero_or_pos xs.length with h | h
   ·exact h
   ·obtain ⟨ad,h1,_⟩ := this h; cases h1
  have h1 : xs = [] := List.length_eq_zero_iff.1 h0
  subst h1
  exact rt1 rfl rfl ⟨_,_,rfl,Kd.R_nil _ _ _ _ _,Below.refl _ _⟩
 | some ad =>
  refine cdf G<|Hr Kd.bool U33 I4 ?_
  intro A1 c1 w1 hr hb1
  refine ms G<|BW Kd.bool U33 I4 G (by decide) (by decide) G G hr (Kd.C_below hs hb1) (okp := fun i => some i ≠ (Value.slice A1 0 c1).ownBlock) (fun _ _ h => h) (fun _ h => ⟨trivial,h⟩) (fun _ _ => trivial) hb1.size (by simp; omega) ?_
  intro A2 c2 w2 hr2 hg2
  refine asl G<|?_
  simp only [List.nil_append] at hr2
  exact rt1 rfl rfl ⟨_,_,rfl,hr2,hb1.grown hg2 hb1.size (fun k hk => Kd.R_base hr k hk)⟩
theorem clone103 (A : Option Addr) (c : Nat) (xs : List Ed) (w : World) (hs : Ed.kd.C w A xs.length xs) (hb : xs.length ≤ 1000000) :
  Calls Tryz.prog 103 #[.slice A xs.length c] w fun e w' => ∃ B c',e = .returned (.slice B xs.length c') ∧ Ed.kd.R 71 w' w.heap.size (fun _ => True) (.slice B xs.length c') xs ∧ Below w.heap.size w w' := by
 refine enter 8 Tryz.func103 G G _ (by simp) ?_
 refine asl G<|ms G<|oen U23 G<|?_
 cases A with
 | none =>
  refine cdt G<|asl G<|?_
  have h0 : xs.length = 0 := by
   have := hs.2.2
   rcases Nat.eq_zero_or_pos xs.length with h | h
   ·exact h
   ·obtain ⟨ad,h1,_⟩ := this h; cases h1
  have h1 : xs = [] := List.length_eq_zero_iff.1 h0
  subst h1
  exact rt1 rfl rfl ⟨_,_,rfl,Kd.R_nil _ _ _ _ _,Below.refl _ _⟩
 | some ad =>
  refine cdf G<|Hr Ed.kd U23 I71 ?_
  intro A1 c1 w1 hr hb1
  refine ms G<|BW Ed.kd U23 I71 G (by decide) (by decide) G G hr (Kd.C_below hs hb1) (okp := fun i => some i ≠ (Value.slice A1 0 c1).ownBlock) (fun _ _ h => h) (fun _ h => ⟨trivial,h⟩) (fun _ _ => trivial) hb1.size (by simp; omega) ?_
  intro A2 c2 w2 hr2 hg2
  refine asl G<|?_
  simp only [List.nil_append] at hr2
  exact rt1 rfl rfl ⟨_,_,rfl,hr2,hb1.grown hg2 hb1.size (fun k hk => Kd.R_base hr k hk)⟩
theorem CY : (Tryz.prog.info? 22).map (fun i => (i.zero,i.size,i.bytes)) = some (some (.slice none 0 0),1,24) := by kernel_rfl
abbrev Kii : Kd (List Int) := Kd.slice 3 (Kd.int .i64)
theorem Fi (A : Option Addr) (c : Nat) (xss : List (List Int)) (w : World) (hs : Kii.C w A xss.length xss) (hb : xss.length ≤ 1000000) (hl : ∀ r ∈ xss,r.length ≤ 1000000) :
  Calls Tryz.prog 51 #[.slice A xss.length c] w fun e w' => ∃ B c',e = .returned (.slice B xss.length c') ∧ Kii.R 22 w' w.heap.size (fun _ => True) (.slice B xss.length c') xss ∧ Below w.heap.size w w' := by
 refine enter 18 Tryz.func51 G G _ (by simp) ?_
 refine asl G<|ms G<|oln U27 G<|mi G<|lp (σ := Nat × Option Addr × Nat) (fun s => [(2,.slice s.2.1 s.1 s.2.2),(5,.slice A xss.length c),(6,.int .i64 xss.length),(7,.int .i64 s.1)])
  (fun s V => s.1 ≤ xss.length ∧ Below w.heap.size w V ∧ Kii.R 22 V w.heap.size (fun _ => True) (.slice s.2.1 s.1 s.2.2) (xss.take s.1)) (fun s => xss.length - s.1) (0,none,0) ⟨rfl,rfl,rfl,rfl,rfl⟩ ⟨Nat.zero_le _,Below.refl _ _,Kd.R_nil _ _ _ _ _⟩ ?_
 rintro ⟨k,A',c'⟩ f V ⟨hk,hB,hR⟩
 simp only at hk hR
 refine olt G G<|cdd G (fun h => ?_) (fun h => ?_)
 ·have h : k < xss.length := Int.ofNat_lt.1 h
  obtain ⟨row,hrow⟩ : ∃ row,xss[k]? = some row := ⟨_,gE h⟩
  obtain ⟨adS,cc,rfl,_,⟨RA,rc,rfl,hrc,hRow⟩,hcS⟩ := DG hs hrow
  have hcS : V.cell? (adS.add (k * 1)) = some (.slice RA row.length rc) := Ae hB (hcS 0 _ rfl)
  refine AD U27 Z22 G G (by first | assumption | omega)<|old G22 G ‹_›<|asl G<|?_
  refine ms G<|ms G<|cl C53 [] G ((EC RA rc row V (Kd.C_below hRow hB) (hl row (List.mem_of_getElem? hrow))).mono ?_)
  rintro e V1 ⟨B,cB,rfl,hr,hb1⟩
  refine ⟨_,rfl,?_⟩
  have hB1 := Ad hB hb1
  have hout : ∀ b,(Value.slice A' k c').ownBlock = some b → b < V.heap.size := fun b hb => by
   obtain ⟨cells,hc⟩ := Kd.R_typed hR b hb
   exact Am hc
  have hR1 := EV (Kd.R_below hR hb1)
  have hlen : (xss.take k).length = k := by rw [List.length_take]; omega
  have hp : Kii.M V1 w.heap.size (fun i => some i ≠ (Value.slice A' k c').ownBlock) row [.slice B row.length cB] :=
   Kd.M_row (Kd.R_lower (Kd.R_mono (Kd.R_bound hr) (fun i hi e => by have := hout i e.symm; have := hi.2.1; omega)) hB.size)
  refine EJ (bytes := 24) (m := k) (c := c') (A := A') Kii (p := row) (cs := [.slice B row.length cB]) U27 CY G (by decide) (by decide) G (by simp) G (AJ U27 CY G G) hR1 hp (fun i hi => ⟨trivial,hi⟩) (fun _ _ => trivial) hB1.size (by rw [hlen]; omega) ?_
  intro A2 c2 V2 hR2 hg2
  have htk : xss.take k ++ [row] = xss.take (k + 1) := by rw [List.take_succ_eq_append_getElem h]; rw [gE h] at hrow; injection hrow with e; rw [e]
  rw [htk] at hR2 ⊢
  have hl2 : (xss.take (k + 1)).length = k + 1 := by rw [List.length_take]; omega
  rw [hl2] at hR2 ⊢
  refine asl G<|oad G G (by first | assumption | omega)<|mi G<|?_
  exact ⟨(k + 1,A2,c2),⟨rfl,rfl,rfl,rfl,rfl⟩,⟨h,hB1.grown hg2 hB1.size (fun b hb => Kd.R_base hR b hb),hR2⟩,Nat.sub_lt_sub_left h (Nat.lt_succ_self k)⟩
 ·have hkn : k = xss.length := by omega
  subst hkn
  rw [List.take_length] at hR
  refine ms G<|asl G<|?_
  exact rt1 rfl rfl ⟨A',c',rfl,hR,hB⟩
end
end Go.Proofs.YtmjllchdhcdinaaGreatDoor

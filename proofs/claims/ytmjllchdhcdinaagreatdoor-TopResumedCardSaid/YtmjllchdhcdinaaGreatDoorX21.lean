/- Part of the proof: Ya. -/
import Derived.Test.YtmjllchdhcdinaaGreatDoorX20
import Derived.ProofKit
import Derived.OpenShut
import Derived.LaidMore
import Derived.Lay
import Derived.Stop.Joined
set_option linter.unusedVariables false
set_option linter.unusedSimpArgs false
set_option maxRecDepth 100000
set_option maxHeartbeats 8000000
namespace Go.Proofs.YtmjllchdhcdinaaGreatDoor
section
open Go Go.RowKit Go.Proofs.YtmjllchdhcdinaaGreatDoorW.PrintWords
open Go.ChangeShapes Go.WideShapes Go.ChangeAt
theorem wf8 {p : Int} (h : (Lit.int .u8 p).wf = true) : 0 ≤ p ∧ p ≤ 255 := by
 have h : (decide ((0 : Int) ≤ p) && decide (p ≤ 255)) = true := h
 simpa using h
theorem D6 {c i : Nat} {l : List Value} {v u : Value} (hc : c = 1) (hu : l[i]? = some u) (h : List.take c (List.drop i l) = [v]) : u = v := by
 subst hc
 have h1 := congrArg (fun x => x[0]?) h
 simp only [List.getElem?_take,List.getElem?_drop,Nat.add_zero,hu] at h1
 simpa using h1
theorem FV {β : Type} {p : Nat → β → Prop} : ∀ n : Nat,(∀ i,i < n → ∃ y,p i y) → ∃ ys : List β,ys.length = n ∧ ∀ i y,ys[i]? = some y → p i y
 | 0,_ => ⟨[],rfl,fun i y h => by cases h⟩
 | n + 1,h => by
  obtain ⟨ys,hl,hp⟩ := FV n (fun i hi => h i (by omega))
  obtain ⟨y,hy⟩ := h n (by omega)
  refine ⟨ys ++ [y],by simp [hl],fun i z hz => ?_⟩
  rcases Nat.lt_or_ge i n with hi | hi
  ·rw [List.getElem?_append_left (by omega)] at hz
   exact hp i z hz
  ·have hin : i = n := by
    have := (List.getElem?_eq_some_iff.1 hz).1
    simp at this
    omega
   subst hin
   rw [List.getElem?_append_right (by omega),hl,Nat.sub_self] at hz
   injection hz with e
   exact e ▸ hy
section
variable {H : Type} {enc : TypeId × Value → H} {w : World} {base : Nat} {sp : Nat → Bool} {held : Bool}
theorem Ct {α : Type} (d : Kd α) {q : α → Prop} {t e : TypeId} (ht : Tryz.prog.underlying t = some (.slice e)) (hsz : Tryz.prog.cellsOf e = d.sz) (hel : ∀ fuel cs x,DataW.trod enc Tryz.prog w base sp held fuel e cs = some x → ∃ y,d.K w y cs ∧ q y)
  {fuel : Nat} {cs : List Value} {x : DataW H × List MemPlace} (h : DataW.trod enc Tryz.prog w base sp held fuel t cs = some x) : ∃ A cap ys,cs = [.slice A ys.length cap] ∧ ys.length ≤ cap ∧ d.C w A ys.length ys ∧ ∀ y ∈ ys,q y := by
 rcases DataW.trod_slice ht h with ⟨hc,_⟩ | ⟨a,len,cap,elems,rest,n,_,hcs,_,_,hl,hm,hlen,hE,_⟩
 ·exact ⟨none,0,[],hc,Nat.le_refl _,⟨rfl,Nat.zero_le _,fun h => absurd h (Nat.lt_irrefl _)⟩,fun y hy => by cases hy⟩
 ·obtain ⟨ys,hyl,hys⟩ := FV (p := fun i y => q y ∧ ∃ c,d.K w y c ∧ ∀ (j : Nat) (u : Value),c[j]? = some u → w.cell? (a.add (i * d.sz + j)) = some u) len (fun i hi => by
   have h1 := hE i hi
   rw [gE (by omega),Option.bind_eq_some_iff] at h1
   obtain ⟨c,hc,hx⟩ := h1
   obtain ⟨y,hK,hq⟩ := hel _ _ _ hx
   obtain ⟨_,hcl,hcc⟩ := World.cells?_some hc
   refine ⟨y,hq,c,hK,fun j u hu => ?_⟩
   have hj : j < Tryz.prog.cellsOf e := by rw [← hcl]; exact (List.getElem?_eq_some_iff.1 hu).1
   have := hcc j hj
   rw [hu,hsz,Addr.add_add] at this
   exact this)
  subst hyl
  refine ⟨some a,cap,ys,hcs,hl,⟨rfl,Nat.le_trans hl (Nat.le_trans hm (by decide)),fun _ => ⟨a,rfl,fun j y hy => ?_⟩⟩,fun y hy => ?_⟩
  ·obtain ⟨_,c,hK,hc⟩ := hys j y hy
   exact ⟨c,d.K_len hK,hK,hc⟩
  ·obtain ⟨i,hi,rfl⟩ := List.getElem_of_mem hy
   exact (hys i _ (gE hi)).1
theorem FE {k : IntKind} {e : TypeId} (he : Tryz.prog.underlying e = some (.int k)) (fuel : Nat) (cs : List Value) (x : DataW H × List MemPlace) (h : DataW.trod enc Tryz.prog w base sp held fuel e cs = some x) : ∃ y : Int,(Kd.int k).K w y cs ∧ (Lit.int k y).wf = true := by
 obtain ⟨n,h1,_,h2⟩ := DataW.trod_int he h
 exact ⟨n,h1,h2⟩
theorem el_row (fuel : Nat) (cs : List Value) (x : DataW H × List MemPlace) (h : DataW.trod enc Tryz.prog w base sp held fuel 22 cs = some x) : ∃ y : List Int,Kii.K w y cs ∧ True := by
 obtain ⟨A,cap,ys,h1,h2,h3,_⟩ := Ct (Kd.int .i64) Tryz.underlying22 (by kernel_rfl) (FE Tryz.underlying3) h
 exact ⟨ys,⟨A,cap,h1,h2,h3⟩,trivial⟩
theorem el_ed (fuel : Nat) (cs : List Value) (x : DataW H × List MemPlace) (h : DataW.trod enc Tryz.prog w base sp held fuel 71 cs = some x) : ∃ y : Ed,Ed.kd.K w y cs ∧ ((0 ≤ y.care ∧ y.care ≤ 255) ∧ 0 ≤ y.want ∧ y.want ≤ 255) := by
 have c3 : Tryz.prog.cellsOf 3 = 1 := by kernel_rfl
 have c5 : Tryz.prog.cellsOf 5 = 1 := by kernel_rfl
 have c71 : Tryz.prog.cellsOf 71 = 4 := by kernel_rfl
 obtain ⟨xs,n,_,_,hl,hxl,hf⟩ := DataW.trod_struct Tryz.underlying71 h
 have hxl : xs.length = 4 := hxl
 have h0 := hf 0 _ rfl
 have h1 := hf 1 _ rfl
 have h2 := hf 2 _ rfl
 have h3 := hf 3 _ rfl
 rw [gE (by omega)] at h0 h1 h2 h3
 obtain ⟨a,e0,_,_⟩ := DataW.trod_int Tryz.underlying3 h0
 obtain ⟨b,e1,_,_⟩ := DataW.trod_int Tryz.underlying3 h1
 obtain ⟨p,e2,_,w2⟩ := DataW.trod_int Tryz.underlying5 h2
 obtain ⟨r,e3,_,w3⟩ := DataW.trod_int Tryz.underlying5 h3
 rw [c71] at hl
 match cs,hl,e0,e1,e2,e3 with
 | [u0,u1,u2,u3],_,e0,e1,e2,e3 =>
  obtain rfl := D6 c3 (i := 0) (l := [u0,u1,u2,u3]) rfl e0
  obtain rfl := D6 c3 (i := 1) (l := [_,u1,u2,u3]) rfl e1
  obtain rfl := D6 c5 (i := 2) (l := [_,_,u2,u3]) rfl e2
  obtain rfl := D6 c5 (i := 3) (l := [_,_,_,u3]) rfl e3
  refine ⟨⟨a,b,p,r⟩,rfl,?_⟩
  exact ⟨wf8 w2,wf8 w3⟩
theorem open_na {v : Value} {d : DataW H} {p : List MemPlace} {b0 : Nat} (hv : Value.okWide Tryz.prog w .any b0 25 v) (h : DataW.Trod enc Tryz.prog w base sp held 25 v d p) : ∃ (vv s : Int) (st fi : List Int) (es : List Ed) (SA FA EA : Option Addr) (cs cf ce : Nat),v = .agg #[.int .i64 vv,.int .i64 s,.slice SA st.length cs,.slice FA fi.length cf,.slice EA es.length ce] ∧
  (Kd.int .i64).C w SA st.length st ∧ (Kd.int .i64).C w FA fi.length fi ∧ Ed.kd.C w EA es.length es ∧ ∀ e ∈ es,(0 ≤ e.care ∧ e.care ≤ 255) ∧ 0 ≤ e.want ∧ e.want ≤ 255 := by
 have c3 : Tryz.prog.cellsOf 3 = 1 := by kernel_rfl
 have c22 : Tryz.prog.cellsOf 22 = 1 := by kernel_rfl
 have c23 : Tryz.prog.cellsOf 23 = 1 := by kernel_rfl
 have c25 : Tryz.prog.cellsOf 25 = 5 := by kernel_rfl
 unfold Value.okWide at hv
 rw [Tryz.underlying25] at hv
 obtain ⟨cs0,rfl,_,_⟩ := hv
 obtain ⟨cells⟩ := cs0
 obtain ⟨fuel,h⟩ := h
 have h : DataW.trod enc Tryz.prog w base sp held fuel 25 cells = some (d,p) := h
 obtain ⟨xs,n,_,_,hl,hxl,hf⟩ := DataW.trod_struct Tryz.underlying25 h
 have hxl : xs.length = 5 := hxl
 have h0 := hf 0 _ rfl
 have h1 := hf 1 _ rfl
 have h2 := hf 2 _ rfl
 have h3 := hf 3 _ rfl
 have h4 := hf 4 _ rfl
 rw [gE (by omega)] at h0 h1 h2 h3 h4
 obtain ⟨a,e0,_,_⟩ := DataW.trod_int Tryz.underlying3 h0
 obtain ⟨b,e1,_,_⟩ := DataW.trod_int Tryz.underlying3 h1
 obtain ⟨SA,cs,st,e2,_,k2,_⟩ := Ct (Kd.int .i64) Tryz.underlying22 (by kernel_rfl) (FE Tryz.underlying3) h2
 obtain ⟨FA,cf,fi,e3,_,k3,_⟩ := Ct (Kd.int .i64) Tryz.underlying22 (by kernel_rfl) (FE Tryz.underlying3) h3
 obtain ⟨EA,ce,es,e4,_,k4,k5⟩ := Ct Ed.kd Tryz.underlying23 (by kernel_rfl) el_ed h4
 rw [c25] at hl
 match cells,hl,e0,e1,e2,e3,e4 with
 | [u0,u1,u2,u3,u4],_,e0,e1,e2,e3,e4 =>
  obtain rfl := D6 c3 (i := 0) (l := [u0,u1,u2,u3,u4]) rfl e0
  obtain rfl := D6 c3 (i := 1) (l := [_,u1,u2,u3,u4]) rfl e1
  obtain rfl := D6 c22 (i := 2) (l := [_,_,u2,u3,u4]) rfl e2
  obtain rfl := D6 c22 (i := 3) (l := [_,_,_,u3,u4]) rfl e3
  obtain rfl := D6 c23 (i := 4) (l := [_,_,_,_,u4]) rfl e4
  exact ⟨a,b,st,fi,es,SA,FA,EA,cs,cf,ce,rfl,k2,k3,k4,k5⟩
theorem open_gl {v : Value} {d : DataW H} {p : List MemPlace} {b0 : Nat} (hv : Value.okWide Tryz.prog w .any b0 29 v) (h : DataW.Trod enc Tryz.prog w base sp held 29 v d p) : ∃ (g : GL) (OA PA UA : Option Addr) (co cp cu : Nat),v = .agg #[.slice OA g.own.length co,.slice PA g.pri.length cp,.slice UA g.suc.length cu] ∧ GR g w OA PA UA ∧ ∀ x ∈ g.own,0 ≤ x := by
 have c26 : Tryz.prog.cellsOf 26 = 1 := by kernel_rfl
 have c22 : Tryz.prog.cellsOf 22 = 1 := by kernel_rfl
 have c27 : Tryz.prog.cellsOf 27 = 1 := by kernel_rfl
 have c29 : Tryz.prog.cellsOf 29 = 3 := by kernel_rfl
 unfold Value.okWide at hv
 rw [Tryz.underlying29] at hv
 obtain ⟨cs0,rfl,_,_⟩ := hv
 obtain ⟨cells⟩ := cs0
 obtain ⟨fuel,h⟩ := h
 have h : DataW.trod enc Tryz.prog w base sp held fuel 29 cells = some (d,p) := h
 obtain ⟨xs,n,_,_,hl,hxl,hf⟩ := DataW.trod_struct Tryz.underlying29 h
 have hxl : xs.length = 3 := hxl
 have h0 := hf 0 _ rfl
 have h1 := hf 1 _ rfl
 have h2 := hf 2 _ rfl
 rw [gE (by omega)] at h0 h1 h2
 obtain ⟨OA,co,own,e0,_,k0,b0'⟩ := Ct (Kd.int .u8) Tryz.underlying26 (by kernel_rfl) (FE Tryz.underlying5) h0
 obtain ⟨PA,cp,pri,e1,_,k1,_⟩ := Ct (Kd.int .i64) Tryz.underlying22 (by kernel_rfl) (FE Tryz.underlying3) h1
 obtain ⟨UA,cu,suc,e2,_,k2,_⟩ := Ct Kii Tryz.underlying27 (by kernel_rfl) el_row h2
 rw [c29] at hl
 match cells,hl,e0,e1,e2 with
 | [u0,u1,u2],_,e0,e1,e2 =>
  obtain rfl := D6 c26 (i := 0) (l := [u0,u1,u2]) rfl e0
  obtain rfl := D6 c22 (i := 1) (l := [_,u1,u2]) rfl e1
  obtain rfl := D6 c27 (i := 2) (l := [_,_,u2]) rfl e2
  exact ⟨⟨own,pri,suc⟩,OA,PA,UA,co,cp,cu,rfl,⟨k0,k1,k2⟩,fun x hx => (wf8 (b0' x hx)).1⟩
theorem JJ {v : Value} {d : DataW H} {p : List MemPlace} {b0 : Nat} (hv : Value.okWide Tryz.prog w .any b0 26 v) (h : DataW.Trod enc Tryz.prog w base sp held 26 v d p) : ∃ (xs : List Int) (XA : Option Addr) (xc : Nat),v = .slice XA xs.length xc ∧ (Kd.int .u8).C w XA xs.length xs ∧ ∀ x ∈ xs,0 ≤ x ∧ x ≤ 255 := by
 obtain ⟨a,l,c,rfl⟩ := okWide_slice Tryz.underlying26 hv
 obtain ⟨fuel,h⟩ := h
 obtain ⟨A,cap,ys,e,_,k,hb⟩ := Ct (Kd.int .u8) Tryz.underlying26 (by kernel_rfl) (FE Tryz.underlying5) h
 have e : [Value.slice a l c] = [Value.slice A ys.length cap] := e
 simp only [List.cons.injEq,and_true] at e
 exact ⟨ys,A,cap,e,k,fun x hx => wf8 (hb x hx)⟩
end
end
end Go.Proofs.YtmjllchdhcdinaaGreatDoor

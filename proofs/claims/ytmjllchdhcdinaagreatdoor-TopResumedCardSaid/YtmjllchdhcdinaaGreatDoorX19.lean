/- Part of the proof: T10 T11 T12 T13 T14 T15 T16 T17 T18. -/
import Derived.Test.YtmjllchdhcdinaaGreatDoorX18
set_option linter.unusedVariables false
set_option linter.unusedSimpArgs false
set_option maxRecDepth 100000
set_option maxHeartbeats 8000000
namespace Go.Proofs.YtmjllchdhcdinaaGreatDoor
section
open Go Fm Go.RowKit Go.Proofs.YtmjllchdhcdinaaGreatDoorW.PrintWords
def GL.nums (g : GL) : List Nat := [g.own.length] ++ toN g.own ++ toN g.pri ++ g.suc.flatMap (fun r => r.length :: toN r)
structure GB (base r g b : Nat) (W0 : World) (ns : List Nat) (d : GL) (W : World) : Prop where
 rd : Rd base r ns W
 gb : W0.grownBy W (some r)
 bb : W.heap[b]? = some (.cells [.pointer (some ⟨r,0,none⟩)].toArray 175 (0,0))
 at_ : ∃ OA PA SA co cp cS,W.heap[g]? = some (.cells (gsl d OA PA SA co cp cS).toArray 29 (0,0)) ∧ (Kd.int .u8).R 5 W W0.heap.size (fun _ => True) (.slice OA d.own.length co) d.own ∧ (Kd.int .i64).R 3 W W0.heap.size (fun _ => True) (.slice PA d.pri.length cp) d.pri ∧ Kii.R 22 W W0.heap.size (fun _ => True) (.slice SA d.suc.length cS) d.suc ∧ (d.suc = [] → SA = none ∧ cS = 0)
 hg : W0.heap.size ≤ g
theorem GB.below {base r g b : Nat} {W0 W W1 : World} {ns : List Nat} {d : GL} (h : GB base r g b W0 ns d W) (hb : Below W.heap.size W W1) : GB base r g b W0 ns d W1 := by
 obtain ⟨OA,PA,SA,co,cp,cS,h1,h2,h3,h4,h5⟩ := h.at_
 exact ⟨h.rd.below hb,h.gb.trans (Ap hb _),Ab h.bb hb,⟨OA,PA,SA,co,cp,cS,Ab h1 hb,Kd.R_below h2 hb,Kd.R_below h3 hb,Kd.R_below h4 hb,h5⟩,h.hg⟩
theorem GB.go {base r g b : Nat} {W0 W W1 : World} {ns ms : List Nat} {d : GL} (h : GB base r g b W0 ns d W) (hr : Rd base r ms W1) (hg : W.grownBy W1 (some r)) : GB base r g b W0 ms d W1 := by
 obtain ⟨OA,PA,SA,co,cp,cS,h1,h2,h3,h4,h5⟩ := h.at_
 exact ⟨hr,h.gb.trans hg,h.rd.other hg h.bb (by decide),⟨OA,PA,SA,co,cp,cS,h.rd.other hg h1 (by decide),h.rd.keep hg h2 (by decide),h.rd.keep hg h3 (by decide),h.rd.keep hg h4 (by decide),h5⟩,h.hg⟩
theorem c136 (base r g b n : Nat) (W0 : World) (ns : List Nat) (d : GL) (w : World) (h : GB base r g b W0 (n :: ns) d w) (hn : n ≤ 100) (hl : d.own.length ≤ 100000) :
  Calls Tryz.prog 136 #[.pointer (some ⟨g,0,none⟩),.pointer (some ⟨b,0,none⟩)] w fun e w' => e = .returned (.tuple #[]) ∧ GB base r g b W0 ns { d with own := d.own ++ [(n : Int)] } w' := by
 refine enter 9 Tryz.func136 G G _ (by simp) ?_
 obtain ⟨OA,PA,SA,co,cp,cS,h1,h2,h3,h4,h5⟩ := h.at_
 refine Bv 7 mixed (fun V => V.heap[g]? = some (.cells (gsl d OA PA SA co cp cS).toArray 29 (0,0)) ∧ V.heap[b]? = some (.cells [.pointer (some ⟨r,0,none⟩)].toArray 175 (0,0))) ?_
 intro w1 hb1 _ _
 have hbb := Ab h.bb hb1
 have hrd := h.rd.below hb1
 have hgb := h.gb.trans (Ap hb1 _)
 have hgW := h.hg
 have h1 := Ab h1 hb1
 have h2 := Kd.R_below h2 hb1
 have h3 := Kd.R_below h3 hb1
 have h4 := Kd.R_below h4 hb1
 have hS := (⟨h1,hbb⟩ : w1.heap[g]? = some (.cells (gsl d OA PA SA co cp cS).toArray 29 (0,0)) ∧ w1.heap[b]? = some (.cells [.pointer (some ⟨r,0,none⟩)].toArray 175 (0,0)))
 clear hb1 h
 refine Ay 0 G (by kernel_rfl) (fun _ _ _ h => h) G (fun v _ => AQ BQ G v) hS<|Ay 1 G (by kernel_rfl) (fun _ _ _ h => h) G (fun v hv => Ai G26 G ((Ac hv.1 _).trans G)) hS<|Ay 2 G (by kernel_rfl) (fun _ _ _ h => h) G (fun v hv => Ai Cy G ((Ac hv.2 _).trans G)) hS<|Aq 3 (by kernel_rfl) G<|cl Lb [] G ((E1 base r n 255 ns w1 hrd (by omega) hn).mono ?_)
 rintro e w2 ⟨rfl,hrdN,hgN⟩
 have hbb := hrd.other hgN hbb (by decide)
 have h1 := hrd.other hgN h1 (by decide)
 have h2 := hrd.keep hgN h2 (by decide)
 have h3 := hrd.keep hgN h3 (by decide)
 have h4 := hrd.keep hgN h4 (by decide)
 have hgb := hgb.trans hgN
 have hrd := hrdN
 have hS := (⟨h1,hbb⟩ : w2.heap[g]? = some (.cells (gsl d OA PA SA co cp cS).toArray 29 (0,0)) ∧ w2.heap[b]? = some (.cells [.pointer (some ⟨r,0,none⟩)].toArray 175 (0,0)))
 clear hgN hrdN
 refine ⟨_,rfl,fun _ => hS,?_⟩
 refine Aq 4 (by kernel_rfl) G<|BH (AJ (u := .int .u8 (n : Nat)) U26 I5 G G) ⟨fun _ => ⟨Ab h1 (AP (Below.refl _ _) _),Ab hbb (AP (Below.refl _ _) _)⟩,?_⟩
 refine Aq 5 (by kernel_rfl) G<|Eg (bytes := 1) (Kd.int .u8) (m := d.own.length) (c := co) (A := OA) (p := (n : Int)) (okp := fun _ => False) U26 I5 G (by decide) (by decide) G G h2 G (fun k hk => hk.elim) (fun _ _ => trivial) hgb.size (by omega) ?_
 intro A3 c3 w3 hR3 hg3
 have h13 := Br h1 (Kd.R_typed h2) hg3 (by decide)
 have hbb3 := Br hbb (Kd.R_typed h2) hg3 (by decide)
 have hrd3 := hrd.row h2 (by decide) (by decide) hg3
 have h33 := Kd.R_over' h3 (Kd.R_typed h2) (by decide) hg3
 have h43 := Kd.R_over' h4 (Kd.R_typed h2) (by decide) hg3
 have hgb3 := AF hgb hg3 (fun k hk => Kd.R_base h2 k hk)
 refine ⟨fun _ => ⟨h13,hbb3⟩,?_⟩
 refine Aq 6 (by kernel_rfl) G<|ofa BQ G ⟨fun _ => ⟨h13,hbb3⟩,?_⟩
 refine Aq 7 (by kernel_rfl) G<|Bc (v := .slice A3 (d.own ++ [(n : Int)]).length c3) (cs := gsl d OA PA SA co cp cS) (i := 0 + 0) S26 G G G h13 (by simp) ?_
 intro w4 h14 hg4
 refine ⟨fun h => absurd h (by decide),?_⟩
 refine Bw (by kernel_rfl) ?_
 exact rt0 rfl ⟨rfl,hrd3.typed h13 (by decide) (by decide) hg4,AF hgb3 hg4 (fun k e => by cases e; exact hgW),(hg4.block b (Am hbb3) (fun e => An hbb3 h13 (by decide) (by injection e))).trans hbb3,⟨A3,PA,SA,c3,cp,cS,h14,Ah hR3 h13 (by decide) hg4,Ah h33 h13 (by decide) hg4,Ah h43 h13 (by decide) hg4,h5⟩,hgW⟩
theorem c137 (base r g b n : Nat) (W0 : World) (ns : List Nat) (d : GL) (w : World) (h : GB base r g b W0 (n :: ns) d w) (hsuc : d.suc = []) (hl : d.pri.length ≤ 100000) :
  Calls Tryz.prog 137 #[.pointer (some ⟨g,0,none⟩),.pointer (some ⟨b,0,none⟩)] w fun e w' => e = .returned (.tuple #[]) ∧ GB base r g b W0 ns { d with pri := d.pri ++ [(n : Int)] } w' := by
 refine enter 9 Tryz.func137 G G _ (by simp) ?_
 obtain ⟨OA,PA,SA,co,cp,cS,h1,h2,h3,h4,h5⟩ := h.at_
 refine Bv 7 mixed (fun V => V.heap[g]? = some (.cells (gsl d OA PA SA co cp cS).toArray 29 (0,0)) ∧ V.heap[b]? = some (.cells [.pointer (some ⟨r,0,none⟩)].toArray 175 (0,0))) ?_
 intro w1 hb1 _ _
 have hbb := Ab h.bb hb1
 have hrd := h.rd.below hb1
 have hgb := h.gb.trans (Ap hb1 _)
 have hgW := h.hg
 have h1 := Ab h1 hb1
 have h2 := Kd.R_below h2 hb1
 have h3 := Kd.R_below h3 hb1
 have hS := (⟨h1,hbb⟩ : w1.heap[g]? = some (.cells (gsl d OA PA SA co cp cS).toArray 29 (0,0)) ∧ w1.heap[b]? = some (.cells [.pointer (some ⟨r,0,none⟩)].toArray 175 (0,0)))
 clear hb1 h
 refine Ay 0 G (by kernel_rfl) (fun _ _ _ h => h) G (fun v _ => AQ Cs G v) hS<|Ay 1 G (by kernel_rfl) (fun _ _ _ h => h) G (fun v hv => Ai G22 G ((Ac hv.1 _).trans G)) hS<|Ay 2 G (by kernel_rfl) (fun _ _ _ h => h) G (fun v hv => Ai Cy G ((Ac hv.2 _).trans G)) hS<|Aq 3 (by kernel_rfl) G<|cl C95 [] G ((BL base r n ns w1 hrd).mono ?_)
 rintro e w2 ⟨rfl,hrdN,hgN⟩
 have hbb := hrd.other hgN hbb (by decide)
 have h1 := hrd.other hgN h1 (by decide)
 have h2 := hrd.keep hgN h2 (by decide)
 have h3 := hrd.keep hgN h3 (by decide)
 have hgb := hgb.trans hgN
 have hrd := hrdN
 have hS := (⟨h1,hbb⟩ : w2.heap[g]? = some (.cells (gsl d OA PA SA co cp cS).toArray 29 (0,0)) ∧ w2.heap[b]? = some (.cells [.pointer (some ⟨r,0,none⟩)].toArray 175 (0,0)))
 clear hgN hrdN
 refine ⟨_,rfl,fun _ => hS,?_⟩
 refine Aq 4 (by kernel_rfl) G<|BH (AJ (u := .int .i64 (n : Nat)) U22 I3 G G) ⟨fun _ => ⟨Ab h1 (AP (Below.refl _ _) _),Ab hbb (AP (Below.refl _ _) _)⟩,?_⟩
 refine Aq 5 (by kernel_rfl) G<|Eg (bytes := 8) (Kd.int .i64) (m := d.pri.length) (c := cp) (A := PA) (p := (n : Int)) (okp := fun _ => False) U22 I3 G (by decide) (by decide) G G h3 G (fun k hk => hk.elim) (fun _ _ => trivial) hgb.size (by omega) ?_
 intro A3 c3 w3 hR3 hg3
 have h13 := Br h1 (Kd.R_typed h3) hg3 (by decide)
 have hbb3 := Br hbb (Kd.R_typed h3) hg3 (by decide)
 have hrd3 := hrd.row h3 (by decide) (by decide) hg3
 have h23 := Kd.R_over' h2 (Kd.R_typed h3) (by decide) hg3
 have hgb3 := AF hgb hg3 (fun k hk => Kd.R_base h3 k hk)
 refine ⟨fun _ => ⟨h13,hbb3⟩,?_⟩
 refine Aq 6 (by kernel_rfl) G<|ofa Cs G ⟨fun _ => ⟨h13,hbb3⟩,?_⟩
 refine Aq 7 (by kernel_rfl) G<|Bc (v := .slice A3 (d.pri ++ [(n : Int)]).length c3) (cs := gsl d OA PA SA co cp cS) (i := 0 + 1) S22 G G G h13 (by simp) ?_
 intro w4 h14 hg4
 refine ⟨fun h => absurd h (by decide),?_⟩
 refine Bw (by kernel_rfl)<|rt0 rfl ⟨rfl,hrd3.typed h13 (by decide) (by decide) hg4,AF hgb3 hg4 (fun k e => by cases e; exact hgW),(hg4.block b (Am hbb3) (fun e => An hbb3 h13 (by decide) (by injection e))).trans hbb3,⟨OA,A3,SA,co,c3,cS,h14,Ah h23 h13 (by decide) hg4,Ah hR3 h13 (by decide) hg4,?_,h5⟩,hgW⟩
 obtain ⟨rfl,rfl⟩ := h5 hsuc
 show Kii.R 22 w4 W0.heap.size (fun _ => True) (.slice none d.suc.length 0) d.suc
 rw [hsuc]
 exact Kd.R_nil _ _ _ _ _
theorem c138 (base r g b : Nat) (W0 : World) (ns : List Nat) (d : GL) (row : List Int) (w : World) (h : GB base r g b W0 (row.length :: (toN row ++ ns)) d w) (hx : ∀ x ∈ row,0 ≤ x) (hrl : row.length ≤ 100000) (hl : d.suc.length ≤ 100000) :
  Calls Tryz.prog 138 #[.pointer (some ⟨g,0,none⟩),.pointer (some ⟨b,0,none⟩)] w fun e w' => e = .returned (.tuple #[]) ∧ GB base r g b W0 ns { d with suc := d.suc ++ [row] } w' := by
 refine enter 11 Tryz.func138 G G _ (by simp) ?_
 obtain ⟨OA,PA,SA,co,cp,cS,h1,h2,h3,h4,h5⟩ := h.at_
 refine Bv 9 mixed (fun V => V.heap[g]? = some (.cells (gsl d OA PA SA co cp cS).toArray 29 (0,0)) ∧ V.heap[b]? = some (.cells [.pointer (some ⟨r,0,none⟩)].toArray 175 (0,0))) ?_
 intro w1 hb1 _ _
 have hbb := Ab h.bb hb1
 have hrd := h.rd.below hb1
 have hgb := h.gb.trans (Ap hb1 _)
 have hgW := h.hg
 have h1 := Ab h1 hb1
 have h2 := Kd.R_below h2 hb1
 have h3 := Kd.R_below h3 hb1
 have h4 := Kd.R_below h4 hb1
 have hS := (⟨h1,hbb⟩ : w1.heap[g]? = some (.cells (gsl d OA PA SA co cp cS).toArray 29 (0,0)) ∧ w1.heap[b]? = some (.cells [.pointer (some ⟨r,0,none⟩)].toArray 175 (0,0)))
 clear hb1 h
 refine Ay 0 G (by kernel_rfl) (fun _ _ _ h => h) G (fun v _ => AQ Dp G v) hS<|Ay 1 G (by kernel_rfl) (fun _ _ _ h => h) G (fun v hv => Ai G27 G ((Ac hv.1 _).trans G)) hS<|Ay 2 G (by kernel_rfl) (fun _ _ _ h => h) G (fun v hv => Ai Cy G ((Ac hv.2 _).trans G)) hS<|Ay 3 G (by kernel_rfl) (fun _ _ _ h => h) G (fun v hv => Ai Cy G ((Ac hv.2 _).trans G)) hS<|Aq 4 (by kernel_rfl) G<|cl C95 [] G ((BL base r _ _ w1 hrd).mono ?_)
 rintro e w2 ⟨rfl,hrdN,hgN⟩
 have hbb := hrd.other hgN hbb (by decide)
 have h1 := hrd.other hgN h1 (by decide)
 have h2 := hrd.keep hgN h2 (by decide)
 have h3 := hrd.keep hgN h3 (by decide)
 have h4 := hrd.keep hgN h4 (by decide)
 have hgb := hgb.trans hgN
 have hrd := hrdN
 have hS := (⟨h1,hbb⟩ : w2.heap[g]? = some (.cells (gsl d OA PA SA co cp cS).toArray 29 (0,0)) ∧ w2.heap[b]? = some (.cells [.pointer (some ⟨r,0,none⟩)].toArray 175 (0,0)))
 clear hgN hrdN
 refine ⟨_,rfl,fun _ => hS,?_⟩
 refine Aq 5 (by kernel_rfl) G ?_
 have hls := F9 base r (toN row) ns w2 hrd (by rw [Be]; omega)
 rw [Be,Cx hx] at hls
 refine cl Lc [] G (hls.mono ?_)
 rintro e w2' ⟨A,c,rfl,hR,hrdN,hgN⟩
 have hz := hgb.size
 have hR := Kd.R_lower hR hz
 have hbb := hrd.other hgN hbb (by decide)
 have h1 := hrd.other hgN h1 (by decide)
 have h2 := hrd.keep hgN h2 (by decide)
 have h3 := hrd.keep hgN h3 (by decide)
 have h4 := hrd.keep hgN h4 (by decide)
 have hgb := hgb.trans hgN
 have hrd := hrdN
 have hS := (⟨h1,hbb⟩ : w2'.heap[g]? = some (.cells (gsl d OA PA SA co cp cS).toArray 29 (0,0)) ∧ w2'.heap[b]? = some (.cells [.pointer (some ⟨r,0,none⟩)].toArray 175 (0,0)))
 clear hgN hrdN
 refine ⟨_,rfl,fun _ => hS,?_⟩
 refine Aq 6 (by kernel_rfl) G<|BH (AJ (u := .slice A row.length c) U27 CY G G) ⟨fun _ => ⟨Ab h1 (AP (Below.refl _ _) _),Ab hbb (AP (Below.refl _ _) _)⟩,?_⟩
 refine Aq 7 (by kernel_rfl) G ?_
 have hR' := Kd.R_apart' (v := .slice SA d.suc.length cS) hR (Kd.R_typed h4) (by decide)
 refine Eg (bytes := 24) Kii (m := d.suc.length) (c := cS) (A := SA) (p := row) (okp := fun i => True ∧ some i ≠ (Value.slice SA d.suc.length cS).ownBlock) U27 CY G (by decide) (by decide) G G h4 (Kd.M_row hR') (fun k hk => ⟨trivial,hk.2⟩) (fun _ _ => trivial) hgb.size (by omega) ?_
 intro A3 c3 w3 hR3 hg3
 have h13 := Br h1 (Kd.R_typed h4) hg3 (by decide)
 have hbb3 := Br hbb (Kd.R_typed h4) hg3 (by decide)
 have hrd3 := hrd.row h4 (by decide) (by decide) hg3
 have h23 := Kd.R_over' h2 (Kd.R_typed h4) (by decide) hg3
 have h33 := Kd.R_over' h3 (Kd.R_typed h4) (by decide) hg3
 have hgb3 := AF hgb hg3 (fun k hk => Kd.R_base h4 k hk)
 refine ⟨fun _ => ⟨h13,hbb3⟩,?_⟩
 refine Aq 8 (by kernel_rfl) G<|ofa Dp G ⟨fun _ => ⟨h13,hbb3⟩,?_⟩
 refine Aq 9 (by kernel_rfl) G<|Bc (v := .slice A3 (d.suc ++ [row]).length c3) (cs := gsl d OA PA SA co cp cS) (i := 0 + 2) S27 G G G h13 (by simp) ?_
 intro w4 h14 hg4
 refine ⟨fun h => absurd h (by decide),?_⟩
 refine Bw (by kernel_rfl) ?_
 exact rt0 rfl ⟨rfl,hrd3.typed h13 (by decide) (by decide) hg4,AF hgb3 hg4 (fun k e => by cases e; exact hgW),(hg4.block b (Am hbb3) (fun e => An hbb3 h13 (by decide) (by injection e))).trans hbb3,⟨OA,PA,A3,co,cp,c3,h14,Ah h23 h13 (by decide) hg4,Ah h33 h13 (by decide) hg4,Ah hR3 h13 (by decide) hg4,fun e => by simp at e⟩,hgW⟩
theorem FS {g : GL} (hF : g.Full) : (∀ x ∈ g.own,0 ≤ x ∧ x ≤ 1) ∧ (∀ x ∈ g.pri,0 ≤ x ∧ x ≤ 16) ∧ ∀ row ∈ g.suc,row.length ≤ 4096 ∧ ∀ x ∈ row,0 ≤ x ∧ x ≤ 4096 := by
 have hm := hF.ok.max
 refine ⟨fun x hx => ?_,fun x hx => ?_,fun row hr => ?_⟩
 ·obtain ⟨v,hv,rfl⟩ := List.getElem_of_mem hx
  have := hF.ok.own v _ (gE hv)
  omega
 ·obtain ⟨v,hv,rfl⟩ := List.getElem_of_mem hx
  exact hF.ok.pri v _ (gE hv)
 ·obtain ⟨v,hv,rfl⟩ := List.getElem_of_mem hr
  obtain ⟨_,h1,h2⟩ := hF.ok.row v _ (gE hv)
  exact ⟨h1,fun x hx => by have := h2 x hx; omega⟩
theorem game91 (base r : Nat) (ns : List Nat) (d : GL) (hF : d.Full) (w : World) (h : Rd base r (d.nums ++ ns) w) :
  Calls Tryz.prog 91 #[.pointer (some ⟨r,0,none⟩)] w fun e w' => ∃ g b,e = .returned (.func (.func 139) #[] #[.pointer (some ⟨g,0,none⟩)]) ∧ GB base r g b w ns d w' := by
 have hmx := hF.ok.max
 have hlp := hF.ok.lp
 have hls := hF.ok.ls
 obtain ⟨hown,hpri,hsuc⟩ := FS hF
 have hnums : d.nums ++ ns = d.own.length :: (toN d.own ++ (toN d.pri ++ (d.suc.flatMap (fun r => r.length :: toN r) ++ ns))) := by simp [GL.nums,List.append_assoc]
 rw [hnums] at h
 refine enter 20 Tryz.func91 G G _ (by simp) ?_
 refine obx (cs := [.pointer (some ⟨r,0,none⟩)]) G G ?_
 intro b w0 hbe hbb hb0
 refine av G<|oal (v := .agg #[.slice none 0 0,.slice none 0 0,.slice none 0 0]) (cs := [.slice none 0 0,.slice none 0 0,.slice none 0 0]) (fun _ => by kernel_rfl) G ?_
 intro g w1 hge hgb hb1
 have hB := Ad hb0 hb1
 have hz := hb0.size
 have hI : GB base r g b w (d.own.length :: (toN d.own ++ (toN d.pri ++ (d.suc.flatMap (fun r => r.length :: toN r) ++ ns)))) ⟨[],[],[]⟩ w1 :=
  ⟨h.below hB,Ap hB _,Ab hbb hb1,⟨none,none,none,0,0,0,hgb,Kd.R_nil _ _ _ _ _,Kd.R_nil _ _ _ _ _,Kd.R_nil _ _ _ _ _,fun _ => ⟨rfl,rfl⟩⟩,by omega⟩
 clear h hbb hb0 hb1 hgb hB
 have hbc : w1.cell? ⟨b,0,none⟩ = some (.pointer (some ⟨r,0,none⟩)) := (Ac hI.bb 0).trans rfl
 have hel : ∀ {i : Nat} {W : World} {ms : List Nat} {x : GL},GB base r g b w ms x W → W.cell? ⟨r,0 + 1,none⟩ = some (.int .i64 0) := fun hI => by
  obtain ⟨A,c,hh,_⟩ := hI.rd.at_
  exact (Ac hh 1).trans rfl
 have hdropN : ∀ (l : List Int) (i : Nat) (hi : i < l.length),toN (l.drop i) = (l[i]).toNat :: toN (l.drop (i + 1)) := fun l i hi => by rw [List.drop_eq_getElem_cons hi]; rfl
 refine old Cy G ‹_›<|cl C95 [] G ((BL base r _ _ w1 hI.rd).mono ?_)
 rintro e w2 ⟨rfl,hrd2,hg2⟩
 have hI := hI.go hrd2 hg2
 refine ⟨_,rfl,?_⟩
 refine ai G<|?_
 have hbc : w2.cell? ⟨b,0,none⟩ = some (.pointer (some ⟨r,0,none⟩)) := (Ac hI.bb 0).trans rfl
 refine old Cy G ‹_›<|mi G<|pl (.func (.func 136) #[] #[.pointer (some ⟨g,0,none⟩),.pointer (some ⟨b,0,none⟩)]) (fun _ => by kernel_rfl)<|cl Jq [] G ((D1 d.own.length 136 r [.pointer (some ⟨g,0,none⟩),.pointer (some ⟨b,0,none⟩)] C136 (fun i W => i ≤ d.own.length ∧ GB base r g b w (toN (d.own.drop i) ++ (toN d.pri ++ (d.suc.flatMap (fun r => r.length :: toN r) ++ ns))) ⟨d.own.take i,[],[]⟩ W) w2 ⟨Nat.zero_le _,hI⟩ ?_ ?_ (by omega)).mono ?_)
 ·rintro i W ⟨_,hI⟩; exact hel (i := i) hI
 ·rintro i W hi ⟨_,hI⟩
  rw [hdropN d.own i hi] at hI
  have hx := hown d.own[i] (List.getElem_mem hi)
  have ht : d.own.take (i + 1) = d.own.take i ++ [((d.own[i].toNat : Nat) : Int)] := by rw [List.take_succ_eq_append_getElem hi]; congr 2; omega
  refine (c136 base r g b _ w _ _ W hI (by omega) (by show (d.own.take i).length ≤ _; rw [List.length_take]; omega)).mono ?_
  rintro e W' ⟨rfl,hI'⟩
  exact ⟨rfl,hi,by rw [ht]; exact hI'⟩
 ·rintro e w3 ⟨rfl,_,hI⟩
  rw [List.drop_length,List.take_length] at hI
  refine ⟨_,rfl,?_⟩
  have hbc : w3.cell? ⟨b,0,none⟩ = some (.pointer (some ⟨r,0,none⟩)) := (Ac hI.bb 0).trans rfl
  refine old Cy G ‹_›<|mi G<|pl (.func (.func 137) #[] #[.pointer (some ⟨g,0,none⟩),.pointer (some ⟨b,0,none⟩)]) (fun _ => by kernel_rfl)<|cl Jq [] G ((D1 d.own.length 137 r [.pointer (some ⟨g,0,none⟩),.pointer (some ⟨b,0,none⟩)] C137 (fun i W => i ≤ d.own.length ∧ GB base r g b w (toN (d.pri.drop i) ++ (d.suc.flatMap (fun r => r.length :: toN r) ++ ns)) ⟨d.own,d.pri.take i,[]⟩ W) w3 ⟨Nat.zero_le _,hI⟩ ?_ ?_ (by omega)).mono ?_)
  ·rintro i W ⟨_,hI⟩; exact hel (i := i) hI
  ·rintro i W hi ⟨_,hI⟩
   have hi2 : i < d.pri.length := by omega
   rw [hdropN d.pri i hi2] at hI
   have hx := hpri d.pri[i] (List.getElem_mem hi2)
   have ht : d.pri.take (i + 1) = d.pri.take i ++ [((d.pri[i].toNat : Nat) : Int)] := by rw [List.take_succ_eq_append_getElem hi2]; congr 2; omega
   refine (c137 base r g b _ w _ _ W hI G (by show (d.pri.take i).length ≤ _; rw [List.length_take]; omega)).mono ?_
   rintro e W' ⟨rfl,hI'⟩
   exact ⟨rfl,hi,by rw [ht]; exact hI'⟩
  ·rintro e w4 ⟨rfl,_,hI⟩
   rw [← hlp,List.drop_length,List.take_length] at hI
   refine ⟨_,rfl,?_⟩
   have hbc : w4.cell? ⟨b,0,none⟩ = some (.pointer (some ⟨r,0,none⟩)) := (Ac hI.bb 0).trans rfl
   refine old Cy G ‹_›<|mi G<|pl (.func (.func 138) #[] #[.pointer (some ⟨g,0,none⟩),.pointer (some ⟨b,0,none⟩)]) (fun _ => by kernel_rfl)<|cl Jq [] G ((D1 d.own.length 138 r [.pointer (some ⟨g,0,none⟩),.pointer (some ⟨b,0,none⟩)] C138 (fun i W => i ≤ d.own.length ∧ GB base r g b w ((d.suc.drop i).flatMap (fun r => r.length :: toN r) ++ ns) ⟨d.own,d.pri,d.suc.take i⟩ W) w4 ⟨Nat.zero_le _,hI⟩ ?_ ?_ (by omega)).mono ?_)
   ·rintro i W ⟨_,hI⟩; exact hel (i := i) hI
   ·rintro i W hi ⟨_,hI⟩
    have hi2 : i < d.suc.length := by omega
    have hdr : (d.suc.drop i).flatMap (fun r => r.length :: toN r) ++ ns = d.suc[i].length :: (toN d.suc[i] ++ ((d.suc.drop (i + 1)).flatMap (fun r => r.length :: toN r) ++ ns)) := by rw [List.drop_eq_getElem_cons hi2,List.flatMap_cons]; simp
    rw [hdr] at hI
    obtain ⟨a1,a2⟩ := hsuc d.suc[i] (List.getElem_mem hi2)
    have ht : d.suc.take (i + 1) = d.suc.take i ++ [d.suc[i]] := List.take_succ_eq_append_getElem hi2
    refine (c138 base r g b w _ _ d.suc[i] W hI (fun x hx => (a2 x hx).1) (by omega) (by show (d.suc.take i).length ≤ _; rw [List.length_take]; omega)).mono ?_
    rintro e W' ⟨rfl,hI'⟩
    exact ⟨rfl,hi,by rw [ht]; exact hI'⟩
   ·rintro e w5 ⟨rfl,_,hI⟩
    rw [← hls,List.drop_length,List.take_length,List.flatMap_nil,List.nil_append] at hI
    refine ⟨_,rfl,?_⟩
    refine pl (.func (.func 139) #[] #[.pointer (some ⟨g,0,none⟩)]) (fun _ => by kernel_rfl)<|af G<|?_
    exact rt1 rfl rfl ⟨g,b,rfl,hI⟩
theorem c139 (d : GL) (hF : d.Full) (base r g b : Nat) (W0 : World) (ns : List Nat) (w : World) (h : GB base r g b W0 ns d w) :
  Calls Tryz.prog 139 #[.pointer (some ⟨g,0,none⟩)] w fun e w' => ∃ j p OA' PA' SA' co' cp' cS' gm mc dn,e = .returned (.tuple #[.pointer (some ⟨j,0,none⟩),.int .i64 0]) ∧ B8 j 108 p 0 w' ∧ w.heap.size ≤ j ∧
   MS d w.heap.size p OA' PA' SA' co' cp' cS' gm mc (List.replicate d.own.length Me.zero) dn w' ∧ (dn = true ↔ CX d (List.replicate d.own.length Me.zero)) ∧ Below w.heap.size w w' := by
 obtain ⟨OA,PA,SA,co,cp,cS,h1,h2,h3,h4,h5⟩ := h.at_
 refine enter 7 Tryz.func139 G G _ (by simp) ?_
 refine ap G<|ai G<|AV (vs := gsl d OA PA SA co cp cS) G29 S29 G (Ak h1)<|cl C16 [] G ((Jv d hF OA PA SA co cp cS w ⟨(Kd.R_reads' h2).2.2,(Kd.R_reads' h3).2.2,(Kd.R_reads' h4).2.2⟩).mono ?_)
 rintro e w1 ⟨j,p,OA',PA',SA',co',cp',cS',gm,mc,dn,rfl,hj,hjw,hD,hdn,hb⟩
 refine ⟨_,rfl,?_⟩
 refine oex G G<|oex G G<|ap G<|ai G<|?_
 exact rt2 rfl rfl rfl ⟨j,p,OA',PA',SA',co',cp',cS',gm,mc,dn,rfl,hj,hjw,hD,hdn,hb⟩
abbrev kwD : ByteArray := { data := #[100,101,116,101,114,109,105,110,105,122,101] }
abbrev kwN : ByteArray := { data := #[109,105,110,105,109,105,122,101] }
abbrev kwG : ByteArray := { data := #[109,101,97,115,117,114,101,115] }
theorem J8 : Tryz.prog.underlying 180 = some (.map 9 178) := by kernel_rfl
theorem zv178 (w : World) : (zeroValue 178).run Tryz.prog w = .ok .nilFunc w := by kernel_rfl
theorem Rd.map {base r m : Nat} {ns : List Nat} {W W1 : World} {ks : List (ByteArray × Value)} (h : Rd base r ns W) (hm : MapIs W m ks) (hg : W.grownBy W1 (some m)) : Rd base r ns W1 := by
 obtain ⟨A,c,h1,h2⟩ := h.at_
 refine ⟨⟨A,c,hm.cells hg h1,?_⟩,h.hr,h.ok⟩
 refine Kd.Q_mono (Kd.Q_move (Kd.Q_bound h2) (fun k hk => hg.block k hk.2.2.1 (fun he => ?_))) (fun _ hk => hk.1)
 obtain ⟨_,_,_,q,_,cells,hc⟩ := hk
 exact hm.ne hc (by injection he with he; exact he.symm)
def KW (kw : ByteArray) (kr : Nat) : Prop := (kw = kwD ∧ kr = 89) ∨ (kw = kwN ∧ kr = 90) ∨ (kw = kwG ∧ kr = 91)
theorem KW.noSp {kw : ByteArray} {kr : Nat} (h : KW kw kr) : ∀ b ∈ kw.data.toList,b ≠ 32 := by
 rcases h with ⟨rfl,_⟩ | ⟨rfl,_⟩ | ⟨rfl,_⟩ <;> decide
theorem KW.size {kw : ByteArray} {kr : Nat} (h : KW kw kr) : kw.size ≤ 11 := by
 rcases h with ⟨rfl,_⟩ | ⟨rfl,_⟩ | ⟨rfl,_⟩ <;> decide
abbrev kws (r : Nat) : List (ByteArray × Value) := [(kwD,.func (.func 89) #[.pointer (some ⟨r,0,none⟩)] #[]),(kwN,.func (.func 90) #[.pointer (some ⟨r,0,none⟩)] #[]),(kwG,.func (.func 91) #[.pointer (some ⟨r,0,none⟩)] #[])]
theorem KW.find {kw : ByteArray} {kr : Nat} (h : KW kw kr) (r : Nat) : BK (kws r) kw = some (.func (.func kr) #[.pointer (some ⟨r,0,none⟩)] #[]) := by
 rcases h with ⟨rfl,rfl⟩ | ⟨rfl,rfl⟩ | ⟨rfl,rfl⟩ <;> rfl
structure RkJ {σ : Type} (T ku kl kr kc : Nat) (kw : ByteArray) (nums : List Nat) (St : Nat → Nat → σ → World → Prop) (nx : σ → Option σ) (s0 : σ) : Prop where
 kw : KW kw kr
 cr : Ag Tryz.prog kr
 cc : Ag Tryz.prog kc
 kn : ∀ base p,Kn T ku kl p base (St base p) nx
 ok : ∀ n ∈ nums,n ≤ 1000000000
 len : nums.length ≤ 40000
 read : ∀ base r w,Rd base r nums w → Glob w → 2 < base → Calls Tryz.prog kr #[.pointer (some ⟨r,0,none⟩)] w fun e w' => ∃ g,e = .returned (.func (.func kc) #[] #[.pointer (some ⟨g,0,none⟩)]) ∧ Rd base r [] w' ∧ w.grownBy w' (some r) ∧
  ∀ w2,Below w'.heap.size w' w2 → Glob w2 → Calls Tryz.prog kc #[.pointer (some ⟨g,0,none⟩)] w2 fun e w3 => ∃ j p,e = .returned (.tuple #[.pointer (some ⟨j,0,none⟩),.int .i64 0]) ∧ B8 j T p 0 w3 ∧ w2.heap.size ≤ j ∧ St w2.heap.size p s0 w3 ∧ Below w2.heap.size w2 w3
theorem load50 {σ : Type} {T ku kl kr kc : Nat} {kw : ByteArray} {nums : List Nat} {St : Nat → Nat → σ → World → Prop} {nx : σ → Option σ} {s0 : σ} (K : RkJ T ku kl kr kc kw nums St nx s0) (u : Nat) (s : σ) (hit : itU nx s0 u = some s) (hu : u ≤ 1000000000) (w : World) (hG : Glob w) :
  Calls Tryz.prog 50 #[.string (Co (kw :: (u :: nums).map decS))] w fun e w' => ∃ B j p,e = .returned (.tuple #[.pointer (some ⟨j,0,none⟩),.int .i64 0]) ∧ w.heap.size ≤ B ∧ B ≤ j ∧ B8 j T p u w' ∧ St B p s w' ∧ Below w.heap.size w w' := by
 have hok : ∀ n ∈ u :: nums,n ≤ 1000000000 := fun n hn => by
  rcases List.mem_cons.1 hn with rfl | h
  ·exact hu
  ·exact K.ok n h
 have hlen : (u :: nums).length ≤ 50000 := by have := K.len; simp; omega
 have hnosp : Kk ((kw :: (u :: nums).map decS).map (·.data.toList)) := by
  intro x hx
  rw [List.map_cons] at hx
  rcases List.mem_cons.1 hx with rfl | hx
  ·exact K.kw.noSp
  ·exact dec_noSp (u :: nums) x hx
 have hmm : ((u :: nums).map decS).length = nums.length + 1 := by simp
 refine enter 105 Tryz.func50 G G _ (by simp) ?_
 refine ap G<|ai G<|mt G<|cl C88 [] G ((split88 kw ((u :: nums).map decS) hnosp (Ep K.kw.size hok hlen) w hG).mono ?_)
 rintro e w1 ⟨rfl,hw1⟩
 rw [hmm]
 refine ⟨_,rfl,?_⟩
 have hb1 : Below w.heap.size w w1 := by rw [hw1]; exact AP (Below.refl _ _) _
 have hR : Kstr.R 9 w1 w.heap.size (fun _ => True) (.slice (some ⟨w.heap.size,0,none⟩) (nums.length + 1 + 1) (nums.length + 1 + 1)) (kw :: (u :: nums).map decS) := by
  have ho := own_lit_of (enc := fun s : ByteArray => Value.string s) w w.heap.size 9 (kw :: (u :: nums).map decS) (Nat.le_refl _) (by simp at hlen ⊢; omega)
  rw [List.length_cons,hmm] at ho
  rw [hw1]
  exact Kd.R_of_own (by rw [List.length_cons,hmm]; exact ho) (fun _ _ => trivial)
 have hG1 := hG.below hb1
 clear hw1
 refine asl G<|ms G<|osl (l := 1) I0 Z9 G G (by omega) ?_
 have hQ := Kd.Q_drop (Kd.Q_of_R hR) (k := 1) (by simp)
 rw [List.drop_one,List.tail_cons] at hQ
 rw [if_neg (by omega)] at hQ ⊢
 have hQ : Kstr.Q 9 w1 w.heap.size (fun _ => True) (.slice (some ((⟨w.heap.size,0,none⟩ : Addr).add (1 * 1))) (nums.length + 1) (nums.length + 1)) ((u :: nums).map decS) := hQ
 refine pl (.agg #[.slice (some ((⟨w.heap.size,0,none⟩ : Addr).add (1 * 1))) (nums.length + 1) (nums.length + 1),.int .i64 0,.int .i64 0]) (fun _ => by kernel_rfl)<|obx (cs := [.slice (some ((⟨w.heap.size,0,none⟩ : Addr).add (1 * 1))) (nums.length + 1) (nums.length + 1),.int .i64 0,.int .i64 0]) G G ?_
 intro r w2 hre hrb hb2
 have hz1 := hb1.size
 have hrd : Rd w.heap.size r (u :: nums) w2 := ⟨⟨_,_,hrb,Kd.Q_below hQ hb2⟩,by omega,hok⟩
 have hR := Kd.R_below hR hb2
 have hB := Ad hb1 hb2
 clear hb1 hb2 hQ hrb hG1
 refine ap G<|Kh ?_
 intro w3 hm3 hb3
 have hrd := hrd.below hb3
 have hR := Kd.R_below hR hb3
 have hz2 := hB.size
 have hB := Ad hB hb3
 generalize w2.heap.size = m at hm3 hz2 ⊢
 clear hb3
 refine mp G<|pl (.func (.func 89) #[.pointer (some ⟨r,0,none⟩)] #[]) (fun _ => by kernel_rfl)<|opi (s := kwD) US9 J8 G G G hm3 G ?_
 intro w4 hm4 hg4
 have hrd := hrd.map hm3 hg4
 have hR := hm3.row hg4 hR
 have hB := hB.grown hg4 hB.size (fun k e => by cases e; exact hz2)
 clear hm3 hg4
 refine mp G<|pl (.func (.func 90) #[.pointer (some ⟨r,0,none⟩)] #[]) (fun _ => by kernel_rfl)<|opi (s := kwN) US9 J8 G G G hm4 G ?_
 intro w5 hm5 hg5
 have hrd := hrd.map hm4 hg5
 have hR := hm4.row hg5 hR
 have hB := hB.grown hg5 hB.size (fun k e => by cases e; exact hz2)
 clear hm4 hg5
 refine mp G<|pl (.func (.func 91) #[.pointer (some ⟨r,0,none⟩)] #[]) (fun _ => by kernel_rfl)<|opi (s := kwG) US9 J8 G G G hm5 G ?_
 intro w6 hm6 hg6
 have hrd := hrd.map hm5 hg6
 have hR := hm5.row hg6 hR
 have hB := hB.grown hg6 hB.size (fun k e => by cases e; exact hz2)
 clear hm5 hg6
 have hcw : w6.cell? ((⟨w.heap.size,0,none⟩ : Addr).add (0 * 1)) = some (.string kw) := by
  obtain ⟨ad,had,hc⟩ := Au (Kd.R_reads' hR).2.2 (k := 0) (x := kw) rfl
  cases had
  exact hc
 have hm6 : MapIs w6 m (kws r) := hm6
 refine mm G<|ms G<|oix (i := 0) I0 Z9 G G (by omega) ?_
 refine old G9 G ‹_›<|olk (s := kw) US9 J8 G G hm6 (zv178 _) ?_
 rw [K.kw.find r]
 refine mv G<|oex G G<|oex G G<|af G<|ab G<|?_
 clear hcw hR hm6
 refine mb G<|ont G<|ab G<|cdf G ?_
 have hG6 := hG.below hB
 obtain ⟨A,c,hrb,hQ⟩ := id hrd.at_
 have hc0 : w6.cell? ⟨r,0 + 0,none⟩ = some (.slice A (u :: nums).length c) := (Ac hrb 0).trans rfl
 refine mp G<|onc G<|ofa FM G<|old KZ G ‹_›<|cl C92 [] G ((contains92 A c (u :: nums) w6 (by have := (Kd.Q_reads' hQ).2.2; rw [List.length_map] at this; exact this) hok hG6).mono ?_)
 rintro e w7 ⟨rfl,hb7⟩
 have hrd := hrd.below hb7
 have hB := Ad hB hb7
 clear hb7 hrb hQ hc0 hG6
 refine ⟨_,rfl,?_⟩
 refine ab G<|cdf G<|mp G<|cl C95 [] G ((BL w.heap.size r u nums w7 hrd).mono ?_)
 rintro e w8 ⟨rfl,hrd8,hg8⟩
 have hrw := hrd.hr
 have hB := hB.grown hg8 hB.size (fun k e => by cases e; exact hrw)
 have hrd := hrd8
 clear hrd8 hg8
 refine ⟨_,rfl,?_⟩
 refine ai G<|av G<|?_
 obtain ⟨A,c,hrb,hQ⟩ := id hrd.at_
 have hc1 : w8.cell? ⟨r,0 + 1,none⟩ = some (.int .i64 0) := (Ac hrb 1).trans rfl
 refine mp G<|onc G<|ofa Jj G<|old G31 G ‹_›<|oeq G G<|ist (by omega)<|?_
 refine cdt G ?_
 clear hc1 hrb hQ
 have hG8 := hG.below hB
 refine mf G<|clb K.cr [.pointer (some ⟨r,0,none⟩)] G ((K.read w.heap.size r w8 hrd hG8 hG.lt).mono ?_)
 rintro e w9 ⟨g,rfl,hrd9,hg9,hclo⟩
 have hB := hB.grown hg9 hB.size (fun k e => by cases e; exact hrw)
 clear hg9 hrd hG8
 refine ⟨_,rfl,?_⟩
 refine af G<|?_
 obtain ⟨A,c,hrb,hQ⟩ := id hrd9.at_
 have hc0 : w9.cell? ⟨r,0 + 0,none⟩ = some (.slice A 0 c) := (Ac hrb 0).trans rfl
 have hc1 : w9.cell? ⟨r,0 + 1,none⟩ = some (.int .i64 0) := (Ac hrb 1).trans rfl
 have hc2 : w9.cell? ⟨r,0 + 2,none⟩ = some (.int .i64 0) := (Ac hrb 2).trans rfl
 refine mp G<|onc G<|ofa Jj G<|old G31 G ‹_›<|one G G<|isf (by omega)<|ab G<|?_
 refine cdf G<|mp G<|onc G<|ofa FM G<|old KZ G ‹_›<|oln I0 G<|ogt G G<|isf (by omega)<|ab G<|?_
 refine cdf G<|mp G<|onc G<|ofa X177_2 G<|old G31 G ‹_›<|one G G<|isf (by omega)<|ab G<|?_
 refine cdf G ?_
 clear hc0 hc1 hc2 hrb hQ
 have hG9 := hG.below hB
 refine mf G<|cl K.cc [.pointer (some ⟨g,0,none⟩)] G ((hclo w9 (Below.refl _ _) hG9).mono ?_)
 rintro e w10 ⟨j,p,rfl,hj,hjw,hSt,hb10⟩
 have hz9 := hB.size
 have hB := Ad hB hb10
 refine ⟨_,rfl,?_⟩
 refine mv G<|oex G G<|oex G G<|ap G<|ai G<|mi G<|one G G<|isf (by omega)<|?_
 refine cdf G<|mp G<|mi G<|cl C48 [] G ((Kr (K.kn w9.heap.size p) j 0 u s0 s0 w10 hj hjw G hSt (by omega)).mono ?_)
 rintro e w11 ⟨u',s',rfl,hit',hu0,hu1,hnx,hj',hSt',hb11⟩
 have hB := hB.trans ⟨hb11.os,hb11.tape,hb11.output,hb11.size,fun i hi => hb11.block i (Nat.lt_of_lt_of_le hi hz9)⟩
 refine ⟨_,rfl,?_⟩
 have hue : u' = u := by
  rcases Nat.lt_or_ge u' (0 + u) with h | h
  ·have := itU_none hit' (hnx h) (b := u) (by omega)
   rw [this] at hit
   cases hit
  ·omega
 subst hue
 have hse : s' = s := by rw [hit'] at hit; injection hit
 subst hse
 refine mv G<|oex G G<|oex G G<|ab G<|ai G<|?_
 have hc1 : w11.cell? ⟨j,0 + 1,none⟩ = some (.int .i64 (u' : Nat)) := (Ac hj' 1).trans rfl
 refine mi G<|one G G<|isf (by omega)<|mb G<|gon G<|mp G<|gon G<|onc G<|gon G<|ofa EU G<|gon G<|old G3 G ‹_›<|gon G<|mi G<|gon G<|olt G G<|isf (by omega)<|pfb G G<|?_
 refine cdf G<|mp G<|ap G<|ai G<|?_
 exact rt2 rfl rfl rfl ⟨w9.heap.size,j,p,rfl,hz9,hjw,hj',hSt',hB⟩
structure Wd (base g : Nat) (ws : List ByteArray) (W : World) : Prop where
 at_ : ∃ A c,W.heap[g]? = some (.cells [.slice A ws.length c].toArray 170 (0,0)) ∧ Kstr.R 9 W base (fun _ => True) (.slice A ws.length c) ws
 hg : base ≤ g
 hz : base ≤ W.heap.size
theorem Wd.below {base g : Nat} {ws : List ByteArray} {W W1 : World} (h : Wd base g ws W) (hb : Below W.heap.size W W1) : Wd base g ws W1 := by
 obtain ⟨A,c,h1,h2⟩ := h.at_
 exact ⟨⟨A,c,Ab h1 hb,Kd.R_below h2 hb⟩,h.hg,Nat.le_trans h.hz hb.size⟩
structure Wk (base : Nat) (W W1 : World) : Prop where
 low : Below base W W1
 k3 : KeepT 3 W W1
theorem Wk.refl (base : Nat) (W : World) : Wk base W W := ⟨Below.refl _ _,KeepT.refl _ _⟩
theorem Wk.trans {base : Nat} {A B C : World} (h : Wk base A B) (k : Wk base B C) : Wk base A C := ⟨h.low.trans k.low,h.k3.trans k.k3⟩
theorem Wk.new {base : Nat} {A B C : World} (h : Wk base A B) (hz : base ≤ B.heap.size) (k : Below B.heap.size B C) : Wk base A C :=
 ⟨h.low.trans ⟨k.os,k.tape,k.output,k.size,fun i hi => k.block i (Nat.lt_of_lt_of_le hi hz)⟩,h.k3.trans (KeepT.below k)⟩
theorem Wk.turn {base s b : Nat} {A B C : World} {cs : Array Value} (h : Wk base A B) (hz : base ≤ B.heap.size) (hg : B.grownBy C (some b)) (hb : B.heap[b]? = some (.cells cs s (0,0))) (ht : 3 ≠ s) (hle : base ≤ b) : Wk base A C :=
 ⟨h.low.grown hg hz (fun k e => by cases e; exact hle),h.k3.trans (KeepT.grown hg hb ht)⟩
theorem Wk.row {base e : Nat} {A B C : World} {α : Type} {d : Kd α} {ok : Nat → Prop} {v : Value} {xs : List α} (h : Wk base A B) (hz : base ≤ B.heap.size) (hr : d.R e B base ok v xs) (ht : 3 ≠ e) (hg : B.grownBy C v.ownBlock) : Wk base A C := by
 cases ho : v.ownBlock with
 | none => rw [ho] at hg; exact h.new hz ((Below.refl _ _).grown hg (Nat.le_refl _) (fun k e => by cases e))
 | some g =>
  obtain ⟨cells,hc⟩ := Kd.R_typed hr g ho
  rw [ho] at hg
  exact h.turn hz hg hc ht (Kd.R_base hr g ho)
theorem Cv {base b' : Nat} {ok : Nat → Prop} {A : Option Addr} {n c : Nat} {xs : List Int} {W V : World} (h : (Kd.int .i64).R 3 W b' ok (.slice A n c) xs) (k : Wk base W V) : (Kd.int .i64).R 3 V b' ok (.slice A n c) xs := by
 refine Kd.R_mono (Kd.R_move (Kd.R_bound h) (fun i hi => ?_)) (fun _ hi => hi.1)
 obtain ⟨_,_,_,q,hq,cells,hc⟩ := hi
 have hq : q = 3 := by simpa [Kd.int,Kd.scalar] using hq
 subst hq
 rw [hc,k.k3 i cells hc]
theorem D7 (base g : Nat) (A : Option Addr) (c : Nat) (xs : List Nat) (ws : List ByteArray) (w : World) (hW : Wd base g ws w) (hG : Glob w) (h2 : 2 < base) (hx : ∀ V,Wk base w V → (Kd.int .i64).C V A xs.length (Bt xs)) (hn : ∀ n ∈ xs,n ≤ 1000000000) (hl : ws.length + xs.length ≤ 1000000) :
  Calls Tryz.prog 85 #[.pointer (some ⟨g,0,none⟩),.slice A xs.length c] w fun e w' => e = .returned (.tuple #[]) ∧ Wd base g (ws ++ xs.map decS) w' ∧ Wk base w w' := by
 refine enter 22 Tryz.func85 G G _ (by simp) ?_
 refine ms G<|oln U22 G<|mi G<|lp (σ := Nat) (fun k => [(0,.pointer (some ⟨g,0,none⟩)),(6,.slice A xs.length c),(7,.int .i64 xs.length),(8,.int .i64 (k : Nat))])
  (fun k V => k ≤ xs.length ∧ Wk base w V ∧ Wd base g (ws ++ (xs.take k).map decS) V) (fun k => xs.length - k) 0 ⟨rfl,rfl,rfl,rfl,rfl⟩ ⟨Nat.zero_le _,Wk.refl _ _,by simpa using hW⟩ ?_
 rintro k f V ⟨hk,hK,hWd⟩
 refine olt G G<|cdd G (fun hlt => ?_) (fun hge => ?_)
 ·have hkl : k < xs.length := Int.ofNat_lt.1 hlt
  obtain ⟨m,hm⟩ : ∃ m,xs[k]? = some m := ⟨_,gE hkl⟩
  have hm9 := hn m (List.mem_of_getElem? hm)
  obtain ⟨ad,rfl,hcell⟩ := Au (hx V hK) (F8 hm)
  have htk : ws ++ (xs.take (k + 1)).map decS = ws ++ (xs.take k).map decS ++ [decS m] := by rw [List.take_succ_eq_append_getElem hkl]; rw [gE hkl] at hm; injection hm with e; rw [e]; simp
  have hlk : (ws ++ (xs.take k).map decS).length = ws.length + k := by rw [List.length_append,List.length_map,List.length_take]; omega
  refine AD U22 Z3 G G (by first | assumption | omega)<|old G3 G ‹_›<|ai G<|?_
  obtain ⟨B,cB,hgc,hR⟩ := hWd.at_
  refine Bv 9 mixed (fun V => V.heap[g]? = some (.cells [.slice B (ws ++ (xs.take k).map decS).length cB].toArray 170 (0,0))) ?_
  intro V1 hb1 _ _
  have hS := Ab hgc hb1
  have hR := Kd.R_below hR hb1
  have hz := hWd.hz
  have hK := hK.new hz hb1
  have hz := Nat.le_trans hz hb1.size
  have hG1 := hG.low hK.low h2
  clear hb1 hgc
  refine Ay 0 G (by kernel_rfl) (fun _ _ _ h => h) G (fun v _ => mp_ G v) hS<|Ay 1 G (by kernel_rfl) (fun _ _ _ h => h) G (fun v _ => mp_ G v) hS<|Ay 2 G (by kernel_rfl) (fun _ _ _ h => h) G (fun v _ => BN G v) hS<|Ay 3 G (by kernel_rfl) (fun _ _ _ h => h) G (fun v hv => Ai K9 G ((Ac hv _).trans G)) hS<|Ay 4 G (by kernel_rfl) (fun _ _ _ h => h) G (fun v _ => mi_ G v) hS<|Aq 5 (by kernel_rfl) G<|cl C61 [] G ((Jd m (by omega) V1 hG1).mono ?_)
  rintro e V2 ⟨rfl,hb2⟩
  have hS := Ab hS hb2
  have hR := Kd.R_below hR hb2
  have hK := hK.new hz hb2
  have hz := Nat.le_trans hz hb2.size
  clear hb2 hG1
  refine ⟨_,rfl,fun _ => hS,?_⟩
  refine Aq 6 (by kernel_rfl) G<|BH (AJ (u := .string (decS m)) KV I9 G G) ⟨fun _ => Ab hS (AP (Below.refl _ _) _),?_⟩
  refine Aq 7 (by kernel_rfl) G<|Eg (bytes := 16) Kstr (m := (ws ++ (xs.take k).map decS).length) (c := cB) (A := B) (p := decS m) (okp := fun _ => False) KV I9 G (by decide) (by decide) G G hR G (fun k hk => hk.elim) (fun _ _ => trivial) hz (by rw [hlk]; omega) ?_
  intro B3 c3 V3 hR3 hg3
  have hS3 := Br hS (Kd.R_typed hR) hg3 (by decide)
  have hK3 := hK.row hz hR (by decide) hg3
  have hz3 := Nat.le_trans hz hg3.size
  refine ⟨fun _ => hS3,?_⟩
  refine Aq 8 (by kernel_rfl) G<|onc G ⟨fun _ => hS3,?_⟩
  refine Aq 9 (by kernel_rfl) G<|Bc (v := .slice B3 (ws ++ (xs.take k).map decS ++ [decS m]).length c3) (cs := [.slice B (ws ++ (xs.take k).map decS).length cB]) (i := 0) (fun _ => by kernel_rfl) G G G hS3 (by simp) ?_
  intro V4 hg4c hg4
  refine ⟨fun h => absurd h (by decide),?_⟩
  refine Bw (by kernel_rfl)<|oad G G (by first | assumption | omega)<|mi G<|?_
  refine ⟨k + 1,⟨rfl,rfl,rfl,rfl,rfl⟩,⟨hkl,hK3.turn hz3 hg4 hS3 (by decide) hWd.hg,?_⟩,by omega⟩
  rw [htk]
  exact ⟨⟨B3,c3,hg4c,Ah hR3 hS3 (by decide) hg4⟩,hWd.hg,Nat.le_trans hz3 hg4.size⟩
 ·have hkn : k = xs.length := by omega
  subst hkn
  rw [List.take_length] at hWd
  exact rt0 rfl ⟨rfl,hWd,hK⟩
section
variable {n : Nat} {P : Program} {ops : Array Oper} {rest : List Oper} {Q : Bd n} {W : World} {f : Fm n} {d ty t : Nat} {pos : String} {aft : Array Edge} {els : Array (Nat × Operand)} {m : Nat}
theorem Fa (ns : List Nat) (hrun : Ru P (.buildSlice t m els) ty f W = .ok (.value (.slice (some ⟨W.heap.size,0,none⟩) m m)) (W.alloc (.cells ((Bt ns).map fun x : Int => Value.int .i64 x).toArray 3))) (hl : ns.length = m) (hm : m ≤ 1000000)
  (h : ∀ A c w1,(Kd.int .i64).R 3 w1 W.heap.size (fun _ => True) (.slice A ns.length c) (Bt ns) → Below W.heap.size W w1 → RL P ops Q rest (up f d (.slice A ns.length c)) w1) : LS P ops Q ⟨some d,.buildSlice t m els,ty,pos,aft,none⟩ rest f W := by
 subst hl
 refine BH hrun (h _ _ _ ?_ (AP (Below.refl _ _) _))
 have ho := own_lit W W.heap.size 3 .i64 (Bt ns) (Nat.le_refl _) (by rw [Bp]; omega)
 rw [Bp] at ho
 exact Kd.R_of_own (by rw [Bp]; exact ho) (fun _ _ => trivial)
end
theorem FI (base g : Nat) (A : Option Addr) (c : Nat) (xs : List Nat) (ws : List ByteArray) (w : World) (hW : Wd base g ws w) (hG : Glob w) (h2 : 2 < base) (hx : ∀ V,Wk base w V → (Kd.int .i64).C V A xs.length (Bt xs)) (hn : ∀ n ∈ xs,n ≤ 1000000000) (hl : ws.length + 1 + xs.length ≤ 1000000) :
  Calls Tryz.prog 86 #[.pointer (some ⟨g,0,none⟩),.slice A xs.length c] w fun e w' => e = .returned (.tuple #[]) ∧ Wd base g (ws ++ (xs.length :: xs).map decS) w' ∧ Wk base w w' := by
 refine enter 12 Tryz.func86 G G _ (by simp) ?_
 refine mp G<|ms G<|oln U22 G<|Fa [xs.length] (AJ (u := .int .i64 (xs.length : Nat)) U22 I3 G G) G (by decide) ?_
 intro A1 c1 w1 hR1 hb1
 have hz := hW.hz
 have hK1 := (Wk.refl base w).new hz hb1
 refine cl C85 [] G ((D7 base g A1 c1 [xs.length] ws w1 (hW.below hb1) (hG.below hb1) h2 (fun V hV => (Kd.R_reads' (Cv hR1 hV)).2.2) (fun n hn => by rw [List.mem_singleton.1 hn]; omega) (by simp; omega)).mono ?_)
 rintro e w2 ⟨rfl,hW2,hK2⟩
 have hK := hK1.trans hK2
 refine ⟨_,rfl,?_⟩
 refine mp G<|ms G<|cl C85 [] G ((D7 base g A c xs (ws ++ [xs.length].map decS) w2 hW2 (hG.low hK.low h2) h2 (fun V hV => hx V (hK.trans hV)) hn (by simp; omega)).mono ?_)
 rintro e w3 ⟨rfl,hW3,hK3⟩
 refine ⟨_,rfl,?_⟩
 refine rt0 rfl ⟨rfl,?_,hK.trans hK3⟩
 have e : ws ++ (xs.length :: xs).map decS = ws ++ [xs.length].map decS ++ xs.map decS := by simp
 rw [e]; exact hW3
theorem EO : ∀ l : List Ed,(l.flatMap Ed.nums).length = 4 * l.length
 | [] => rfl
 | e :: l => by
  rw [List.flatMap_cons,List.length_append,EO l]
  show 4 + _ = _
  rw [List.length_cons]; omega
theorem Na.nums_ok {n : Na} (hn : n.Ok) : (∀ k ∈ n.nums,k ≤ 1000000000) ∧ n.nums.length ≤ 4000 := by
 have hv := hn.v
 have hs := hn.s
 have he := hn.e
 have h1 := hn.start.length
 have h2 := hn.fin.length
 have h64 : 2 ^ n.vars ≤ 64 := Nat.pow_le_pow_right (n := 2) (by decide) hn.v
 constructor
 ·intro k hk
  unfold Na.nums at hk
  simp only [List.mem_append,List.mem_cons,List.not_mem_nil,or_false,List.mem_flatMap,toN,List.mem_map] at hk
  rcases hk with (((rfl | rfl) | rfl | ⟨x,hx,rfl⟩) | rfl | ⟨x,hx,rfl⟩) | rfl | ⟨ed,hed,hk⟩
  ·omega
  ·omega
  ·omega
  ·have := hn.start.bnd x hx; omega
  ·omega
  ·have := hn.fin.bnd x hx; omega
  ·omega
  ·obtain ⟨a,b,p,q,hp,hq,ho,_⟩ := hn.edges ed hed
   have := Nat.left_le_or (n := p) (m := q)
   have := Nat.right_le_or (n := p) (m := q)
   unfold Ed.nums at hk
   simp only [List.mem_cons,List.not_mem_nil,or_false] at hk
   rcases hk with rfl | rfl | rfl | rfl <;> omega
 ·unfold Na.nums
  have hf := EO n.edges
  simp only [List.length_append,List.length_cons,List.length_nil,Be,hf]
  omega
theorem save49D (n : Na) (hn : n.Ok) (base j p u : Nat) (D : Dl) (o : List Nat) (nx : List (List Int)) (fb : List Bool) (w : World) (hj : B8 j 117 p u w) (hD : DS n base p D o nx fb w) (hG : Glob w) (hu : u ≤ 1000000000) :
  Calls Tryz.prog 49 #[.pointer (some ⟨j,0,none⟩)] w fun e w' => e = .returned (.string (Co (kwD :: (u :: n.nums).map decS))) ∧ Below w.heap.size w w' := by
 have h2 : 2 < w.heap.size := hG.lt
 have hsl := hn.start.length
 have hfl := hn.fin.length
 have hns := hn.s
 have hel := hn.e
 have hvv := hn.v
 have h64 : 2 ^ n.vars ≤ 64 := Nat.pow_le_pow_right (n := 2) (by decide) hn.v
 obtain ⟨hok,hlen⟩ := Na.nums_ok hn
 have hc0 : w.cell? ⟨j,0 + 0,none⟩ = some (.iface 117 (.pointer (some ⟨p,0,none⟩))) := (Ac hj 0).trans rfl
 refine enter 193 Tryz.func49 G G _ (by simp) ?_
 refine ast G<|mp G<|pl (.bool false) (fun _ => by kernel_rfl)<|cdf G<|oal (v := .slice none 0 0) (cs := [.slice none 0 0]) (fun _ => by kernel_rfl) G ?_
 intro g w1 hge hgb hb1
 have hc0 := Ae hb1 hc0
 refine mp G<|onc G<|ofa D4 G<|old Ig G ‹_›<|pl (.tuple #[.pointer (some ⟨p,0,none⟩),.bool true]) (fun _ => by kernel_rfl)<|oex G G<|oex G G<|cdt G<|ap G<|BV Kstr w.heap.size (p := kwD) (okp := fun _ => True) (AJ (u := .string kwD) KV I9 G G) G G hb1.size ?_
 intro A c w2 hR2 hb2
 have hgb := Ab hgb hb2
 refine Bc (v := .slice A 1 c) (cs := [.slice none 0 0]) (i := 0) (fun _ => by kernel_rfl) G G G hgb (by simp) ?_
 intro w3 hgb3 hg3
 have hB2 := Ad hb1 hb2
 have hwg : w.heap.size ≤ g := by omega
 have hW : Wd w.heap.size g [kwD] w3 := ⟨⟨A,c,hgb3,Ah hR2 hgb (by decide) hg3⟩,hwg,Nat.le_trans hB2.size hg3.size⟩
 have hK : Wk w.heap.size w w3 := ((Wk.refl _ w).new (Nat.le_refl _) hB2).turn hB2.size hg3 hgb (by decide) hwg
 clear hgb hgb3 hg3 hR2 hb1 hb2 hB2 hc0
 refine cut (σ := Unit) (fun _ => [(3,.pointer (some ⟨g,0,none⟩)),(4,.pointer (some ⟨p,0,none⟩))])
  (fun _ V => Wd w.heap.size g (kwD :: [u,n.vars,n.states].map decS) V ∧ Wk w.heap.size w V) (by repeat' (first | exact BB | exact BD | exact Bl | refine Bi ?_ ?_ | refine Bk ?_ | refine Bj ?_ | refine AX _ ?_)) ?_ ?_
 ·refine drt mixed 14 (by kernel_rfl) ?_
  intro w4 hb4 _ _
  have hz := hW.hz
  have hK := hK.new hz hb4
  have hW := hW.below hb4
  have hj4 := (hK.low.block j (Am hj)).trans hj
  have hp4 := (hK.low.block p (Am hD.blk)).trans hD.blk
  have hc1 : w4.cell? ⟨j,0 + 1,none⟩ = some (.int .i64 (u : Nat)) := (Ac hj4 1).trans rfl
  have hd0 : w4.cell? ⟨p,0 + 0 + 0,none⟩ = some (.int .i64 (n.vars : Nat)) := (Ac hp4 0).trans rfl
  have hd1 : w4.cell? ⟨p,0 + 0 + 1,none⟩ = some (.int .i64 (n.states : Nat)) := (Ac hp4 1).trans rfl
  refine spu (mp_ G)<|spu (BN G)<|spu (AQ EU G)<|sru (Ai G3 G ‹_›)<|spu (mp_ G)<|spu (BN G)<|spu (AQ DF G)<|spu (AQ DQ G)<|sru (Ai G3 G ‹_›)<|spu (mp_ G)<|spu (BN G)<|spu (AQ DF G)<|spu (AQ Dq G)<|sru (Ai G3 G ‹_›)<|Fa [u,n.vars,n.states] (Cj (us := [.int .i64 (u : Nat),.int .i64 (n.vars : Nat),.int .i64 (n.states : Nat)]) U22 I3 G (by decide) [.tmp 30,.tmp 35,.tmp 40] G G G (by simp [Value.cells]) G (by simp)) G (by decide) ?_
  intro A1 c1 w5 hR1 hb5
  have hK5 := hK.new hW.hz hb5
  refine cl C85 [] rfl ((D7 w.heap.size g A1 c1 [u,n.vars,n.states] [kwD] w5 (hW.below hb5) (hG.low hK5.low h2) h2 (fun V hV => (Kd.R_reads' (Cv hR1 hV)).2.2) (fun k hk => by simp only [List.mem_cons,List.not_mem_nil,or_false] at hk; rcases hk with rfl | rfl | rfl <;> omega) (by simp)).mono ?_)
  rintro e w6 ⟨rfl,hW6,hK6⟩
  refine ⟨_,rfl,?_⟩
  exact ⟨(),⟨rfl,rfl,rfl⟩,hW6,hK5.trans hK6⟩
 ·rintro _ f w4 ⟨hW,hK⟩
  have hp4 := (hK.low.block p (Am hD.blk)).trans hD.blk
  have hd2 : w4.cell? ⟨p,0 + 0 + 2,none⟩ = some (.slice D.SA n.start.length D.cs) := (Ac hp4 2).trans rfl
  refine mp G<|onc G<|ofa DF G<|ofa EG G<|old G22 G ‹_›<|?_
  have hcS := FI w.heap.size g D.SA D.cs (toN n.start) _ w4 hW (hG.low hK.low h2) h2 (fun V hV => by rw [Be,Cx (fun x hx => (hn.start.bnd x hx).1)]; exact Kd.C_below (Kd.R_reads' hD.st).2.2 (hK.trans hV).low) (fun k hk => by obtain ⟨x,hx,rfl⟩ := List.mem_map.1 hk; have := hn.start.bnd x hx; omega) (by rw [Be]; simp; omega)
  rw [Be] at hcS
  refine cl C86 [] G (hcS.mono ?_)
  rintro e w5 ⟨rfl,hW5,hK5⟩
  have hK := hK.trans hK5
  refine ⟨_,rfl,?_⟩
  have hp5 := (hK.low.block p (Am hD.blk)).trans hD.blk
  have hd3 : w5.cell? ⟨p,0 + 0 + 3,none⟩ = some (.slice D.FA n.fin.length D.cf) := (Ac hp5 3).trans rfl
  clear hd2 hp4 hW hcS hK5
  refine mp G<|onc G<|ofa DF G<|ofa Fl G<|old G22 G ‹_›<|?_
  have hcF := FI w.heap.size g D.FA D.cf (toN n.fin) _ w5 hW5 (hG.low hK.low h2) h2 (fun V hV => by rw [Be,Cx (fun x hx => (hn.fin.bnd x hx).1)]; exact Kd.C_below (Kd.R_reads' hD.fi).2.2 (hK.trans hV).low) (fun k hk => by obtain ⟨x,hx,rfl⟩ := List.mem_map.1 hk; have := hn.fin.bnd x hx; omega) (by rw [Be]; simp [Be]; omega)
  rw [Be] at hcF
  refine cl C86 [] G (hcF.mono ?_)
  rintro e w6 ⟨rfl,hW6,hK6⟩
  have hK := hK.trans hK6
  refine ⟨_,rfl,?_⟩
  have hp6 := (hK.low.block p (Am hD.blk)).trans hD.blk
  have hd4 : w6.cell? ⟨p,0 + 0 + 4,none⟩ = some (.slice D.EA n.edges.length D.ce) := (Ac hp6 4).trans rfl
  clear hd3 hp5 hW5 hcF hK6
  refine mp G<|onc G<|ofa DF G<|ofa Dz G<|old G23 G ‹_›<|oln U23 G<|Fa [n.edges.length] (AJ (u := .int .i64 (n.edges.length : Nat)) U22 I3 G G) G (by decide) ?_
  intro A1 c1 w7 hR1 hb7
  have hK7 := hK.new hW6.hz hb7
  refine cl C85 [] G ((D7 w.heap.size g A1 c1 [n.edges.length] _ w7 (hW6.below hb7) (hG.low hK7.low h2) h2 (fun V hV => (Kd.R_reads' (Cv hR1 hV)).2.2) (fun k hk => by rw [List.mem_singleton.1 hk]; omega) (by simp [Be]; omega)).mono ?_)
  rintro e w8 ⟨rfl,hW8,hK8⟩
  refine ⟨_,rfl,?_⟩
  have hK := hK7.trans hK8
  have hp8 := (hK.low.block p (Am hD.blk)).trans hD.blk
  have hd4 : w8.cell? ⟨p,0 + 0 + 4,none⟩ = some (.slice D.EA n.edges.length D.ce) := (Ac hp8 4).trans rfl
  clear hp6 hW6 hK7 hK8 hR1 hb7
  have hW8 : Wd w.heap.size g (kwD :: (u :: ([n.vars,n.states] ++ (n.start.length :: toN n.start) ++ (n.fin.length :: toN n.fin) ++ [n.edges.length])).map decS) w8 := by simpa using hW8
  generalize hP : [n.vars,n.states] ++ (n.start.length :: toN n.start) ++ (n.fin.length :: toN n.fin) ++ [n.edges.length] = P at hW8
  have hPl : P.length ≤ 1000 := by rw [← hP]; simp [Be]; omega
  refine mp G<|onc G<|ofa DF G<|ofa Dz G<|old G23 G ‹_›<|oln U23 G<|mi G<|lp (σ := Nat) (fun k => [(3,.pointer (some ⟨g,0,none⟩)),(67,.slice D.EA n.edges.length D.ce),(68,.int .i64 n.edges.length),(69,.int .i64 (k : Nat))])
   (fun k V => k ≤ n.edges.length ∧ Wd w.heap.size g (kwD :: (u :: (P ++ (n.edges.take k).flatMap Ed.nums)).map decS) V ∧ Wk w.heap.size w V) (fun k => n.edges.length - k) 0 ⟨rfl,rfl,rfl,rfl,rfl⟩ ⟨Nat.zero_le _,by simpa using hW8,hK⟩ ?_
  clear hW8 hK hp8 hd4
  rintro k f V ⟨hk,hW,hK⟩
  refine olt G G<|cdd G (fun hlt => ?_) (fun hge => ?_)
  ·have hkl : k < n.edges.length := Int.ofNat_lt.1 hlt
   obtain ⟨ed,hed⟩ : ∃ ed,n.edges[k]? = some ed := ⟨_,gE hkl⟩
   obtain ⟨ha,hb,pp,qq,hpp,hqq,hpo,_⟩ := hn.edges ed (List.mem_of_getElem? hed)
   have hl1 := Nat.left_le_or (n := pp) (m := qq)
   have hl2 := Nat.right_le_or (n := pp) (m := qq)
   obtain ⟨ad,hA,hcell⟩ := Ed.row (Kd.R_reads' hD.ed).2.2 hed
   have hcell := fun j v hj => Ae hK.low (hcell j v hj)
   have hEA : (Value.slice D.EA n.edges.length D.ce) = .slice (some ad) n.edges.length D.ce := by rw [hA]
   obtain ⟨sn,hsn⟩ : ∃ x : Nat,ed.src = x := ⟨ed.src.toNat,by omega⟩
   obtain ⟨dn,hdn⟩ : ∃ x : Nat,ed.dst = x := ⟨ed.dst.toNat,by omega⟩
   have henc : ed.enc = [.int .i64 (sn : Nat),.int .i64 (dn : Nat),.int .u8 (pp : Nat),.int .u8 (qq : Nat)] := by unfold Ed.enc; rw [hsn,hdn,hpp,hqq]
   have hnum : ed.nums = [sn,dn,pp,qq] := by unfold Ed.nums; rw [hsn,hdn,hpp,hqq]; rfl
   refine AD (a := ad) U23 Z71 (by exact hEA) G hkl ?_
   refine AV (vs := ed.enc) G71 S71 G hcell<|oal (v := .agg zed.toArray) (cs := zed) (fun _ => by kernel_rfl) G ?_
   intro g6 V1 hge6 hgb6 hb1
   have hW := hW
   have hz := hW.hz
   have hK1 := hK.new hz hb1
   have hW1 := hW.below hb1
   refine Bo (vs := ed.enc) (cs := zed) S71 G G G (Ed.enc_one _) hgb6 (by simp [Ed.enc]) ?_
   intro V2 hgb62 hg2
   have hw6 : w.heap.size ≤ g6 := by omega
   have hb2 : Below V.heap.size V V2 := hb1.grown hg2 hb1.size (fun k e => by cases e; omega)
   have hK2 := hK.new hz hb2
   have hW2 := hW.below hb2
   have hgc : V2.heap[g6]? = some (.cells [.int .i64 (sn : Nat),.int .i64 (dn : Nat),.int .u8 (pp : Nat),.int .u8 (qq : Nat)].toArray 71 (0,0)) := by rw [← henc]; exact hgb62
   have hc0 : V2.cell? ⟨g6,0 + 0,none⟩ = some (.int .i64 (sn : Nat)) := (Ac hgc 0).trans rfl
   have hc1 : V2.cell? ⟨g6,0 + 1,none⟩ = some (.int .i64 (dn : Nat)) := (Ac hgc 1).trans rfl
   have hc2 : V2.cell? ⟨g6,0 + 2,none⟩ = some (.int .u8 (pp : Nat)) := (Ac hgc 2).trans rfl
   have hc3 : V2.cell? ⟨g6,0 + 3,none⟩ = some (.int .u8 (qq : Nat)) := (Ac hgc 3).trans rfl
   clear hgb62 hgb6 hg2 hb1 hK1 hW1
   refine ofa DO G<|old G3 G ‹_›<|ofa Fk G<|old G3 G ‹_›<|ofa IX G<|old G5 G ‹_›<|CU (a := pp) UI5 UI3 G (Nat.lt_of_le_of_lt (by omega : pp ≤ 64) (by decide)) ?_
   refine ofa IW G<|old G5 G ‹_›<|CU (a := qq) UI5 UI3 G (Nat.lt_of_le_of_lt (by omega : qq ≤ 64) (by decide)) ?_
   refine Fa [sn,dn,pp,qq] (Cj (us := [.int .i64 (sn : Nat),.int .i64 (dn : Nat),.int .i64 (pp : Nat),.int .i64 (qq : Nat)]) U22 I3 G (by decide) [.tmp 74,.tmp 76,.tmp 79,.tmp 82] G G G (by simp [Value.cells]) G (by simp)) G (by decide) ?_
   intro A1 c1 V3 hR1 hb3
   have hK3 := hK2.new hW2.hz hb3
   have hfl4 := EO (n.edges.take k)
   refine cl C85 [] rfl ((D7 w.heap.size g A1 c1 [sn,dn,pp,qq] _ V3 (hW2.below hb3) (hG.low hK3.low h2) h2 (fun V hV => (Kd.R_reads' (Cv hR1 hV)).2.2) (fun k hk => by simp only [List.mem_cons,List.not_mem_nil,or_false] at hk; rcases hk with rfl | rfl | rfl | rfl <;> omega) (by
    rw [List.length_cons,List.length_map,List.length_cons,List.length_append,hfl4,List.length_take]
    show _ + 4 ≤ _
    omega)).mono ?_)
   rintro e V4 ⟨rfl,hW4,hK4⟩
   refine ⟨_,rfl,?_⟩
   refine oad G G (by first | assumption | omega)<|mi G<|?_
   refine ⟨k + 1,⟨rfl,rfl,rfl,rfl,rfl⟩,⟨hkl,?_,hK3.trans hK4⟩,by omega⟩
   have htk : n.edges.take (k + 1) = n.edges.take k ++ [ed] := by rw [List.take_succ_eq_append_getElem hkl]; rw [gE hkl] at hed; injection hed with e; rw [e]
   have e : (kwD :: (u :: (P ++ (n.edges.take (k + 1)).flatMap Ed.nums)).map decS) = kwD :: (u :: (P ++ (n.edges.take k).flatMap Ed.nums)).map decS ++ [sn,dn,pp,qq].map decS := by
    rw [htk,List.flatMap_append]
    simp [hnum]
   rw [e]; exact hW4
  ·have hkn : k = n.edges.length := by omega
   subst hkn
   rw [List.take_length] at hW
   have hPn : P ++ n.edges.flatMap Ed.nums = n.nums := by rw [← hP]; unfold Na.nums; simp
   rw [hPn] at hW
   obtain ⟨A,c,hgc,hR⟩ := hW.at_
   have hcg : V.cell? ⟨g,0,none⟩ = some (.slice A (kwD :: (u :: n.nums).map decS).length c) := (Ac hgc 0).trans rfl
   refine old K9 G ‹_›<|cl C87 [] G ((Jc A c w.heap.size (kwD :: (u :: n.nums).map decS) V hR (by simp) (by simp; omega) (Ep (by decide) (fun k hk => by
    rcases List.mem_cons.1 hk with rfl | h
    ·exact hu
    ·exact hok k h) (by simp; omega))).mono ?_)
   rintro e V1 ⟨rfl,hb1⟩
   refine ⟨_,rfl,?_⟩
   refine ast G<|?_
   exact rt1 rfl rfl ⟨rfl,(hK.new hW.hz hb1).low⟩
theorem E4 (L : Nat) : ∀ l : List (List Int),(∀ r ∈ l,r.length = L) → (l.flatMap toN).length = L * l.length
 | [],_ => by simp
 | r :: l,h => by
  rw [List.flatMap_cons,List.length_append,E4 L l (fun x hx => h x (List.mem_cons_of_mem _ hx)),Be,h r (List.mem_cons_self ..),List.length_cons,Nat.mul_add,Nat.mul_one]
  omega
theorem Df.nums_ok {d : Df} (hd : d.Ok) (h100 : d.next.length ≤ 100) : (∀ k ∈ d.nums,k ≤ 1000000000) ∧ d.nums.length ≤ 8000 := by
 have hv := hd.v
 have hs := hd.s
 have hf := hd.f
 have h64 : 2 ^ d.vars ≤ 64 := Nat.pow_le_pow_right (n := 2) (by decide) hd.v
 constructor
 ·intro k hk
  unfold Df.nums at hk
  simp only [List.mem_append,List.mem_cons,List.not_mem_nil,or_false,List.mem_flatMap,toN,List.mem_map] at hk
  rcases hk with ((rfl | rfl | rfl) | ⟨r,hr,x,hx,rfl⟩) | ⟨b,hb,rfl⟩
  ·omega
  ·omega
  ·omega
  ·have := (hd.rows r hr).2 x hx; omega
  ·unfold b2n; split <;> omega
 ·unfold Df.nums
  have h1 := E4 (2 ^ d.vars) d.next (fun r hr => (hd.rows r hr).1)
  have h2 : 2 ^ d.vars * d.next.length ≤ 64 * 100 := Nat.mul_le_mul h64 h100
  simp only [List.length_append,List.length_cons,List.length_nil,List.length_map,h1]
  omega
theorem save49N (d : Df) (hd : d.Ok) (h100 : d.next.length ≤ 100) (base j p u k0 : Nat) (NA FA CA : Option Addr) (nc fc cc : Nat) (w : World) (hj : B8 j 123 p u w) (hM : MD d base p NA FA CA nc fc cc k0 w) (hu : u ≤ 1000000000) :
  Calls Tryz.prog 49 #[.pointer (some ⟨j,0,none⟩)] w fun e w' => e = .returned (.string (Co (kwN :: (u :: d.nums).map decS))) ∧ Below w.heap.size w w' := by
 have hG := hM.glob
 have h2 : 2 < w.heap.size := hG.lt
 have hvv := hd.v
 have hss := hd.s
 have hff := hd.f
 have h64 : 2 ^ d.vars ≤ 64 := Nat.pow_le_pow_right (n := 2) (by decide) hd.v
 obtain ⟨hok,hlen⟩ := Df.nums_ok hd h100
 have hc0 : w.cell? ⟨j,0 + 0,none⟩ = some (.iface 123 (.pointer (some ⟨p,0,none⟩))) := (Ac hj 0).trans rfl
 refine enter 193 Tryz.func49 G G _ (by simp) ?_
 refine ast G<|mp G<|pl (.bool false) (fun _ => by kernel_rfl)<|cdf G<|oal (v := .slice none 0 0) (cs := [.slice none 0 0]) (fun _ => by kernel_rfl) G ?_
 intro g w1 hge hgb hb1
 have hc0 := Ae hb1 hc0
 refine mp G<|onc G<|ofa D4 G<|old Ig G ‹_›<|pl (.tuple #[.pointer none,.bool false]) (fun _ => by kernel_rfl)<|oex G G<|oex G G<|cdf G<|pl (.tuple #[.pointer (some ⟨p,0,none⟩),.bool true]) (fun _ => by kernel_rfl)<|oex G G<|oex G G<|cdt G<|ap G<|BV Kstr w.heap.size (p := kwN) (okp := fun _ => True) (AJ (u := .string kwN) KV I9 G G) G G hb1.size ?_
 intro A c w2 hR2 hb2
 have hgb := Ab hgb hb2
 refine Bc (v := .slice A 1 c) (cs := [.slice none 0 0]) (i := 0) (fun _ => by kernel_rfl) G G G hgb (by simp) ?_
 intro w3 hgb3 hg3
 have hB2 := Ad hb1 hb2
 have hwg : w.heap.size ≤ g := by omega
 have hW : Wd w.heap.size g [kwN] w3 := ⟨⟨A,c,hgb3,Ah hR2 hgb (by decide) hg3⟩,hwg,Nat.le_trans hB2.size hg3.size⟩
 have hK : Wk w.heap.size w w3 := ((Wk.refl _ w).new (Nat.le_refl _) hB2).turn hB2.size hg3 hgb (by decide) hwg
 clear hgb hgb3 hg3 hR2 hb1 hb2 hB2 hc0
 refine cut (σ := Unit) (fun _ => [(3,.pointer (some ⟨g,0,none⟩)),(7,.pointer (some ⟨p,0,none⟩))])
  (fun _ V => Wd w.heap.size g (kwN :: [u,d.vars,d.start,d.next.length].map decS) V ∧ Wk w.heap.size w V) (by repeat' (first | exact BB | exact BD | exact Bl | refine Bi ?_ ?_ | refine Bk ?_ | refine Bj ?_ | refine AX _ ?_)) ?_ ?_
 ·refine drt mixed 20 (by kernel_rfl) ?_
  intro w4 hb4 _ _
  have hz := hW.hz
  have hK := hK.new hz hb4
  have hW := hW.below hb4
  have hj4 := (hK.low.block j (Am hj)).trans hj
  have hp4 := (hK.low.block p (Am hM.blk)).trans hM.blk
  have hc1 : w4.cell? ⟨j,0 + 1,none⟩ = some (.int .i64 (u : Nat)) := (Ac hj4 1).trans rfl
  have hd0 : w4.cell? ⟨p,0 + 0 + 0,none⟩ = some (.int .i64 (d.vars : Nat)) := (Ac hp4 0).trans rfl
  have hd1 : w4.cell? ⟨p,0 + 0 + 1,none⟩ = some (.int .i64 (d.start : Nat)) := (Ac hp4 1).trans rfl
  have hd2 : w4.cell? ⟨p,0 + 0 + 2,none⟩ = some (.slice NA d.next.length nc) := (Ac hp4 2).trans rfl
  refine spu (mp_ G)<|spu (BN G)<|spu (AQ EU G)<|sru (Ai G3 G ‹_›)<|spu (mp_ G)<|spu (BN G)<|spu (AQ FP G)<|spu (AQ CE G)<|sru (Ai G3 G ‹_›)<|spu (mp_ G)<|spu (BN G)<|spu (AQ FP G)<|spu (AQ CT G)<|sru (Ai G3 G ‹_›)<|spu (mp_ G)<|spu (BN G)<|spu (AQ FP G)<|spu (AQ Bz G)<|sru (Ai G27 G ‹_›)<|spu (Ec U27 G)<|Fa [u,d.vars,d.start,d.next.length] (Cj (us := [.int .i64 (u : Nat),.int .i64 (d.vars : Nat),.int .i64 (d.start : Nat),.int .i64 (d.next.length : Nat)]) U22 I3 G (by decide) [.tmp 93,.tmp 98,.tmp 103,.tmp 109] G G G (by simp [Value.cells]) G (by simp)) G (by decide) ?_
  intro A1 c1 w5 hR1 hb5
  have hK5 := hK.new hW.hz hb5
  refine cl C85 [] rfl ((D7 w.heap.size g A1 c1 [u,d.vars,d.start,d.next.length] [kwN] w5 (hW.below hb5) (hG.low hK5.low h2) h2 (fun V hV => (Kd.R_reads' (Cv hR1 hV)).2.2) (fun k hk => by simp only [List.mem_cons,List.not_mem_nil,or_false] at hk; rcases hk with rfl | rfl | rfl | rfl <;> omega) (by simp)).mono ?_)
  rintro e w6 ⟨rfl,hW6,hK6⟩
  refine ⟨_,rfl,?_⟩
  exact ⟨(),⟨rfl,rfl,rfl⟩,hW6,hK5.trans hK6⟩
 ·rintro _ f w4 ⟨hW,hK⟩
  have hW : Wd w.heap.size g (kwN :: (u :: [d.vars,d.start,d.next.length]).map decS) w4 := hW
  generalize hP : [d.vars,d.start,d.next.length] = P at hW
  have hPl : P.length = 3 := by rw [← hP]; rfl
  have hp4 := (hK.low.block p (Am hM.blk)).trans hM.blk
  have hd2 : w4.cell? ⟨p,0 + 0 + 2,none⟩ = some (.slice NA d.next.length nc) := (Ac hp4 2).trans rfl
  refine mp G<|onc G<|ofa FP G<|ofa Bz G<|old G27 G ‹_›<|oln U27 G<|mi G<|lp (σ := Nat) (fun k => [(3,.pointer (some ⟨g,0,none⟩)),(7,.pointer (some ⟨p,0,none⟩)),(116,.slice NA d.next.length nc),(117,.int .i64 d.next.length),(118,.int .i64 (k : Nat))])
   (fun k V => k ≤ d.next.length ∧ Wd w.heap.size g (kwN :: (u :: (P ++ (d.next.take k).flatMap toN)).map decS) V ∧ Wk w.heap.size w V) (fun k => d.next.length - k) 0 ⟨rfl,rfl,rfl,rfl,rfl,rfl⟩ ⟨Nat.zero_le _,by simpa using hW,hK⟩ ?_
  clear hW hK hp4 hd2
  rintro k f V ⟨hk,hW,hK⟩
  refine olt G G<|cdd G (fun hlt => ?_) (fun hge => ?_)
  ·have hkl : k < d.next.length := Int.ofNat_lt.1 hlt
   obtain ⟨row,hrow⟩ : ∃ row,d.next[k]? = some row := ⟨_,gE hkl⟩
   obtain ⟨hrl,hrb⟩ := hd.rows row (List.mem_of_getElem? hrow)
   obtain ⟨ad,cc,rfl,_,⟨RA,rc,rfl,hrc,hRow⟩,hcS⟩ := DG (Kd.R_reads' hM.nx).2.2 hrow
   have hcell : V.cell? (ad.add (k * 1)) = some (.slice RA row.length rc) := Ae hK.low (hcS 0 _ rfl)
   refine AD U27 Z22 G G (by first | assumption | omega)<|old G22 G ‹_›<|asl G<|?_
   refine ms G<|?_
   have htl : ((d.next.take k).flatMap toN).length ≤ 6400 := by
    rw [E4 (2 ^ d.vars) _ (fun r hr => (hd.rows r (List.mem_of_mem_take hr)).1)]
    have hq : (d.next.take k).length ≤ 100 := by rw [List.length_take]; omega
    have := Nat.mul_le_mul h64 hq
    omega
   have hc := D7 w.heap.size g RA rc (toN row) _ V hW (hG.low hK.low h2) h2 (fun V' hV => by rw [Be,Cx (fun x hx => (hrb x hx).1)]; exact Kd.C_below hRow (hK.trans hV).low) (fun k hk => by obtain ⟨x,hx,rfl⟩ := List.mem_map.1 hk; have := hrb x hx; omega) (by rw [Be,hrl,List.length_cons,List.length_map,List.length_cons,List.length_append]; omega)
   rw [Be] at hc
   refine cl C85 [] G (hc.mono ?_)
   rintro e V1 ⟨rfl,hW1,hK1⟩
   refine ⟨_,rfl,?_⟩
   refine oad G G (by first | assumption | omega)<|mi G<|?_
   refine ⟨k + 1,⟨rfl,rfl,rfl,rfl,rfl,rfl⟩,⟨hkl,?_,hK.trans hK1⟩,by omega⟩
   have htk : d.next.take (k + 1) = d.next.take k ++ [row] := by rw [List.take_succ_eq_append_getElem hkl]; rw [gE hkl] at hrow; injection hrow with e; rw [e]
   have e : (kwN :: (u :: (P ++ (d.next.take (k + 1)).flatMap toN)).map decS) = kwN :: (u :: (P ++ (d.next.take k).flatMap toN)).map decS ++ (toN row).map decS := by
    rw [htk,List.flatMap_append]
    simp
   rw [e]; exact hW1
  ·have hkn : k = d.next.length := by omega
   subst hkn
   rw [List.take_length] at hW
   have hpv := (hK.low.block p (Am hM.blk)).trans hM.blk
   have hd3 : V.cell? ⟨p,0 + 0 + 3,none⟩ = some (.slice FA d.fin.length fc) := (Ac hpv 3).trans rfl
   have hPn : (P ++ d.next.flatMap toN) ++ d.fin.map b2n = d.nums := by rw [← hP]; unfold Df.nums; simp
   have hPl2 : (P ++ d.next.flatMap toN).length ≤ 6403 := by
    rw [List.length_append,E4 (2 ^ d.vars) _ (fun r hr => (hd.rows r hr).1)]
    have := Nat.mul_le_mul h64 h100
    omega
   generalize P ++ d.next.flatMap toN = P at hW hPn hPl2
   refine mp G<|onc G<|ofa FP G<|ofa BP G<|old G33 G ‹_›<|oln U33 G<|mi G<|lp (σ := Nat) (fun k => [(3,.pointer (some ⟨g,0,none⟩)),(129,.slice FA d.fin.length fc),(130,.int .i64 d.fin.length),(131,.int .i64 (k : Nat))])
    (fun k V => k ≤ d.fin.length ∧ Wd w.heap.size g (kwN :: (u :: (P ++ (d.fin.take k).map b2n)).map decS) V ∧ Wk w.heap.size w V) (fun k => d.fin.length - k) 0 ⟨rfl,rfl,rfl,rfl,rfl⟩ ⟨Nat.zero_le _,by simpa using hW,hK⟩ ?_
   clear hW hK hpv hd3 hge
   rintro k f V ⟨hk,hW,hK⟩
   refine olt G G<|cdd G (fun hlt => ?_) (fun hge => ?_)
   ·have hkl : k < d.fin.length := Int.ofNat_lt.1 hlt
    obtain ⟨b,hb⟩ : ∃ b,d.fin[k]? = some b := ⟨_,gE hkl⟩
    obtain ⟨ad,rfl,hcf⟩ := Au (Kd.R_reads' hM.fi).2.2 hb
    have hcell : V.cell? (ad.add (k * 1)) = some (.bool b) := Ae hK.low hcf
    have htk : d.fin.take (k + 1) = d.fin.take k ++ [b] := by rw [List.take_succ_eq_append_getElem hkl]; rw [gE hkl] at hb; injection hb with e; rw [e]
    have e : (kwN :: (u :: (P ++ (d.fin.take (k + 1)).map b2n)).map decS) = kwN :: (u :: (P ++ (d.fin.take k).map b2n)).map decS ++ [b2n b].map decS := by
     rw [htk,List.map_append]
     simp
    have htl : ((d.fin.take k).map b2n).length ≤ 100 := by rw [List.length_map,List.length_take]; omega
    refine AD U33 Z4 G G (by first | assumption | omega)<|old G4 G ‹_›<|ab G<|?_
    refine mb G<|?_
    cases b with
    | true =>
     refine cdt G<|Fa [1] (AJ (u := .int .i64 1) U22 I3 G G) G (by decide) ?_
     intro A1 c1 V1 hR1 hb1
     have hK1 := hK.new hW.hz hb1
     refine cl C85 [] G ((D7 w.heap.size g A1 c1 [1] _ V1 (hW.below hb1) (hG.low hK1.low h2) h2 (fun V hV => (Kd.R_reads' (Cv hR1 hV)).2.2) (fun k hk => by rw [List.mem_singleton.1 hk]; omega) (by rw [List.length_cons,List.length_map,List.length_cons,List.length_append]; show _ + 1 ≤ _; omega)).mono ?_)
     rintro e2 V2 ⟨rfl,hW2,hK2⟩
     refine ⟨_,rfl,?_⟩
     refine oad G G (by first | assumption | omega)<|mi G<|?_
     exact ⟨k + 1,⟨rfl,rfl,rfl,rfl,rfl⟩,⟨hkl,e ▸ hW2,hK1.trans hK2⟩,by omega⟩
    | false =>
     refine cdf G<|Fa [0] (AJ (u := .int .i64 0) U22 I3 G G) G (by decide) ?_
     intro A1 c1 V1 hR1 hb1
     have hK1 := hK.new hW.hz hb1
     refine cl C85 [] G ((D7 w.heap.size g A1 c1 [0] _ V1 (hW.below hb1) (hG.low hK1.low h2) h2 (fun V hV => (Kd.R_reads' (Cv hR1 hV)).2.2) (fun k hk => by rw [List.mem_singleton.1 hk]; omega) (by rw [List.length_cons,List.length_map,List.length_cons,List.length_append]; show _ + 1 ≤ _; omega)).mono ?_)
     rintro e2 V2 ⟨rfl,hW2,hK2⟩
     refine ⟨_,rfl,?_⟩
     refine oad G G (by first | assumption | omega)<|mi G<|?_
     exact ⟨k + 1,⟨rfl,rfl,rfl,rfl,rfl⟩,⟨hkl,e ▸ hW2,hK1.trans hK2⟩,by omega⟩
   ·have hkn : k = d.fin.length := by omega
    subst hkn
    rw [List.take_length,hPn] at hW
    obtain ⟨A,c,hgc,hR⟩ := hW.at_
    have hcg : V.cell? ⟨g,0,none⟩ = some (.slice A (kwN :: (u :: d.nums).map decS).length c) := (Ac hgc 0).trans rfl
    refine old K9 G ‹_›<|cl C87 [] G ((Jc A c w.heap.size (kwN :: (u :: d.nums).map decS) V hR (by simp) (by simp; omega) (Ep (by decide) (fun k hk => by
     rcases List.mem_cons.1 hk with rfl | h
     ·exact hu
     ·exact hok k h) (by simp; omega))).mono ?_)
    rintro e V1 ⟨rfl,hb1⟩
    refine ⟨_,rfl,?_⟩
    refine ast G<|?_
    exact rt1 rfl rfl ⟨rfl,(hK.new hW.hz hb1).low⟩
abbrev cntd (r : List Int) : List Nat := r.length :: toN r
theorem GV (L : Nat) : ∀ l : List (List Int),(∀ r ∈ l,r.length ≤ L) → (l.flatMap cntd).length ≤ (L + 1) * l.length
 | [],_ => by simp
 | r :: l,h => by
  have ih := GV L l (fun x hx => h x (List.mem_cons_of_mem _ hx))
  have hr := h r (List.mem_cons_self ..)
  have e : (cntd r).length = r.length + 1 := by simp [cntd,Be]
  rw [List.flatMap_cons,List.length_append,e,List.length_cons,Nat.mul_add,Nat.mul_one]
  omega
theorem GL.nums_ok {g : GL} (hF : g.Full) (h64 : g.own.length ≤ 64) : (∀ k ∈ g.nums,k ≤ 1000000000) ∧ g.nums.length ≤ 4500 := by
 obtain ⟨h1,h2,h3⟩ := FS hF
 have hlp := hF.ok.lp
 have hls := hF.ok.ls
 constructor
 ·intro k hk
  unfold GL.nums at hk
  simp only [List.mem_append,List.mem_cons,List.not_mem_nil,or_false,List.mem_flatMap,toN,List.mem_map] at hk
  rcases hk with ((rfl | ⟨x,hx,rfl⟩) | ⟨x,hx,rfl⟩) | ⟨r,hr,rfl | ⟨x,hx,rfl⟩⟩
  ·omega
  ·have := h1 x hx; omega
  ·have := h2 x hx; omega
  ·have := (h3 r hr).1; omega
  ·have := (h3 r hr).2 x hx; omega
 ·unfold GL.nums
  have h4 := GV 64 g.suc (fun r hr => by
   obtain ⟨v,hv,rfl⟩ := List.getElem_of_mem hr
   have := (hF.rise v _ (gE hv)).length
   omega)
  have h5 : (g.suc.flatMap fun r => r.length :: toN r) = g.suc.flatMap cntd := rfl
  simp only [List.length_append,List.length_cons,List.length_nil,Be,h5]
  omega
theorem save49G (d : GL) (hF : d.Full) (h64 : d.own.length ≤ 64) (base j p u gm mc co cp cS : Nat) (OA PA SA : Option Addr) (mz : List Me) (dn : Bool) (w : World) (hj : B8 j 108 p u w) (hM : MS d base p OA PA SA co cp cS gm mc mz dn w) (hG : Glob w) (hu : u ≤ 1000000000) :
  Calls Tryz.prog 49 #[.pointer (some ⟨j,0,none⟩)] w fun e w' => e = .returned (.string (Co (kwG :: (u :: d.nums).map decS))) ∧ Below w.heap.size w w' := by
 have h2 : 2 < w.heap.size := hG.lt
 obtain ⟨hown,hpri,hsuc⟩ := FS hF
 have hlp := hF.ok.lp
 have hls := hF.ok.ls
 obtain ⟨hok,hlen⟩ := GL.nums_ok hF h64
 have hc0 : w.cell? ⟨j,0 + 0,none⟩ = some (.iface 108 (.pointer (some ⟨p,0,none⟩))) := (Ac hj 0).trans rfl
 refine enter 193 Tryz.func49 G G _ (by simp) ?_
 refine ast G<|mp G<|pl (.bool false) (fun _ => by kernel_rfl)<|cdf G<|oal (v := .slice none 0 0) (cs := [.slice none 0 0]) (fun _ => by kernel_rfl) G ?_
 intro g w1 hge hgb hb1
 have hc0 := Ae hb1 hc0
 refine mp G<|onc G<|ofa D4 G<|old Ig G ‹_›<|pl (.tuple #[.pointer none,.bool false]) (fun _ => by kernel_rfl)<|oex G G<|oex G G<|cdf G<|pl (.tuple #[.pointer none,.bool false]) (fun _ => by kernel_rfl)<|oex G G<|oex G G<|cdf G<|pl (.tuple #[.pointer (some ⟨p,0,none⟩),.bool true]) (fun _ => by kernel_rfl)<|oex G G<|oex G G<|cdt G<|ap G<|BV Kstr w.heap.size (p := kwG) (okp := fun _ => True) (AJ (u := .string kwG) KV I9 G G) G G hb1.size ?_
 intro A c w2 hR2 hb2
 have hgb := Ab hgb hb2
 refine Bc (v := .slice A 1 c) (cs := [.slice none 0 0]) (i := 0) (fun _ => by kernel_rfl) G G G hgb (by simp) ?_
 intro w3 hgb3 hg3
 have hB2 := Ad hb1 hb2
 have hwg : w.heap.size ≤ g := by omega
 have hW : Wd w.heap.size g [kwG] w3 := ⟨⟨A,c,hgb3,Ah hR2 hgb (by decide) hg3⟩,hwg,Nat.le_trans hB2.size hg3.size⟩
 have hK : Wk w.heap.size w w3 := ((Wk.refl _ w).new (Nat.le_refl _) hB2).turn hB2.size hg3 hgb (by decide) hwg
 clear hgb hgb3 hg3 hR2 hb1 hb2 hB2 hc0
 refine cut (σ := Unit) (fun _ => [(3,.pointer (some ⟨g,0,none⟩)),(12,.pointer (some ⟨p,0,none⟩))])
  (fun _ V => Wd w.heap.size g (kwG :: [u,d.own.length].map decS) V ∧ Wk w.heap.size w V) (by repeat' (first | exact BB | exact BD | exact Bl | refine Bi ?_ ?_ | refine Bk ?_ | refine Bj ?_ | refine AX _ ?_)) ?_ ?_
 ·refine drt mixed 10 (by kernel_rfl) ?_
  intro w4 hb4 _ _
  have hz := hW.hz
  have hK := hK.new hz hb4
  have hW := hW.below hb4
  have hj4 := (hK.low.block j (Am hj)).trans hj
  have hp4 := (hK.low.block p (Am hM.blk)).trans hM.blk
  have hc1 : w4.cell? ⟨j,0 + 1,none⟩ = some (.int .i64 (u : Nat)) := (Ac hj4 1).trans rfl
  have hd0 : w4.cell? ⟨p,0 + 0 + 0,none⟩ = some (.slice OA d.own.length co) := (Ac hp4 0).trans rfl
  refine spu (mp_ G)<|spu (BN G)<|spu (AQ EU G)<|sru (Ai G3 G ‹_›)<|spu (mp_ G)<|spu (BN G)<|spu (AQ FO G)<|spu (AQ BQ G)<|sru (Ai G26 G ‹_›)<|spu (Ec U26 G)<|Fa [u,d.own.length] (Cj (us := [.int .i64 (u : Nat),.int .i64 (d.own.length : Nat)]) U22 I3 G (by decide) [.tmp 148,.tmp 154] G G G (by simp [Value.cells]) G (by simp)) G (by decide) ?_
  intro A1 c1 w5 hR1 hb5
  have hK5 := hK.new hW.hz hb5
  refine cl C85 [] rfl ((D7 w.heap.size g A1 c1 [u,d.own.length] [kwG] w5 (hW.below hb5) (hG.low hK5.low h2) h2 (fun V hV => (Kd.R_reads' (Cv hR1 hV)).2.2) (fun k hk => by simp only [List.mem_cons,List.not_mem_nil,or_false] at hk; rcases hk with rfl | rfl <;> omega) (by simp)).mono ?_)
  rintro e w6 ⟨rfl,hW6,hK6⟩
  refine ⟨_,rfl,?_⟩
  exact ⟨(),⟨rfl,rfl,rfl⟩,hW6,hK5.trans hK6⟩
 ·rintro _ f w4 ⟨hW,hK⟩
  have hW : Wd w.heap.size g (kwG :: (u :: [d.own.length]).map decS) w4 := hW
  generalize hP : [d.own.length] = P at hW
  have hPl : P.length = 1 := by rw [← hP]; rfl
  have hp4 := (hK.low.block p (Am hM.blk)).trans hM.blk
  have hd2 : w4.cell? ⟨p,0 + 0 + 0,none⟩ = some (.slice OA d.own.length co) := (Ac hp4 0).trans rfl
  refine mp G<|onc G<|ofa FO G<|ofa BQ G<|old G26 G ‹_›<|oln U26 G<|mi G<|lp (σ := Nat) (fun k => [(3,.pointer (some ⟨g,0,none⟩)),(12,.pointer (some ⟨p,0,none⟩)),(161,.slice OA d.own.length co),(162,.int .i64 d.own.length),(163,.int .i64 (k : Nat))])
   (fun k V => k ≤ d.own.length ∧ Wd w.heap.size g (kwG :: (u :: (P ++ toN (d.own.take k))).map decS) V ∧ Wk w.heap.size w V) (fun k => d.own.length - k) 0 ⟨rfl,rfl,rfl,rfl,rfl,rfl⟩ ⟨Nat.zero_le _,by simpa [toN] using hW,hK⟩ ?_
  clear hW hK hp4 hd2
  rintro k f V ⟨hk,hW,hK⟩
  refine olt G G<|cdd G (fun hlt => ?_) (fun hge => ?_)
  ·have hkl : k < d.own.length := Int.ofNat_lt.1 hlt
   obtain ⟨x,hx⟩ : ∃ x,d.own[k]? = some x := ⟨_,gE hkl⟩
   obtain ⟨hx0,hx1⟩ := hown x (List.mem_of_getElem? hx)
   obtain ⟨m,hm⟩ : ∃ m : Nat,x = m := ⟨x.toNat,by omega⟩
   subst hm
   obtain ⟨ad,rfl,hcf⟩ := Au (Kd.R_reads' hM.ro).2.2 hx
   have hcell : V.cell? (ad.add (k * 1)) = some (.int .u8 (m : Nat)) := Ae hK.low hcf
   have htk : d.own.take (k + 1) = d.own.take k ++ [((m : Nat) : Int)] := by rw [List.take_succ_eq_append_getElem hkl]; rw [gE hkl] at hx; injection hx with e; rw [e]
   have e : (kwG :: (u :: (P ++ toN (d.own.take (k + 1)))).map decS) = kwG :: (u :: (P ++ toN (d.own.take k))).map decS ++ [m].map decS := by
    rw [htk,toN,List.map_append]
    simp [toN]
   have htl : (toN (d.own.take k)).length ≤ 64 := by rw [Be,List.length_take]; omega
   refine AD U26 Z5 G G (by first | assumption | omega)<|old G5 G ‹_›<|ai G<|?_
   refine mi G<|CU (a := m) UI5 UI3 G (Nat.lt_of_le_of_lt (by omega : m ≤ 64) (by decide)) ?_
   refine Fa [m] (AJ (u := .int .i64 (m : Nat)) U22 I3 G G) G (by decide) ?_
   intro A1 c1 V1 hR1 hb1
   have hK1 := hK.new hW.hz hb1
   refine cl C85 [] G ((D7 w.heap.size g A1 c1 [m] _ V1 (hW.below hb1) (hG.low hK1.low h2) h2 (fun V hV => (Kd.R_reads' (Cv hR1 hV)).2.2) (fun k hk => by rw [List.mem_singleton.1 hk]; omega) (by rw [List.length_cons,List.length_map,List.length_cons,List.length_append]; show _ + 1 ≤ _; omega)).mono ?_)
   rintro e2 V2 ⟨rfl,hW2,hK2⟩
   refine ⟨_,rfl,?_⟩
   refine oad G G (by first | assumption | omega)<|mi G<|?_
   exact ⟨k + 1,⟨rfl,rfl,rfl,rfl,rfl,rfl⟩,⟨hkl,e ▸ hW2,hK1.trans hK2⟩,by omega⟩
  ·have hkn : k = d.own.length := by omega
   subst hkn
   rw [List.take_length] at hW
   have hpv := (hK.low.block p (Am hM.blk)).trans hM.blk
   have hd3 : V.cell? ⟨p,0 + 0 + 1,none⟩ = some (.slice PA d.pri.length cp) := (Ac hpv 1).trans rfl
   refine mp G<|onc G<|ofa FO G<|ofa Cs G<|old G22 G ‹_›<|?_
   have hc := D7 w.heap.size g PA cp (toN d.pri) _ V hW (hG.low hK.low h2) h2 (fun V' hV => by rw [Be,Cx (fun x hx => (hpri x hx).1)]; exact Kd.C_below (Kd.R_reads' hM.rp).2.2 (hK.trans hV).low) (fun k hk => by obtain ⟨x,hx,rfl⟩ := List.mem_map.1 hk; have := hpri x hx; omega) (by rw [Be,List.length_cons,List.length_map,List.length_cons,List.length_append,Be]; omega)
   rw [Be] at hc
   refine cl C85 [] G (hc.mono ?_)
   rintro e V1 ⟨rfl,hW1,hK1⟩
   refine ⟨_,rfl,?_⟩
   have hK := hK.trans hK1
   have hPn : (P ++ toN d.own ++ toN d.pri) ++ d.suc.flatMap cntd = d.nums := by rw [← hP]; rfl
   have hW : Wd w.heap.size g (kwG :: (u :: (P ++ toN d.own ++ toN d.pri)).map decS) V1 := by
    have e : (kwG :: (u :: (P ++ toN d.own ++ toN d.pri)).map decS) = kwG :: (u :: (P ++ toN d.own)).map decS ++ (toN d.pri).map decS := by simp
    rw [e]; exact hW1
   have hPl2 : (P ++ toN d.own ++ toN d.pri).length ≤ 129 := by
    rw [List.length_append,List.length_append,Be,Be]
    omega
   generalize P ++ toN d.own ++ toN d.pri = P at hW hPn hPl2
   clear hW1 hK1 hpv hd3 hc hge
   have hpv := (hK.low.block p (Am hM.blk)).trans hM.blk
   have hd3 : V1.cell? ⟨p,0 + 0 + 2,none⟩ = some (.slice SA d.suc.length cS) := (Ac hpv 2).trans rfl
   refine mp G<|onc G<|ofa FO G<|ofa Dp G<|old G27 G ‹_›<|oln U27 G<|mi G<|lp (σ := Nat) (fun k => [(3,.pointer (some ⟨g,0,none⟩)),(182,.slice SA d.suc.length cS),(183,.int .i64 d.suc.length),(184,.int .i64 (k : Nat))])
    (fun k V => k ≤ d.suc.length ∧ Wd w.heap.size g (kwG :: (u :: (P ++ (d.suc.take k).flatMap cntd)).map decS) V ∧ Wk w.heap.size w V) (fun k => d.suc.length - k) 0 ⟨rfl,rfl,rfl,rfl,rfl⟩ ⟨Nat.zero_le _,by simpa using hW,hK⟩ ?_
   clear hW hK hpv hd3
   rintro k f V ⟨hk,hW,hK⟩
   refine olt G G<|cdd G (fun hlt => ?_) (fun hge => ?_)
   ·have hkl : k < d.suc.length := Int.ofNat_lt.1 hlt
    obtain ⟨row,hrow⟩ : ∃ row,d.suc[k]? = some row := ⟨_,gE hkl⟩
    obtain ⟨hrl,hrb⟩ := hsuc row (List.mem_of_getElem? hrow)
    obtain ⟨ad,cc,rfl,_,⟨RA,rc,rfl,hrc,hRow⟩,hcS⟩ := DG (Kd.R_reads' hM.rs).2.2 hrow
    have hcell : V.cell? (ad.add (k * 1)) = some (.slice RA row.length rc) := Ae hK.low (hcS 0 _ rfl)
    have htl : ((d.suc.take k).flatMap cntd).length ≤ 4160 := by
     have h1 := GV 64 (d.suc.take k) (fun r hr => by
      obtain ⟨v,hv,rfl⟩ := List.getElem_of_mem (List.mem_of_mem_take hr)
      have := (hF.rise v _ (gE hv)).length
      omega)
     have h2 : (d.suc.take k).length ≤ 64 := by rw [List.length_take]; omega
     omega
    refine AD U27 Z22 G G (by first | assumption | omega)<|old G22 G ‹_›<|asl G<|?_
    refine ms G<|?_
    have hc := FI w.heap.size g RA rc (toN row) _ V hW (hG.low hK.low h2) h2 (fun V' hV => by rw [Be,Cx (fun x hx => (hrb x hx).1)]; exact Kd.C_below hRow (hK.trans hV).low) (fun k hk => by obtain ⟨x,hx,rfl⟩ := List.mem_map.1 hk; have := hrb x hx; omega) (by rw [Be,List.length_cons,List.length_map,List.length_cons,List.length_append]; omega)
    rw [Be] at hc
    refine cl C86 [] G (hc.mono ?_)
    rintro e V1 ⟨rfl,hW1,hK1⟩
    refine ⟨_,rfl,?_⟩
    refine oad G G (by first | assumption | omega)<|mi G<|?_
    refine ⟨k + 1,⟨rfl,rfl,rfl,rfl,rfl⟩,⟨hkl,?_,hK.trans hK1⟩,by omega⟩
    have htk : d.suc.take (k + 1) = d.suc.take k ++ [row] := by rw [List.take_succ_eq_append_getElem hkl]; rw [gE hkl] at hrow; injection hrow with e; rw [e]
    have e : (kwG :: (u :: (P ++ (d.suc.take (k + 1)).flatMap cntd)).map decS) = kwG :: (u :: (P ++ (d.suc.take k).flatMap cntd)).map decS ++ (row.length :: toN row).map decS := by
     rw [htk,List.flatMap_append]
     simp
    rw [e]; exact hW1
   ·have hkn : k = d.suc.length := by omega
    subst hkn
    rw [List.take_length,hPn] at hW
    obtain ⟨A,c,hgc,hR⟩ := hW.at_
    have hcg : V.cell? ⟨g,0,none⟩ = some (.slice A (kwG :: (u :: d.nums).map decS).length c) := (Ac hgc 0).trans rfl
    refine old K9 G ‹_›<|cl C87 [] G ((Jc A c w.heap.size (kwG :: (u :: d.nums).map decS) V hR (by simp) (by simp; omega) (Ep (by decide) (fun k hk => by
     rcases List.mem_cons.1 hk with rfl | h
     ·exact hu
     ·exact hok k h) (by simp; omega))).mono ?_)
    rintro e V1 ⟨rfl,hb1⟩
    refine ⟨_,rfl,?_⟩
    refine ast G<|?_
    exact rt1 rfl rfl ⟨rfl,(hK.new hW.hz hb1).low⟩
structure SvJ {σ : Type} (T ku kl kr kc : Nat) (kw : ByteArray) (nums : List Nat) (St : Nat → Nat → σ → World → Prop) (nx : σ → Option σ) (s0 : σ) : Prop where
 rk : RkJ T ku kl kr kc kw nums St nx s0
 sv : ∀ base j p u s w,B8 j T p u w → St base p s w → Glob w → u ≤ 1000000000 → Calls Tryz.prog 49 #[.pointer (some ⟨j,0,none⟩)] w fun e w' => e = .returned (.string (Co (kw :: (u :: nums).map decS))) ∧ Below w.heap.size w w'
 low : ∀ base p s w w',St base p s w → Below w.heap.size w w' → St base p s w'
theorem svD (n : Na) (hn : n.Ok) (hn5 : n.states ≤ 5) : SvJ 117 230 229 89 132 kwD n.nums (fun base p => StD n base p) (nxD n) 0 where
 rk :=
  {kw := Or.inl ⟨rfl,rfl⟩
   cr := C89
   cc := C132
   kn := fun base p => knD n hn hn5 base p
   ok := (Na.nums_ok hn).1
   len := Nat.le_trans (Na.nums_ok hn).2 (by decide)
   read := by
    intro base r w h hG h2
    have hv := hn.v
    have h1 := hn.start.length
    have h3 := hn.fin.length
    have he := hn.e
    refine (nfa89 base r [] n w (by rw [List.append_nil]; exact h) hn.v ⟨by omega,fun x hx => (hn.start.bnd x hx).1⟩ ⟨by omega,fun x hx => (hn.fin.bnd x hx).1⟩ (by omega) (fun ed hed => by
     obtain ⟨a,b,p,q,hp,hq,ho,_⟩ := hn.edges ed hed
     have := Nat.left_le_or (n := p) (m := q)
     have := Nat.right_le_or (n := p) (m := q)
     have h64 : 2 ^ n.vars ≤ 64 := Nat.pow_le_pow_right (n := 2) (by decide) hn.v
     refine ⟨by omega,by omega,by omega,by omega,by omega⟩)).mono ?_
    rintro e w' ⟨g,b,rfl,hB⟩
    refine ⟨g,rfl,hB.rd,hB.gb,fun w2 hb2 hG2 => ?_⟩
    refine (c132 n hn hn5 base r g b w [] w2 (hB.below hb2)).mono ?_
    rintro e w3 ⟨j,p,D,rfl,hj,hjw,hD,hb⟩
    exact ⟨j,p,rfl,hj,hjw,StD.zero hD,hb⟩ }
 sv := by
  rintro base j p u s w hj ⟨_,D,hD⟩ hG hu
  exact save49D n hn base j p u D _ _ _ w hj hD hG hu
 low := fun _ _ _ _ _ h hb => ⟨h.1,h.2.imp fun D hD => hD.below hb⟩
theorem svN (d : Df) (hd : d.Ok) (h100 : d.next.length ≤ 100) : SvJ 123 237 236 90 135 kwN d.nums (fun base p => LX d base p) (Hb d) 0 where
 rk :=
  {kw := Or.inr (Or.inl ⟨rfl,rfl⟩)
   cr := C90
   cc := C135
   kn := fun base p => knMn d hd (by omega) base p
   ok := (Df.nums_ok hd h100).1
   len := Nat.le_trans (Df.nums_ok hd h100).2 (by decide)
   read := by
    intro base r w h hG h2
    refine (dfa90 base r [] d hd w (by rw [List.append_nil]; exact h)).mono ?_
    rintro e w' ⟨g,b,rfl,hB⟩
    refine ⟨g,rfl,hB.rd,hB.gb,fun w2 hb2 hG2 => ?_⟩
    refine (c135 d hd base r g b w [] w2 (hB.below hb2) hG2).mono ?_
    rintro e w3 ⟨j,p,NA,FA,CA,nc,fc,cc,rfl,hj,hjw,hD,hb⟩
    exact ⟨j,p,rfl,hj,hjw,⟨Nat.zero_le _,NA,FA,CA,nc,fc,cc,hD⟩,hb⟩ }
 sv := by
  rintro base j p u s w hj ⟨_,NA,FA,CA,nc,fc,cc,hD⟩ hG hu
  exact save49N d hd h100 base j p u s NA FA CA nc fc cc w hj hD hu
 low := by
  rintro base p s w w' ⟨h0,NA,FA,CA,nc,fc,cc,hD⟩ hb
  exact ⟨h0,NA,FA,CA,nc,fc,cc,hD.below hb⟩
def Ke (g : GL) : Nat → Nat := rho (Bh g.pri) (List.replicate g.own.length Me.zero)
theorem svG (g : GL) (hF : g.Full) (h64 : g.own.length ≤ 64) : SvJ 108 223 222 91 139 kwG g.nums (fun base p => StM g base p) (nxM g) (Ke g) where
 rk :=
  {kw := Or.inr (Or.inr ⟨rfl,rfl⟩)
   cr := C91
   cc := C139
   kn := fun base p => knM g hF base p
   ok := (GL.nums_ok hF h64).1
   len := Nat.le_trans (GL.nums_ok hF h64).2 (by decide)
   read := by
    intro base r w h hG h2
    refine (game91 base r [] g hF w (by rw [List.append_nil]; exact h)).mono ?_
    rintro e w' ⟨q,b,rfl,hB⟩
    refine ⟨q,rfl,hB.rd,hB.gb,fun w2 hb2 hG2 => ?_⟩
    refine (c139 g hF base r q b w [] w2 (hB.below hb2)).mono ?_
    rintro e w3 ⟨j,p,OA,PA,SA,co,cp,cS,gm,mc,dn,rfl,hj,hjw,hD,hdn,hb⟩
    exact ⟨j,p,rfl,hj,hjw,⟨OA,PA,SA,co,cp,cS,gm,mc,_,dn,hD,hdn,rfl⟩,hb⟩ }
 sv := by
  rintro base j p u s w hj ⟨OA,PA,SA,co,cp,cS,gm,mc,mz,dn,hM,hdn,rfl⟩ hG hu
  exact save49G g hF h64 base j p u gm mc co cp cS OA PA SA mz dn w hj hM hG hu
 low := by
  rintro base p s w w' ⟨OA,PA,SA,co,cp,cS,gm,mc,mz,dn,hM,hdn,rfl⟩ hb
  exact ⟨OA,PA,SA,co,cp,cS,gm,mc,mz,dn,hM.below hb,hdn,rfl⟩
theorem F7 (j T p u : Nat) (w : World) (hj : B8 j T p u w) :
  Calls Tryz.prog 25 #[.pointer (some ⟨j,0,none⟩)] w fun e w' => e = .returned (.int .i64 (u : Nat)) ∧ w' = w := by
 have hc : w.cell? ⟨j,0 + 1,none⟩ = some (.int .i64 (u : Nat)) := (Ac hj 1).trans rfl
 refine enter 9 Tryz.func25 G G _ (by simp) ?_
 refine ai G<|mp G<|pl (.bool false) (fun _ => by kernel_rfl)<|cdf G<|mp G<|onc G<|ofa EU G<|old G3 G ‹_›<|ai G<|?_
 exact rt1 rfl rfl ⟨rfl,rfl⟩
theorem wrap8 (i : Int) : IntKind.u8.wrap i = i % 256 := by
 unfold IntKind.wrap
 simp [IntKind.signed,IntKind.bits]
section
variable {n : Nat} {P : Program} {ops : Array Oper} {rest : List Oper} {Q : Bd n} {W : World} {f : Fm n} {d ty t t' src dst : Nat} {x y : Operand} {pos : String} {aft : Array Edge} {k k' : IntKind}
theorem ocw8_ {a : Nat} (hs : P.underlying src = some (.int k')) (hd : P.underlying dst = some (.int .u8)) (hx : ex f x = .int k (a : Nat)) : Pv P (.convert src dst x) ty f (.int .u8 ((a % 256 : Nat) : Int)) := fun W => by
 have e : (convert src dst (ex f x)).run P W = .ok (.int .u8 ((a % 256 : Nat) : Int)) W := by
  rw [hx]
  have e1 : (convert src dst (.int k (a : Nat))).run P W = .ok (.int .u8 (IntKind.u8.wrap (a : Nat))) W := by
   simp [convert,run_underlying hs,run_underlying hd,Conv.intToInt,go_sem]
  rw [e1,wrap8]
  rfl
 unfold Ru
 simp only [execOp,Sem.run_bind,e,Result.andThen_ok,Sem.run_pure]
theorem ocw8 {a : Nat} (hs : P.underlying src = some (.int k')) (hd : P.underlying dst = some (.int .u8)) (hx : ex f x = .int k (a : Nat)) (r : RL P ops Q rest (up f d (.int .u8 ((a % 256 : Nat) : Int))) W) : LS P ops Q ⟨some d,.convert src dst x,ty,pos,aft,none⟩ rest f W := Bq (ocw8_ hs hd hx) r
theorem oqu8_ {a b : Nat} (hx : ex f x = .int .u8 (a : Nat)) (hy : ex f y = .int .u8 (b : Nat)) (hb : 0 < b) (ha : a ≤ 255) : Pv P (.binOp .quo t x y t') ty f (.int .u8 ((a / b : Nat) : Int)) := fun W => by
 have h1 : (b : Int) ≠ 0 := by omega
 have h0 := Nat.div_le_self a b
 have h2 : (a : Int).tdiv b = ((a / b : Nat) : Int) := by rw [Int.tdiv_eq_ediv_of_nonneg (by omega)]; rfl
 have h3 : IntKind.u8.wrap ((a / b : Nat) : Int) = ((a / b : Nat) : Int) := IntWalk.u8_in _ ⟨Int.natCast_nonneg _,Int.ofNat_le.2 (Nat.le_trans h0 ha)⟩
 have h4 : b ≠ 0 := by omega
 refine Eb G ?_
 rw [hx,hy]
 have e : (binOp .quo t (.int .u8 (a : Nat)) (.int .u8 (b : Nat))).run P W = .ok (.int .u8 (IntKind.u8.wrap ((a : Int).tdiv b))) W := by
  simp [go_sem,h4]
 rw [e,h2,h3]
theorem LP {a b : Nat} (hx : ex f x = .int .u8 (a : Nat)) (hy : ex f y = .int .u8 (b : Nat)) (hb : 0 < b) (ha : a ≤ 255) (r : RL P ops Q rest (up f d (.int .u8 ((a / b : Nat) : Int))) W) : LS P ops Q ⟨some d,.binOp .quo t x y t',ty,pos,aft,none⟩ rest f W := Bq (oqu8_ hx hy hb ha) r
theorem K3 {a b : Nat} (hx : ex f x = .int k (a : Nat)) (hy : ex f y = .int k (b : Nat)) (hb : 0 < b) (r : RL P ops Q rest (up f d (.int k ((a % b : Nat) : Int))) W) : LS P ops Q ⟨some d,.binOp .rem t x y t',ty,pos,aft,none⟩ rest f W := by
 refine orm hx hy ⟨by omega,by omega⟩ ?_
 have e : (a : Int) % (b : Int) = ((a % b : Nat) : Int) := rfl
 rw [e]
 exact r
end
theorem Dc {a b : Nat} {W W1 : World} (h : Below b W W1) (ha : a ≤ b) : Below a W W1 := ⟨h.os,h.tape,h.output,h.size,fun i hi => h.block i (Nat.lt_of_lt_of_le hi ha)⟩
theorem EM {σ : Type} {T ku kl kr kc : Nat} {kw : ByteArray} {nums : List Nat} {St : Nat → Nat → σ → World → Prop} {nx : σ → Option σ} {s0 : σ} (K : SvJ T ku kl kr kc kw nums St nx s0) (b0 : Nat) (A : Option Addr) (c : Nat) (xs : List Int) (j p B : Nat) (w : World)
  (hj : B8 j T p 0 w) (hB : b0 ≤ B) (hBj : B ≤ j) (hst : St B p s0 w) (hG : Glob w) (h2 : 2 < b0) (hx : ∀ V,Below b0 w V → (Kd.int .u8).C V A xs.length xs) (hl : xs.length ≤ 1000) (hx0 : ∀ x ∈ xs,0 ≤ x ∧ x < 256) (hend : ∀ u s,itU nx s0 u = some s → u < 3000) :
  Calls Tryz.prog 17 #[.pointer (some ⟨j,0,none⟩),.slice A xs.length c] w fun e w' => ∃ j' p' u' B' s',e = .returned (.tuple #[.pointer (some ⟨j',0,none⟩),.bool true]) ∧ B8 j' T p' u' w' ∧ b0 ≤ B' ∧ B' ≤ j' ∧ St B' p' s' w' ∧ itU nx s0 u' = some s' ∧ nx s' = none ∧ Below b0 w w' := by
 have hb0 : b0 ≤ w.heap.size := by have := Am hj; omega
 refine enter 90 Tryz.func17 G G _ (by simp) ?_
 refine ap G<|ab G<|ai G<|lp (σ := Nat × Nat) (fun q => [(0,.pointer (some ⟨q.2,0,none⟩)),(1,.slice A xs.length c),(6,.int .i64 (q.1 : Nat))])
  (fun q V => q.1 ≤ 3000 ∧ Below b0 w V ∧ ∃ p u B s,B8 q.2 T p u V ∧ b0 ≤ B ∧ B ≤ q.2 ∧ St B p s V ∧ itU nx s0 u = some s ∧ q.1 ≤ u) (fun q => 3000 - q.1) (0,j) ⟨rfl,rfl,rfl,rfl⟩ ⟨Nat.zero_le _,Below.refl _ _,p,0,B,s0,hj,hB,hBj,hst,rfl,Nat.le_refl _⟩ ?_
 clear hj hB hBj hst
 rintro ⟨i,j⟩ f V ⟨hi,hlow,p,u,B,s,hj,hB,hBj,hst,hit,hiu⟩
 dsimp only at hi hj hBj hiu
 have hu := hend u s hit
 refine mi G<|olt G G<|cdd G (fun hlt => ?_) (fun hge => ?_)
 ·have hlt : i < 3000 := Int.ofNat_lt.1 hlt
  refine mi G<|ocw8 (a := i) UI3 UI5 G<|ai G<|ms G<|oln U26 G<|ogt G G<|cut (σ := Nat) (fun m => [(0,.pointer (some ⟨j,0,none⟩)),(1,.slice A xs.length c),(6,.int .i64 (i : Nat)),(7,.int .u8 (m : Nat))]) (fun m V' => V = V' ∧ m < 256) (by repeat' (first | exact BB | exact BD | exact Bl | refine Bi ?_ ?_ | refine Bk ?_ | refine Bj ?_ | refine AX _ ?_)) ?_ ?_
  ·refine cdd G (fun hpos => ?_) (fun _ => ?_)
   ·have hpos : 0 < xs.length := Int.ofNat_lt.1 hpos
    obtain ⟨x,hxi⟩ : ∃ x,xs[i % xs.length]? = some x := ⟨_,gE (Nat.mod_lt _ hpos)⟩
    have hxb := hx0 x (List.mem_of_getElem? hxi)
    obtain ⟨m,rfl⟩ : ∃ m : Nat,x = m := ⟨x.toNat,by omega⟩
    obtain ⟨ad,rfl,hcell⟩ := Au (hx V hlow) hxi
    have hm : i % xs.length < xs.length := Nat.mod_lt _ hpos
    refine ms G<|mi G<|ms G<|oln U26 G<|K3 (a := i) (b := xs.length) G G hpos<|AD U26 Z5 G G (by first | assumption | omega)<|old G5 G ‹_›<|ai G<|?_
    exact ⟨m,⟨rfl,rfl,rfl,rfl,rfl⟩,rfl,by omega⟩
   ·exact ⟨i % 256,⟨rfl,rfl,rfl,rfl,rfl⟩,rfl,Nat.mod_lt _ (by decide)⟩
  ·rintro m f V ⟨rfl,hm⟩
   refine mp G<|cl C25 [] G ((F7 j T p u V hj).mono ?_)
   rintro e V ⟨rfl,rfl⟩
   refine ⟨_,rfl,?_⟩
   refine ai G<|mp G<|mi G<|?_
   have hq : m / 2 % 4 < 4 := Nat.mod_lt _ (by decide)
   refine LP (a := m) (b := 2) G G (by decide) (by omega) ?_
   refine K3 (a := m / 2) (b := 4) G G (by decide)<|CU (a := m / 2 % 4) UI5 UI3 G (Nat.lt_trans hq (by decide))<|K6 (a := 1) (b := m / 2 % 4) G G (Nat.lt_of_le_of_lt (by omega : 1 + m / 2 % 4 ≤ 4) (by decide)) ?_
   refine cl C48 [] G ((Kr (K.rk.kn B p) j u (1 + m / 2 % 4) s0 s V hj hBj hit hst (by omega)).mono ?_)
   rintro e V1 ⟨u1,s1,rfl,hit1,hu1,hu2,hu3,hj1,hst1,hb1⟩
   have hlow := hlow.trans (Dc hb1 hB)
   clear hst hj hb1
   refine ⟨_,rfl,?_⟩
   refine mv G<|oex G G<|oex G G<|ab G<|ai G<|mi G<|one G G<|isf (by omega)<|mb G<|gon G<|mp G<|?_
   refine gon G<|cl C25 [] G ((F7 j T p u1 V1 hj1).mono ?_)
   rintro e V1 ⟨rfl,rfl⟩
   refine ⟨_,rfl,?_⟩
   cases hn : nx s1 with
   | none =>
    refine gon G<|mi G<|gon G<|olt G G<|isf (by omega)<|pfb G G<|mb G<|gon G<|mb G<|gon G<|ont G<|gon G<|mb G<|gof G<|gof G<|gof G<|gof G<|gof G<|gof G<|gof G<|gof G<|gof G<|gof G<|gon G<|pfb G G<|pfb G G<|?_
    refine cdf G<|mb G<|cdt G<|mp G<|ap G<|ab G<|?_
    exact rt2 rfl rfl rfl ⟨j,p,u1,B,s1,rfl,hj1,hB,hBj,hst1,hit1,hn,hlow⟩
   | some s2 =>
    have hue : u1 = u + (1 + m / 2 % 4) := by
     rcases Nat.lt_or_ge u1 (u + (1 + m / 2 % 4)) with h | h
     ·rw [hu3 h] at hn; cases hn
     ·omega
    have hu1' := hend u1 s1 hit1
    refine gon G<|mi G<|gon G<|olt G G<|isf (by omega)<|pfb G G<|mb G<|gon G<|mb G<|gon G<|ont G<|gon G<|mb G<|gon G<|mp G<|?_
    refine gon G<|cl C25 [] G ((F7 j T p u1 V1 hj1).mono ?_)
    rintro e V1 ⟨rfl,rfl⟩
    refine ⟨_,rfl,?_⟩
    refine gon G<|mi G<|gon G<|K6 (a := u) (b := 1) G G (Nat.lt_of_le_of_lt (by omega : u + 1 ≤ 10000) (by decide)) ?_
    refine gon G<|mi G<|gon G<|LP (a := m) (b := 2) G G (by decide) (by omega) ?_
    refine gon G<|K3 (a := m / 2) (b := 4) G G (by decide)<|gon G<|CU (a := m / 2 % 4) UI5 UI3 G (Nat.lt_trans hq (by decide))<|gon G<|K6 (a := u + 1) (b := m / 2 % 4) G G (Nat.lt_of_le_of_lt (by omega : u + 1 + m / 2 % 4 ≤ 10000) (by decide)) ?_
    refine gon G<|one G G<|isf (by omega) ?_
    refine gon G<|ptb G G<|pfb G G<|cdf G<|mb G<|cdf G<|mi G<|K3 (a := m) (b := 2) G G (by decide) ?_
    by_cases hm1 : m % 2 = 1
    ·refine oeq G G<|ist (by rw [hm1]; rfl) ?_
     refine cdt G ?_
     have hG1 := hG.low hlow h2
     refine mp G<|cl C49 [] G ((K.sv B j p u1 s1 V1 hj1 hst1 hG1 (by omega)).mono ?_)
     rintro e V2 ⟨rfl,hb2⟩
     have hG2 := hG1.below hb2
     have hz := hlow.size
     have hlow2 := hlow.trans (Dc hb2 (by omega))
     refine ⟨_,rfl,?_⟩
     refine ast G<|mt G<|cl C50 [] G ((load50 K.rk u1 s1 hit1 (by omega) V2 hG2).mono ?_)
     rintro e V3 ⟨B3,j3,p3,rfl,hBz,hBj3,hj3,hst3,hb3⟩
     have hz2 := hlow2.size
     have hlow3 := hlow2.trans (Dc hb3 (by omega))
     have hG3 := hG2.below hb3
     refine ⟨_,rfl,?_⟩
     refine mv G<|oex G G<|oex G G<|ap G<|ai G<|mi G<|one G G<|isf (by omega)<|mb G<|gon G<|mp G<|?_
     refine gon G<|cl C49 [] G ((K.sv B3 j3 p3 u1 s1 V3 hj3 hst3 hG3 (by omega)).mono ?_)
     rintro e V4 ⟨rfl,hb4⟩
     have hz3 := hlow3.size
     have hlow4 := hlow3.trans (Dc hb4 (by omega))
     refine ⟨_,rfl,?_⟩
     refine gon G<|mt G<|gon G<|osne G G<|isf (fun h => h G)<|pfb G G<|cdf G<|mp G<|ap G<|mi G<|oad G G (by first | assumption | omega)<|ai G<|?_
     exact ⟨(i + 1,j3),⟨rfl,rfl,rfl,rfl⟩,⟨hlt,hlow4,p3,u1,B3,s1,Ab hj3 hb4,by omega,hBj3,K.low _ _ _ _ _ hst3 hb4,hit1,by show i + 1 ≤ u1; omega⟩,by show 3000 - (i + 1) < 3000 - i; omega⟩
    ·refine oeq G G<|isf (fun h => hm1 (Int.ofNat_inj.1 h))<|cdf G<|mi G<|oad G G (by first | assumption | omega)<|ai G<|?_
     exact ⟨(i + 1,j),⟨rfl,rfl,rfl,rfl⟩,⟨hlt,hlow,p,u1,B,s1,hj1,hB,hBj,hst1,hit1,by show i + 1 ≤ u1; omega⟩,by show 3000 - (i + 1) < 3000 - i; omega⟩
 ·exfalso
  omega
abbrev zRes : List Value := [.int .i64 0,.int .i64 0,.slice none 0 0,.slice none 0 0,.slice none 0 0,.slice none 0 0,.slice none 0 0]
abbrev DN (v : Nat) (N F S C M : Value) : List Value := [.int .i64 (v : Nat),.int .i64 0,N,F,S,C,M]
theorem result18D (n : Na) (base j p u : Nat) (D : Dl) (o : List Nat) (nx : List (List Int)) (fb : List Bool) (w : World) (hj : B8 j 117 p u w) (hD : DS n base p D o nx fb w) (ho : ∀ s ∈ o,s < 32) (hol : o.length ≤ 1000000) (hnl : nx.length ≤ 1000000) (hnr : ∀ r ∈ nx,r.length ≤ 1000000) :
  Calls Tryz.prog 18 #[.pointer (some ⟨j,0,none⟩)] w fun e w' => ∃ NB FB SB nb fc sb,e = .returned (.agg (DN n.vars (.slice NB nx.length nb) (.slice FB fb.length fc) (.slice SB o.length sb) (.slice none 0 0) (.slice none 0 0)).toArray) ∧
   Kii.R 22 w' w.heap.size (fun _ => True) (.slice NB nx.length nb) nx ∧ Kd.bool.R 4 w' w.heap.size (fun _ => True) (.slice FB fb.length fc) fb ∧ Kii.R 22 w' w.heap.size (fun _ => True) (.slice SB o.length sb) (o.map bitsW) ∧ Below w.heap.size w w' := by
 have hc0 : w.cell? ⟨j,0 + 0,none⟩ = some (.iface 117 (.pointer (some ⟨p,0,none⟩))) := (Ac hj 0).trans rfl
 obtain ⟨L1,L2,_,hrL,hrN⟩ := hD.rows
 have hrC := (Kd.R_reads' hrN).2.2
 have hlC := (Kd.R_reads' hrL).2.2
 have hfC := (Kd.R_reads' hD.fin).2.2
 have hfl := hD.hb
 have hlm : (o.map bitsW).length = o.length := List.length_map ..
 refine enter 58 Tryz.func18 G G _ (by simp) ?_
 refine oal (v := .agg zRes.toArray) (cs := zRes) (fun _ => by kernel_rfl) G ?_
 intro g w1 hge hgb hb1
 have hc0 := Ae hb1 hc0
 refine mp G<|pl (.bool false) (fun _ => by kernel_rfl)<|cdf G<|mp G<|onc G<|ofa D4 G<|old Ig G ‹_›<|pl (.tuple #[.pointer (some ⟨p,0,none⟩),.bool true]) (fun _ => by kernel_rfl)<|oex G G<|oex G G<|cdt G<|ap G<|?_
 have hpb := Ab hD.blk hb1
 refine Bv 17 mixed (fun V => V.heap[p]? = some (.cells (D.cells n o.length nx.length).toArray 120 (0,0)) ∧ V.heap[g]? = some (.cells zRes.toArray 60 (0,0))) ?_
 intro w2 hb2 _ _
 have hB2 := Ad hb1 hb2
 have hpb := Ab hpb hb2
 have hgb := Ab hgb hb2
 have hS := (⟨hpb,hgb⟩ : w2.heap[p]? = some (.cells (D.cells n o.length nx.length).toArray 120 (0,0)) ∧ w2.heap[g]? = some (.cells zRes.toArray 60 (0,0)))
 refine Bf 0 G (by kernel_rfl) (fun _ _ _ h => h) G (fun v => mp_ G v) (fun _ => hS)<|Bf 1 G (by kernel_rfl) (fun _ _ _ h => h) G (fun v => BN G v) (fun _ => hS)<|Bf 2 G (by kernel_rfl) (fun _ _ _ h => h) G (fun v => AQ DF G v) (fun _ => hS)<|Bf 3 G (by kernel_rfl) (fun _ _ _ h => h) G (fun v => AQ DQ G v) (fun _ => hS)<|AG (v := .int .i64 (n.vars : Nat)) 4 [15,17] G (by kernel_rfl) (fun _ _ _ h => h) G (fun v hv => Ai G3 G ((Ac hv.1 0).trans G)) hS<|Bf 5 G (by kernel_rfl) (fun _ _ _ h => h) G (fun v => mp_ G v) (fun _ => hS)<|Bf 6 G (by kernel_rfl) (fun _ _ _ h => h) G (fun v => BN G v) (fun _ => hS)<|Bf 7 G (by kernel_rfl) (fun _ _ _ h => h) G (fun v => AQ FQ G v) (fun _ => hS)<|AG (v := .slice D.nA nx.length D.c3) 8 [9,15,17] G (by kernel_rfl) (fun _ _ _ h => h) G (fun v hv => Ai G27 G ((Ac hv.1 8).trans G)) hS<|Bf 10 G (by kernel_rfl) (fun _ _ _ h => h) G (fun v => mp_ G v) (fun _ => hS)<|Bf 11 G (by kernel_rfl) (fun _ _ _ h => h) G (fun v => BN G v) (fun _ => hS)<|Bf 12 G (by kernel_rfl) (fun _ _ _ h => h) G (fun v => AQ Jl G v) (fun _ => hS)<|?_
 refine AG (v := .slice D.bA fb.length D.c4) 13 [14,15,17] G (by kernel_rfl) (fun _ _ _ h => h) G (fun v hv => Ai G33 G (by rw [hfl]; exact (Ac hv.1 9).trans G)) hS<|?_
 refine Aq 9 (by kernel_rfl) G<|cl C51 [] G ((Fi D.nA D.c3 nx w2 (Kd.C_below hrC hB2) hnl hnr).mono ?_)
 rintro e w3 ⟨NB,nb,rfl,hN,hb3⟩
 have hB3 := Ad hB2 hb3
 have hN := Kd.R_lower hN hB2.size
 have hpb := Ab hpb hb3
 have hgb := Ab hgb hb3
 have hS := (⟨hpb,hgb⟩ : w3.heap[p]? = some (.cells (D.cells n o.length nx.length).toArray 120 (0,0)) ∧ w3.heap[g]? = some (.cells zRes.toArray 60 (0,0)))
 refine ⟨_,rfl,fun _ => hS,?_⟩
 refine Aq 14 (by kernel_rfl) G<|cl C52 [] G ((JV D.bA D.c4 fb w3 (Kd.C_below hfC hB3) (by omega)).mono ?_)
 rintro e w4 ⟨FB,fc,rfl,hF,hb4⟩
 have hB4 := Ad hB3 hb4
 have hF := Kd.R_lower hF hB3.size
 have hN := Kd.R_below hN hb4
 have hpb := Ab hpb hb4
 have hgb := Ab hgb hb4
 have hS := (⟨hpb,hgb⟩ : w4.heap[p]? = some (.cells (D.cells n o.length nx.length).toArray 120 (0,0)) ∧ w4.heap[g]? = some (.cells zRes.toArray 60 (0,0)))
 refine ⟨_,rfl,fun _ => hS,?_⟩
 refine Aq 15 (by kernel_rfl) G<|pl (.agg #[.int .i64 (n.vars : Nat),.int .i64 0,.slice NB nx.length nb,.slice FB fb.length fc]) (fun _ => by kernel_rfl) ⟨fun _ => hS,?_⟩
 refine Aq 16 (by kernel_rfl) G<|ofa J7 G ⟨fun _ => hS,?_⟩
 refine Aq 17 (by kernel_rfl) G<|Bo (vs := [.int .i64 (n.vars : Nat),.int .i64 0,.slice NB nx.length nb,.slice FB fb.length fc]) (cs := zRes) S35 G G G (by simp [Value.oneCell']) hgb (by simp) ?_
 intro w5 hgb5 hg5
 refine ⟨fun h => absurd h (by decide),?_⟩
 refine Bw (by kernel_rfl) ?_
 have hgn : w.heap.size ≤ g := by omega
 have hN := Ah hN hgb (by decide) hg5
 have hF := Ah hF hgb (by decide) hg5
 have hB5 : Below w.heap.size w w5 := hB4.grown hg5 hB4.size (fun k e => by cases e; exact hgn)
 have hp5 := (hB5.block p (Am hD.blk)).trans hD.blk
 have hd6 : w5.cell? ⟨p,0 + 6,none⟩ = some (.slice D.lA o.length D.c2) := (Ac hp5 6).trans rfl
 refine mp G<|onc G<|ofa Jm G<|old G27 G ‹_›<|?_
 have hcl := Fi D.lA D.c2 (o.map bitsW) w5 (Kd.C_below hlC hB5) (by rw [hlm]; exact hol) (fun r hr => by obtain ⟨s,hs,rfl⟩ := List.mem_map.1 hr; have := FK s (ho s hs); omega)
 rw [hlm] at hcl
 refine cl C51 [] G (hcl.mono ?_)
 rintro e w6 ⟨SB,sb,rfl,hSR,hb6⟩
 have hz5 := hB5.size
 have hB6 := Ad hB5 hb6
 have hSR := Kd.R_lower hSR hz5
 have hN := Kd.R_below hN hb6
 have hF := Kd.R_below hF hb6
 have hgb6 := Ab hgb5 hb6
 refine ⟨_,rfl,?_⟩
 refine ofa Lm G<|Bc (v := .slice SB o.length sb) (i := 0 + 4) S27 G G G hgb6 (by simp) ?_
 intro w7 hgb7 hg7
 have hN := Ah hN hgb6 (by decide) hg7
 have hF := Ah hF hgb6 (by decide) hg7
 have hSR := Ah hSR hgb6 (by decide) hg7
 have hB7 : Below w.heap.size w w7 := hB6.grown hg7 hB6.size (fun k e => by cases e; exact hgn)
 have hgb7 : w7.heap[g]? = some (.cells (DN n.vars (.slice NB nx.length nb) (.slice FB fb.length fc) (.slice SB o.length sb) (.slice none 0 0) (.slice none 0 0)).toArray 60 (0,0)) := hgb7
 refine AV (vs := DN n.vars (.slice NB nx.length nb) (.slice FB fb.length fc) (.slice SB o.length sb) (.slice none 0 0) (.slice none 0 0)) G60 S60 G (Ak hgb7)<|Bo (vs := DN n.vars (.slice NB nx.length nb) (.slice FB fb.length fc) (.slice SB o.length sb) (.slice none 0 0) (.slice none 0 0)) S60 G G G (by simp [Value.oneCell']) hgb7 (by simp) ?_
 intro w8 hgb8 hg8
 have hgb8 : w8.heap[g]? = some (.cells (DN n.vars (.slice NB nx.length nb) (.slice FB fb.length fc) (.slice SB o.length sb) (.slice none 0 0) (.slice none 0 0)).toArray 60 (0,0)) := hgb8
 refine rtc (vs := DN n.vars (.slice NB nx.length nb) (.slice FB fb.length fc) (.slice SB o.length sb) (.slice none 0 0) (.slice none 0 0)) G G hgb8 G60 S60 ?_
 exact ⟨NB,FB,SB,nb,fc,sb,rfl,Ah hN hgb7 (by decide) hg8,Ah hF hgb7 (by decide) hg8,Ah hSR hgb7 (by decide) hg8,hB7.grown hg8 hB7.size (fun k e => by cases e; exact hgn)⟩
theorem result18N (d : Df) (hd : d.Ok) (base j p u k : Nat) (NA FA CA : Option Addr) (nc fc cc : Nat) (w : World) (hj : B8 j 123 p u w) (hM : MD d base p NA FA CA nc fc cc k w) :
  Calls Tryz.prog 18 #[.pointer (some ⟨j,0,none⟩)] w fun e w' => ∃ CB cb,e = .returned (.agg (DN 0 (.slice none 0 0) (.slice none 0 0) (.slice none 0 0) (.slice CB d.next.length cb) (.slice none 0 0)).toArray) ∧
   (Kd.int .i64).R 3 w' w.heap.size (fun _ => True) (.slice CB d.next.length cb) (Bt (d.rnd k)) ∧ Below w.heap.size w w' := by
 have hc0 : w.cell? ⟨j,0 + 0,none⟩ = some (.iface 123 (.pointer (some ⟨p,0,none⟩))) := (Ac hj 0).trans rfl
 have hn := hd.n
 have hl : (Bt (d.rnd k)).length = d.next.length := by rw [Bp,Cb]
 refine enter 58 Tryz.func18 G G _ (by simp) ?_
 refine oal (v := .agg zRes.toArray) (cs := zRes) (fun _ => by kernel_rfl) G ?_
 intro g w1 hge hgb hb1
 have hc0 := Ae hb1 hc0
 refine mp G<|pl (.bool false) (fun _ => by kernel_rfl)<|cdf G<|mp G<|onc G<|ofa D4 G<|old Ig G ‹_›<|pl (.tuple #[.pointer none,.bool false]) (fun _ => by kernel_rfl)<|oex G G<|oex G G<|cdf G<|pl (.tuple #[.pointer (some ⟨p,0,none⟩),.bool true]) (fun _ => by kernel_rfl)<|oex G G<|oex G G<|cdt G<|ap G<|?_
 have hp1 := Ab hM.blk hb1
 have hd6 : w1.cell? ⟨p,0 + 5,none⟩ = some (.slice CA d.next.length cc) := (Ac hp1 5).trans rfl
 refine mp G<|onc G<|ofa G6 G<|old G22 G ‹_›<|?_
 have hcl := EC CA cc (Bt (d.rnd k)) w1 (Kd.C_below (Kd.R_reads' hM.cl).2.2 hb1) (by omega)
 rw [hl] at hcl
 refine cl C53 [] G (hcl.mono ?_)
 rintro e w6 ⟨SB,sb,rfl,hSR,hb6⟩
 have hB6 := Ad hb1 hb6
 have hgn : w.heap.size ≤ g := by omega
 have hSR := Kd.R_lower hSR hb1.size
 have hgb6 := Ab hgb hb6
 refine ⟨_,rfl,?_⟩
 refine ofa X60_2 G<|Bc (v := .slice SB d.next.length sb) (i := 0 + 5) S22 G G G hgb6 (by simp) ?_
 intro w7 hgb7 hg7
 have hSR := Ah hSR hgb6 (by decide) hg7
 have hB7 : Below w.heap.size w w7 := hB6.grown hg7 hB6.size (fun k e => by cases e; exact hgn)
 have hgb7 : w7.heap[g]? = some (.cells (DN 0 (.slice none 0 0) (.slice none 0 0) (.slice none 0 0) (.slice SB d.next.length sb) (.slice none 0 0)).toArray 60 (0,0)) := hgb7
 refine AV (vs := DN 0 (.slice none 0 0) (.slice none 0 0) (.slice none 0 0) (.slice SB d.next.length sb) (.slice none 0 0)) G60 S60 G (Ak hgb7)<|Bo (vs := DN 0 (.slice none 0 0) (.slice none 0 0) (.slice none 0 0) (.slice SB d.next.length sb) (.slice none 0 0)) S60 G G G (by simp [Value.oneCell']) hgb7 (by simp) ?_
 intro w8 hgb8 hg8
 have hgb8 : w8.heap[g]? = some (.cells (DN 0 (.slice none 0 0) (.slice none 0 0) (.slice none 0 0) (.slice SB d.next.length sb) (.slice none 0 0)).toArray 60 (0,0)) := hgb8
 refine rtc (vs := DN 0 (.slice none 0 0) (.slice none 0 0) (.slice none 0 0) (.slice SB d.next.length sb) (.slice none 0 0)) G G hgb8 G60 S60 ?_
 exact ⟨SB,sb,rfl,Ah hSR hgb7 (by decide) hg8,hB7.grown hg8 hB7.size (fun k e => by cases e; exact hgn)⟩
theorem result18G (d : GL) (hF : d.Full) (base j p u gm mc co cp cS : Nat) (OA PA SA : Option Addr) (mz : List Me) (dn : Bool) (w : World) (hj : B8 j 108 p u w) (hM : MS d base p OA PA SA co cp cS gm mc mz dn w) :
  Calls Tryz.prog 18 #[.pointer (some ⟨j,0,none⟩)] w fun e w' => ∃ CB cb,e = .returned (.agg (DN 0 (.slice none 0 0) (.slice none 0 0) (.slice none 0 0) (.slice none 0 0) (.slice CB d.own.length cb)).toArray) ∧
   Me.kd.R 68 w' w.heap.size (fun _ => True) (.slice CB d.own.length cb) mz ∧ Below w.heap.size w w' := by
 have hc0 : w.cell? ⟨j,0 + 0,none⟩ = some (.iface 108 (.pointer (some ⟨p,0,none⟩))) := (Ac hj 0).trans rfl
 have hn := hF.ok.max
 have hl := hM.hl
 refine enter 58 Tryz.func18 G G _ (by simp) ?_
 refine oal (v := .agg zRes.toArray) (cs := zRes) (fun _ => by kernel_rfl) G ?_
 intro g w1 hge hgb hb1
 have hc0 := Ae hb1 hc0
 refine mp G<|pl (.bool false) (fun _ => by kernel_rfl)<|cdf G<|mp G<|onc G<|ofa D4 G<|old Ig G ‹_›<|pl (.tuple #[.pointer none,.bool false]) (fun _ => by kernel_rfl)<|oex G G<|oex G G<|cdf G<|pl (.tuple #[.pointer none,.bool false]) (fun _ => by kernel_rfl)<|oex G G<|oex G G<|cdf G<|pl (.tuple #[.pointer (some ⟨p,0,none⟩),.bool true]) (fun _ => by kernel_rfl)<|oex G G<|oex G G<|cdt G<|ap G<|?_
 have hp1 := Ab hM.blk hb1
 have hd6 : w1.cell? ⟨p,0 + 3,none⟩ = some (.slice (some ⟨gm,0,none⟩) d.own.length mc) := (Ac hp1 3).trans rfl
 refine mp G<|onc G<|ofa D3 G<|old G58 G ‹_›<|?_
 have hcl := JU (some ⟨gm,0,none⟩) mc mz w1 (Kd.C_below hM.mC hb1) (by omega)
 rw [hl] at hcl
 refine cl C54 [] G (hcl.mono ?_)
 rintro e w6 ⟨SB,sb,rfl,hSR,hb6⟩
 have hB6 := Ad hb1 hb6
 have hgn : w.heap.size ≤ g := by omega
 have hSR := Kd.R_lower hSR hb1.size
 have hgb6 := Ab hgb hb6
 refine ⟨_,rfl,?_⟩
 refine ofa X60_3 G<|Bc (v := .slice SB d.own.length sb) (i := 0 + 6) S58 G G G hgb6 (by simp) ?_
 intro w7 hgb7 hg7
 have hSR := Ah hSR hgb6 (by decide) hg7
 have hB7 : Below w.heap.size w w7 := hB6.grown hg7 hB6.size (fun k e => by cases e; exact hgn)
 have hgb7 : w7.heap[g]? = some (.cells (DN 0 (.slice none 0 0) (.slice none 0 0) (.slice none 0 0) (.slice none 0 0) (.slice SB d.own.length sb)).toArray 60 (0,0)) := hgb7
 refine AV (vs := DN 0 (.slice none 0 0) (.slice none 0 0) (.slice none 0 0) (.slice none 0 0) (.slice SB d.own.length sb)) G60 S60 G (Ak hgb7)<|Bo (vs := DN 0 (.slice none 0 0) (.slice none 0 0) (.slice none 0 0) (.slice none 0 0) (.slice SB d.own.length sb)) S60 G G G (by simp [Value.oneCell']) hgb7 (by simp) ?_
 intro w8 hgb8 hg8
 have hgb8 : w8.heap[g]? = some (.cells (DN 0 (.slice none 0 0) (.slice none 0 0) (.slice none 0 0) (.slice none 0 0) (.slice SB d.own.length sb)).toArray 60 (0,0)) := hgb8
 refine rtc (vs := DN 0 (.slice none 0 0) (.slice none 0 0) (.slice none 0 0) (.slice none 0 0) (.slice SB d.own.length sb)) G G hgb8 G60 S60 ?_
 exact ⟨SB,sb,rfl,Ah hSR hgb7 (by decide) hg8,hB7.grown hg8 hB7.size (fun k e => by cases e; exact hgn)⟩
end
end Go.Proofs.YtmjllchdhcdinaaGreatDoor

/- Lemmas (2). -/
import Derived.Shelf.Abstract
import Derived.Test.YtedgfkpfhonlpaaGreatZN1
set_option linter.unusedSimpArgs false
set_option linter.unusedVariables false
namespace Go.Proofs.YtedgfkpfhonlpaaGreat
open Go.RowKit
section
def Sub (H H':List (Nat × Obj)):Prop:=∀ q o,look q H' = some o→look q H = some o
theorem Sub.refl (H:List (Nat × Obj)):Sub H H:=fun _ _ h => h
theorem Sub.trans {H H' H'':List (Nat × Obj)} (h:Sub H H') (k:Sub H' H''):Sub H H'':=fun q o hq => h q o (k q o hq)
theorem Sub.drop (key:Nat) (H:List (Nat × Obj)):Sub H (drop key H):=by
 intro q o hq
 rw [yU] at hq
 split at hq
 ·cases hq
 ·exact hq
section
variable {P:Program} {cfg:Cfg} {w0:W0} {w w':World} {Ok:Nat→Prop} {N:Nat} {σ σ':Asg} {s:St} {a:Act} {H H' H0:List (Nat × Obj)} {lo:Nat} {X:Nat→Prop}
def Zt (σ:Asg) (X:Nat→Prop) (H:List (Nat × Obj)) (w:World) (b:Nat):Prop:=b < w.heap.size∧σ.ok b∧¬ X b∧∀ q o,look q H = some o→σ.g q ≠ some b
theorem Zt.sub (h:Sub H H') {b:Nat} (hb:Zt σ X H w b):Zt σ X H' w b:=⟨hb.1,hb.2.1,hb.2.2.1,fun q o hq => hb.2.2.2 q o (h q o hq)⟩
def qR (σ:Asg) (H H':List (Nat × Obj)) (F:List Nat):Prop:=F.Nodup∧∀ c ∈ F,∃ q o,look q H = some o∧look q H' = none∧c ∈ fp σ q o
theorem qR.nil:qR σ H H' []:=⟨List.nodup_nil,fun c hc => by cases hc⟩
theorem qR.mono {F:List Nat} (h:qR σ H H' F) {H1 H2:List (Nat × Obj)} (h1:Sub H1 H) (h2:Sub H' H2):qR σ H1 H2 F:=by
 refine ⟨h.1,fun c hc => ?_⟩
 obtain ⟨q,o,a1,a2,a3⟩:=h.2 c hc
 refine ⟨q,o,h1 q o a1,?_,a3⟩
 cases hq:look q H2 with
 | none => rfl
 | some u => rw [h2 q u hq] at a2;cases a2
theorem qR.append {F G:List Nat} {H1:List (Nat × Obj)} (hd:Disj σ H0) (hs:Sub H0 H) (h1:Sub H H1) (h2:Sub H1 H') (h:qR σ H H1 F) (k:qR σ H1 H' G):qR σ H H' (F ++ G):=by
 refine ⟨List.nodup_append.2 ⟨h.1,k.1,fun b hb c hc e => ?_⟩,fun c hc => ?_⟩
 ·subst e
  obtain ⟨p,o,a1,a2,a3⟩:=h.2 b hb
  obtain ⟨q,u,b1,b2,b3⟩:=k.2 b hc
  have hne:p ≠ q:=fun e => by subst e;rw [a2] at b1;cases b1
  exact hd p o q u (hs p o a1) (hs q u (h1 q u b1)) hne b a3 b3
 ·rcases List.mem_append.1 hc with hc|hc
  ·exact (h.mono (Sub.refl _) h2).2 c hc
  ·exact (k.mono h1 (Sub.refl _)).2 c hc
structure Base (σ:Asg) (H0:List (Nat × Obj)) (lo:Nat) (w0:W0) (w:World) (X:Nat→Prop) (H:List (Nat × Obj)):Prop where
 ok:∀ b,w0.mine b→σ.ok b
 rows:∀ key o,look key H0 = some o→RowOK σ H0 w0.mine w key o
 disj:Disj σ H0
 sub:Sub H0 H
 zn:∀ b,Zn σ H0 w b→¬ X b
 ap:∀ q o,look q H = some o→∀ b ∈ fp σ q o,¬ X b
theorem Base.to (h:Base σ H0 lo w0 w X H) (hs:Sub H H'):Base σ H0 lo w0 w X H':=⟨h.ok,h.rows,h.disj,h.sub.trans hs,h.zn,fun q o hq => h.ap q o (hs q o hq)⟩
theorem Base.zt (h:Base σ H0 lo w0 w X H) {b:Nat} (hb:Zn σ H0 w b):Zt σ X H w b:=⟨hb.1,hb.2.1,h.zn b hb,fun q o hq => hb.2.2 q o (h.sub q o hq)⟩
theorem take_row (B:Base σ H0 lo w0 w X H) {key k n:Nat} {xs:List (List D)} {d:Bool} (hk:look key H = some (.row k xs d)) {v:Value} (hv:relAC σ H0 w (.own key n) v) :
  rdV (Zt σ X (drop key H) w) w v (.sl k xs)∧∃ F,(d = true→ownV w v (.sl k xs) F)∧qR σ H (drop key H) F:=by
 have hk0:=B.sub key _ hk
 obtain ⟨e1,e2⟩:=hv _ hk0
 have e1':n = xs.length:=e1
 subst e1'
 obtain ⟨ds,hrow,hkp,hrd⟩:=RowOK.rd B.ok B.rows B.disj hk0
 have hRO:=B.rows key _ hk0
 obtain ⟨oa,c,e,h1,h2,h3,h4⟩:=wI hrow
 have hz:∀ b,Zn σ H0 w b→Zt σ X (drop key H) w b:=fun b hb => (B.to (Sub.drop key H)).zt hb
 constructor
 ·refine xQ.2 ⟨oa,c,ds,by rw [e2,e],h1,h2,h3,hrd.mono (fun b hb _ => hz b hb),?_⟩
  cases hg:σ.g key with
  | none =>
   rw [hg] at hrow
   left
   exact List.eq_nil_of_length_eq_zero (by rw [hrow.1,hrow.len0,Nat.zero_mul])
  | some g =>
   rw [hg] at hrow h4
   refine .inr ⟨g,0,h4,⟨hrow.lt g rfl,B.ok g (hRO.fresh g (qI hg)),B.ap key _ hk g (qI hg),fun q o hq e => ?_⟩,fun j u hj => by rw [Nat.zero_add];exact hrow.cells j u hj⟩
   rw [yU] at hq
   split at hq
   ·cases hq
   ·rename_i hne
    exact B.disj key _ q o hk0 (B.sub q o hq) (fun e => hne e.symm) g (qI hg) (qI e)
 ·cases d with
  | false => exact ⟨[],(fun e => nomatch e),qR.nil⟩
  | true =>
   refine ⟨fp σ key (.row k xs true),fun _ => ?_,hRO.nodup,fun c hc => ⟨key,_,hk,by rw [yU,if_pos rfl],hc⟩⟩
   obtain ⟨ds',hrow',_,hel⟩:=hRO.row
   have hel':ownR k w ds' xs (σ.F key):=hel
   rw [e2]
   exact kS.2 ⟨σ.g key,ds',σ.F key,hrow',hel',by simp [fp,Obj.deep]⟩
theorem absorb_rel (B:Base σ H0 lo w0 w X H) {z:D} (hz:jM z = true) {x:AC} {v:Value} (hv:relAC σ H0 w x v) {d:D} {b:Bool} (h:absorb z H x = some (d,b,H')) :
  Sub H H'∧rdV (Zt σ X H' w) w v d∧∃ F,(b = true→ownV w v d F)∧qR σ H H' F:=by
 have other:∀ {x:AC},relAC σ H0 w x v→(cellD z x).map (fun p => (p.1,p.2,H)) = some (d,b,H')→Sub H H'∧rdV (Zt σ X H' w) w v d∧∃ F,(b = true→ownV w v d F)∧qR σ H H' F:=by
  intro x hv h
  obtain ⟨p,hp,e⟩:=map_some h
  simp only [Prod.mk.injEq] at e
  obtain ⟨rfl,rfl,rfl⟩:=e
  obtain ⟨k1,k2⟩:=cellD_rel hz hv (d:=p.1) (b:=p.2) hp
  exact ⟨Sub.refl _,k1.mono (fun b hb _ => B.zt hb),[],fun hb => k2 hb,qR.nil⟩
 cases x with
 | own key n =>
  simp only [absorb] at h
  split at h
  ·rename_i k xs dd hk
   simp only [Option.some.injEq,Prod.mk.injEq] at h
   obtain ⟨rfl,rfl,rfl⟩:=h
   obtain ⟨h1,h2⟩:=take_row B hk hv
   exact ⟨Sub.drop key H,h1,h2⟩
  ·cases h
 | junk => exact other hv h
 | val d' => exact other hv h
 | nil => exact other hv h
 | view key i n => exact other hv h
theorem xG0:∀ {z:List D} {xs:List AC} {vs:List Value} {H H':List (Nat × Obj)} {ds:List D} {b:Bool},Base σ H0 lo w0 w X H→z.all jM = true→relCs σ H0 w xs vs→yX H z xs = some (ds,b,H') →
  ds.length = z.length∧Sub H H'∧rdCs (Zt σ X H' w) w vs ds∧∃ F,(b = true→ownCs w vs ds F)∧qR σ H H' F
 | [],[],vs,H,H',ds,b,B,_,hv,h => by
  simp only [yX,Option.some.injEq,Prod.mk.injEq] at h
  obtain ⟨rfl,rfl,rfl⟩:=h
  rw [show vs = [] from hv]
  exact ⟨rfl,Sub.refl _,rdCs.nil,[],fun _ => ownCs.nil,qR.nil⟩
 | [],_ :: _,_,_,_,_,_,_,_,_,h => by simp [yX] at h
 | _ :: _,[],_,_,_,_,_,_,_,_,h => by simp [yX] at h
 | z :: zs,x :: xs,vs,H,H',ds,b,B,hz,⟨v,us,e,h1,h2,h3⟩,h => by
  simp only [yX] at h
  obtain ⟨p,hp,h⟩:=bind_some h
  obtain ⟨q,hq,h⟩:=map_some h
  rw [List.all_cons,Bool.and_eq_true] at hz
  obtain ⟨k1,k2,F,k3,k4⟩:=absorb_rel B hz.1 h2 (d:=p.1) (b:=p.2.1) (H':=p.2.2) hp
  obtain ⟨l0,l1,l2,G,l3,l4⟩:=xG0 (ds:=q.1) (b:=q.2.1) (H':=q.2.2) (B.to k1) hz.2 h3 hq
  simp only [Prod.mk.injEq] at h
  obtain ⟨rfl,rfl,rfl⟩:=h
  subst e
  refine ⟨by simp [l0],k1.trans l1,rdCs.cons (k2.mono (fun b hb _ => hb.sub l1)) l2,F ++ G,fun hb => ?_,qR.append B.disj B.sub k1 l1 k4 l4⟩
  rw [Bool.and_eq_true] at hb
  exact ownCs.cons (k3 hb.1) (l3 hb.2)
theorem kK0 {z:List D} (hz:z.all jM = true) (hk:0 < z.length):∀ {css:List (List AC)} {vs:List Value} {H H':List (Nat × Obj)} {xs:List (List D)} {b:Bool},Base σ H0 lo w0 w X H→relRs σ H0 w z.length css vs→vG z H css = some (xs,b,H') →
  xs.length = css.length∧Sub H H'∧rdR z.length (Zt σ X H' w) w vs xs∧∃ F,(b = true→ownR z.length w vs xs F)∧qR σ H H' F
 | [],vs,H,H',xs,b,B,hv,h => by
  simp only [vG,Option.some.injEq,Prod.mk.injEq] at h
  obtain ⟨rfl,rfl,rfl⟩:=h
  rw [show vs = [] from hv]
  exact ⟨rfl,Sub.refl _,rdR.nil hk,[],fun _ => ownR.nil hk,qR.nil⟩
 | x :: css,vs,H,H',xs,b,B,⟨c,d,e,h1,h2,h3⟩,h => by
  simp only [vG] at h
  obtain ⟨p,hp,h⟩:=bind_some h
  obtain ⟨q,hq,h⟩:=map_some h
  obtain ⟨k0,k1,k2,F,k3,k4⟩:=xG0 (ds:=p.1) (b:=p.2.1) (H':=p.2.2) B hz h2 hp
  obtain ⟨l0,l1,l2,G,l3,l4⟩:=kK0 hz hk (xs:=q.1) (b:=q.2.1) (H':=q.2.2) (B.to k1) h3 hq
  simp only [Prod.mk.injEq] at h
  obtain ⟨rfl,rfl,rfl⟩:=h
  subst e
  refine ⟨by simp [l0],k1.trans l1,(rdR.single hk k0 (k2.mono (fun b hb _ => hb.sub l1))).append l2,F ++ G,fun hb => ?_,qR.append B.disj B.sub k1 l1 k4 l4⟩
  rw [Bool.and_eq_true] at hb
  exact (ownR.single hk k0 (k3 hb.1)).append (l3 hb.2)
def Cells (w:World) (v:Value) (n:Nat) (ds:List Value):Prop :=
 ∃ oa c,v = .slice oa n c∧(oa = none→n = 0)∧∀ ad,oa = some ad→∀ j u,ds[j]? = some u→w.cell? (ad.add j) = some u
theorem flat_own {k:Nat} {A:Nat→Prop} {ds:List Value} {xs:List (List D)} (h:rdR k A w ds xs) (hf:flat xs = true):ownR k w ds xs []:=by
 obtain ⟨d,hk,h⟩:=h
 refine ⟨d,hk,?_⟩
 have cell:∀ {x:List D} {cs:List Value},rdL (RC d) A w cs x→x.all (fun d => !isSl d) = true→ownL (RC d) w cs x []:=by
  intro x
  induction x with
  | nil => intro cs h _;exact ⟨h,rfl⟩
  | cons y x ih =>
   rintro cs ⟨c,e,rfl,h1,h2⟩ hf
   rw [List.all_cons,Bool.and_eq_true] at hf
   refine ⟨c,e,[],[],rfl,rfl,?_,ih h2 hf.2⟩
   cases y with
   | sl k xs => simp [isSl] at hf
   | int n => cases d with
    | zero => exact ⟨h1,rfl⟩
    | succ d => exact ⟨h1,rfl⟩
   | bool n => cases d with
    | zero => exact ⟨h1,rfl⟩
    | succ d => exact ⟨h1,rfl⟩
   | raw n => cases d with
    | zero => exact ⟨h1,rfl⟩
    | succ d => exact ⟨h1,rfl⟩
   | tag F x => simp [isSl] at hf
 induction xs generalizing ds with
 | nil => exact ⟨h,rfl⟩
 | cons x xs ih =>
  obtain ⟨c,e,rfl,h1,h2⟩:=h
  unfold flat at hf
  rw [List.all_cons,Bool.and_eq_true] at hf
  exact ⟨c,e,[],[],rfl,rfl,⟨h1.1,h1.2.1,cell h1.2.2 hf.1⟩,ih hf.2 h2⟩
theorem row_cells {og:Option Nat} {n cap k:Nat} {ds:List Value} (h:Row w (slv og n cap) k n ds og):Cells w (slv og n cap) n ds:=by
 cases og with
 | none => exact ⟨none,0,by rw [show n = 0 from h.len0];rfl,fun _ => h.len0,(fun ad e => nomatch e)⟩
 | some g => exact ⟨some ⟨g,0,none⟩,cap,rfl,(fun e => nomatch e),fun ad e j u hj => by cases e;rw [Addr.add_mid,Nat.zero_add];exact h.cells j u hj⟩
theorem aelems_rel (B:Base σ H0 lo w0 w X H) {z:List D} (hz:z.all jM = true) (hk:0 < z.length) {v:AV} {u:Value} (hv:relAV σ H0 w v u) {xs:List (List D)} {b:Bool} (h:aelems z H v = some (xs,b,H')) :
  ∃ ds,Cells w u xs.length ds∧Sub H H'∧rdR z.length (Zt σ X H' w) w ds xs∧∃ F,(b = true→ownR z.length w ds xs F)∧qR σ H H' F:=by
 have hv:=AV.un_rel hv
 unfold aelems at h
 generalize v.un = v at hv h
 split at h
 ·simp only [Option.some.injEq,Prod.mk.injEq] at h
  obtain ⟨rfl,rfl,rfl⟩:=h
  exact ⟨[],⟨none,0,hv.2,fun _ => rfl,(fun ad e => nomatch e)⟩,Sub.refl _,rdR.nil hk,[],fun _ => ownR.nil hk,qR.nil⟩
 ·rename_i k ys
  split at h
  ·rename_i hkk
   simp only [Option.some.injEq,Prod.mk.injEq] at h
   obtain ⟨rfl,rfl,rfl⟩:=h
   subst hkk
   obtain ⟨oa,cap,ds,e,l1,l2,l3,l4,l5⟩:=xQ.1 hv.2
   refine ⟨ds,⟨oa,cap,e,fun e => by have:=l3 e;omega,fun ad e j u hj => ?_⟩,Sub.refl _,l4.mono (fun b hb _ => B.zt hb),[],fun hb => flat_own l4 hb,qR.nil⟩
   rcases l5 with l5|⟨bb,off,e2,_,hc⟩
   ·rw [l5] at hj;simp at hj
   ·rw [e] at e2;cases e2
    rw [Addr.add_mid];exact hc j u hj
  ·cases h
 ·rename_i key n
  unfold yY0 at h
  split at h
  ·rename_i k ys d hkey
   split at h
   ·rename_i hkk
    simp only [Option.some.injEq,Prod.mk.injEq] at h
    obtain ⟨rfl,rfl,rfl⟩:=h
    subst hkk
    have hk0:=B.sub key _ hkey
    obtain ⟨e1,e2⟩:=hv.2 _ hk0
    have e1':n = ys.length:=e1
    subst e1'
    obtain ⟨ds,hrow,hkp,hrd⟩:=RowOK.rd B.ok B.rows B.disj hk0
    refine ⟨ds,by rw [e2];exact row_cells hrow,Sub.drop key H,hrd.mono (fun b hb _ => (B.to (Sub.drop key H)).zt hb),?_⟩
    cases d with
    | false => exact ⟨[],(fun e => nomatch e),qR.nil⟩
    | true =>
     have hRO:=B.rows key _ hk0
     obtain ⟨ds',hrow',_,hel⟩:=hRO.row
     have hel':ownR z.length w ds' ys (σ.F key):=hel
     have eds:ds' = ds:=by
      have hrow'':Row w (slv (σ.g key) ys.length (σ.cap key)) z.length ys.length ds' (σ.g key):=hrow'
      cases hg:σ.g key with
      | none =>
       rw [hg] at hrow hrow''
       have l1:=hrow.1;have l2:=hrow''.1
       rw [hrow.len0,Nat.zero_mul] at l1 l2
       rw [List.eq_nil_of_length_eq_zero l1,List.eq_nil_of_length_eq_zero l2]
      | some g =>
       rw [hg] at hrow hrow''
       rcases hrow.2 with ⟨_,_,h0⟩|⟨g1,cap1,cur1,e1,_,h1,hh1,_,_,_,t1⟩
       ·cases h0
       ·rcases hrow''.2 with ⟨_,_,h0⟩|⟨g2,cap2,cur2,e2,_,h2,hh2,_,_,_,t2⟩
        ·cases h0
        ·cases h1;cases h2
         rw [hh1] at hh2
         cases hh2
         rw [← t1,← t2]
     rw [← eds]
     refine ⟨σ.F key,fun _ => hel',?_,fun c hc => ⟨key,_,hkey,by rw [yU,if_pos rfl],fp_in rfl hc⟩⟩
     have:=hRO.nodup
     have e0:fp σ key (.row z.length ys true) = (σ.g key).toList ++ σ.F key:=by simp [fp,Obj.deep]
     rw [e0] at this
     exact (List.nodup_append.1 this).2.1
   ·cases h
  ·rename_i k css hkey
   split at h
   ·rename_i hkk
    subst hkk
    have hk0:=B.sub key _ hkey
    obtain ⟨e1,e2⟩:=hv.2 _ hk0
    have e1':n = css.length:=e1
    subst e1'
    obtain ⟨ds,hrow,hkp,hel⟩:=(B.rows key _ hk0).row
    have hrow':Row w (slv (σ.g key) css.length (σ.cap key)) z.length css.length ds (σ.g key):=hrow
    obtain ⟨l0,l1,l2,F,l3,l4⟩:=kK0 hz hk (B.to (Sub.drop key H)) hel h
    exact ⟨ds,by rw [e2,l0];exact row_cells hrow',(Sub.drop key H).trans l1,l2,F,l3,l4.mono (Sub.drop key H) (Sub.refl _)⟩
   ·cases h
  ·cases h
 ·rename_i key i n
  split at h
  ·rename_i k ys d hkey
   split at h
   ·rename_i hkk
    simp only [Option.some.injEq,Prod.mk.injEq] at h
    obtain ⟨rfl,rfl,rfl⟩:=h
    subst hkk
    have hk0:=B.sub key _ hkey
    obtain ⟨e1,oa,c,e2,c1,c2,c3,c4⟩:=hv.2 _ hk0
    have e1':i + n ≤ ys.length:=e1
    obtain ⟨ds,hrow,hkp,hrd⟩:=RowOK.rd B.ok B.rows B.disj hk0
    have hlen:((ys.drop i).take n).length = n:=by rw [List.length_take,List.length_drop];omega
    have hrd':=(hrd.drop i (by omega)).take n (by rw [List.length_drop];omega)
    refine ⟨(ds.drop (i * z.length)).take (n * z.length),⟨oa,c,by rw [hlen];exact e2,fun e => by have:=c3 e;omega,fun ad e j u hj => ?_⟩,Sub.refl _,hrd'.mono (fun b hb _ => B.zt hb),[],fun hb => flat_own hrd' hb,qR.nil⟩
    rcases c4 with rfl|⟨g,hg,e3⟩
    ·simp at hj
    ·rw [e] at e3;cases e3
     rw [hg] at hrow
     rw [List.getElem?_take] at hj
     split at hj
     ·rw [List.getElem?_drop] at hj
      rw [Addr.add_mid]
      exact hrow.cells _ u hj
     ·cases hj
   ·cases h
  ·cases h
 ·cases h
end
end
section
section
variable {P:Program} {cfg:Cfg} {w0:W0} {w w':World} {Ok:Nat→Prop} {N:Nat} {σ σ':Asg} {s:St} {a:Act} {H H' H0 H1 H2:List (Nat × Obj)}
theorem qR.fresh (h:Sim w0 Ok N σ s a w) {F:List Nat} (g:qR σ s.heap H' F):∀ b ∈ F,w0.mine b∧b < w.heap.size:=by
 intro b hb
 obtain ⟨q,o,h1,_,h3⟩:=g.2 b hb
 exact ⟨(h.rows q o h1).fresh b h3,yG h h1 b h3⟩
theorem qR.apart (h:Sim w0 Ok N σ s a w) {F:List Nat} (g:qR σ s.heap H' F) (hs:Sub s.heap H'):∀ b ∈ F,∀ q o,look q H' = some o→b ∉ fp σ q o:=by
 intro b hb q o hq
 obtain ⟨p,u,h1,h2,h3⟩:=g.2 b hb
 refine h.disj p u q o h1 (hs q o hq) (fun e => ?_) b h3
 subst e
 rw [h2] at hq
 cases hq
theorem abase_rel (h:Sim w0 Ok N σ s a w) {z:List D} (hz:0 < z.length) {v:AV} {u:Value} (hv:relAV σ s.heap w v u) {xs:List (List D)} {b:Bool} (hb:abase z s.heap v = some (xs,b,H')) :
  ∃ og ds F,Row w u z.length xs.length ds og∧rdR z.length (Zn σ s.heap w) w ds xs∧Sub s.heap H'∧qR σ s.heap H' (og.toList ++ F)∧(b = true→ownR z.length w ds xs F):=by
 unfold abase at hb
 split at hb
 ·simp only [Option.some.injEq,Prod.mk.injEq] at hb
  obtain ⟨rfl,rfl,rfl⟩:=hb
  have e:u = .slice none 0 0:=hv.2
  subst e
  exact ⟨none,[],[],Row.nil w _,rdR.nil hz,Sub.refl _,qR.nil,fun _ => ownR.nil hz⟩
 ·rename_i key n
  split at hb
  ·rename_i k ys d hk
   split at hb
   ·rename_i hkk
    simp only [Option.some.injEq,Prod.mk.injEq] at hb
    obtain ⟨rfl,rfl,rfl⟩:=hb
    subst hkk
    obtain ⟨e1,e2⟩:=hv.2 _ hk
    have e1':n = ys.length:=e1
    subst e1'
    have hRO:=h.rows key _ hk
    obtain ⟨ds,hrow,hkp,hel⟩:=hRO.row
    have hrow:Row w (slv (σ.g key) ys.length (σ.cap key)) z.length ys.length ds (σ.g key):=hrow
    have hdr:look key (drop key s.heap) = none:=by rw [yU,if_pos rfl]
    cases d with
    | true =>
     have hel':ownR z.length w ds ys (σ.F key):=hel
     have hfp:fp σ key (.row z.length ys true) = (σ.g key).toList ++ σ.F key:=by simp [fp,Obj.deep]
     refine ⟨σ.g key,ds,σ.F key,by rw [e2];exact hrow,hel'.rd.mono (fun b hb _ => RowOK.Fz h.ok1 h.rows h.disj hk rfl b hb),Sub.drop key _,⟨by rw [← hfp];exact hRO.nodup,fun c hc => ⟨key,_,hk,hdr,by rw [hfp];exact hc⟩⟩,fun _ => hel'⟩
    | false =>
     have hel':rdR z.length (Zn σ s.heap w) w ds ys:=hel
     have hfp:fp σ key (.row z.length ys false) = (σ.g key).toList ++ []:=by simp [fp,Obj.deep]
     exact ⟨σ.g key,ds,[],by rw [e2];exact hrow,hel',Sub.drop key _,⟨by rw [← hfp];exact hRO.nodup,fun c hc => ⟨key,_,hk,hdr,by rw [hfp];exact hc⟩⟩,(fun e => nomatch e)⟩
   ·cases hb
  ·cases hb
 ·cases hb
theorem fresh_heap {k:Nat} (h:fresh s k = true):look k s.heap = none∧∀ q u,look q s.heap = some u→k ∉ u.refs:=⟨(kV h).1,(kV h).2.2⟩
theorem m_append (C:CfgOK P cfg) (h:Sim w0 Ok N σ s a w) {o:Oper} {x y:Operand} {t:TypeId} {i:TyI} (ho:o.op = .call ⟨.builtin .append,#[x,y],#[t,t]⟩) (ht:cfg.sl t = some i) {vx vy:AV} (hx:opv s.regs x = some vx) (hy:opv s.regs y = some vy)
  {xs ys:List (List D)} {db de:Bool} (hb:abase i.z s.heap vx = some (xs,db,H1)) (he:aelems i.z H1 vy = some (ys,de,H2)) (hB1:(xs.length + ys.length) * i.bytes ≤ 140737488355328) (hB2:xs.length + ys.length ≤ 140737488355328) {d:Nat} (hf:fresh ⟨s.regs,H2⟩ d = true)
  {K:Act→World→Prop} {Q:Exit→Act→World→Prop}
  (hK:∀ v w' σ',relAV σ' ((d,.row i.z.length (xs ++ ys) (db && de)) :: H2) w' (.c (.own d (xs.length + ys.length))) v→Sim w0 Ok N σ' ⟨s.regs,(d,.row i.z.length (xs ++ ys) (db && de)) :: H2⟩ a w'→K (a.put o.dst v) w'):o.wp P a w K Q:=by
 obtain ⟨z,T,hz1,hz2⟩:=C.sl t i ht
 have hx':=qP h hx
 have hy':=qP h hy
 obtain ⟨og,ds,F,hrow,hrd,hs1,hG1,hO1⟩:=abase_rel h T.hk hx' hb
 obtain ⟨X,hX⟩:∃ X:Nat→Prop,X = fun b => og = some b:=⟨_,rfl⟩
 have hogm:∀ b,og = some b→b ∈ og.toList ++ F:=fun b e => by simp [e]
 have B:Base σ s.heap 0 w0 w X H1:=by
  refine ⟨h.ok1,h.rows,h.disj,hs1,fun b hb hXb => ?_,fun q o hq b hb hXb => ?_⟩
  ·rw [hX] at hXb
   obtain ⟨q,o,h1,h2,h3⟩:=hG1.2 b (hogm b hXb)
   cases vx with
   | c x => cases x with
    | nil =>
     simp only [abase,Option.some.injEq,Prod.mk.injEq] at hb
     rename_i hbz
     obtain ⟨rfl,rfl,rfl⟩:=hb
     have e:a.eval _ = .slice none 0 0:=hx'.2
     rw [e] at hrow
     rcases hrow.2 with ⟨_,_,h0⟩|⟨g,cap,cur,e2,e3,_⟩
     ·rw [h0] at hXb;cases hXb
     ·cases e3
    | own key n =>
     rename_i hbz
     simp only [abase] at hb
     split at hb
     ·rename_i k ys d hk
      obtain ⟨e1,e2⟩:=hx'.2 _ hk
      rw [e2] at hrow
      have:σ.g key = some b:=by
       cases hg:σ.g key with
       | none =>
        rw [hg] at hrow
        rcases hrow.2 with ⟨_,_,h0⟩|⟨g,cap,cur,e2,e3,_⟩
        ·rw [h0] at hXb;cases hXb
        ·cases e3
       | some g =>
        rw [hg,hXb] at hrow
        obtain ⟨cap,e3,_⟩:=hrow.slice
        simp only [slv,Value.slice.injEq,Option.some.injEq,Addr.mk.injEq,and_true] at e3
        rw [e3.1]
      exact hbz.2.2 key _ hk this
     ·cases hb
    | _ => simp [abase] at hb
   | _ => simp [abase] at hb
  ·rw [hX] at hXb
   exact qR.apart h hG1 hs1 b (hogm b hXb) q o hq hb
 obtain ⟨es,⟨oa,c,ey,hc1,hc2⟩,hs2,hrd2,G,hO2,hG2⟩:=aelems_rel B hz2 T.hk hy' he
 have hel:=hrd2.len
 have hsub:Sub s.heap H2:=hs1.trans hs2
 have hGG:qR σ s.heap H2 ((og.toList ++ F) ++ G):=qR.append h.disj (Sub.refl _) hs1 hs2 hG1 hG2
 have hfr:=qR.fresh h hGG
 have hap:=qR.apart h hGG hsub
 have hogn:∀ b,og = some b→b ∈ (og.toList ++ F) ++ G:=fun b e => List.mem_append_left _ (hogm b e)
 obtain ⟨v',w',og',hrun,hrow',hgr,hog'⟩:=yH0 (P:=P) (w:=w) t o.type i.e z i.z.length i.bytes T (a.eval x) xs.length ds og hrow oa ys.length c es hel hc1
  hc2 hrd2.one hB1 (by unfold maxLen;omega)
 have hsz:=hgr.size
 obtain ⟨oa',c',ev,k1,k2,k3,k4⟩:=hrow'.value
 have hv':v' = slv og' (xs.length + ys.length) c':=by
  cases og' with
  | none =>
   have h0:=hrow'.len0
   have hoa:oa' = none:=k4
   have h0c:=k3 hoa
   rw [ev,hoa,h0,h0c];rfl
  | some g => rw [ev,k4];rfl
 obtain ⟨fd,hfd⟩:∃ fd,fd = (if (db && de) = true then F ++ G else []):=⟨_,rfl⟩
 let σ':Asg:=⟨fun q => if q = d then og' else σ.g q,fun q => if q = d then c' else σ.cap q,fun q => if q = d then fd else σ.F q,σ.ok⟩
 have a1:σ'.g d = og':=if_pos rfl
 have a2:σ'.cap d = c':=if_pos rfl
 have a3:σ'.F d = fd:=if_pos rfl
 have a4:∀ q,q ≠ d→σ'.g q = σ.g q∧σ'.cap q = σ.cap q∧σ'.F q = σ.F q:=fun q hq => ⟨if_neg hq,if_neg hq,if_neg hq⟩
 have hfp2:∀ q u,q ≠ d→fp σ' q u = fp σ q u:=fun q u hq => by unfold fp;rw [(a4 q hq).1,(a4 q hq).2.2]
 obtain ⟨ob,hob⟩:∃ ob,ob = Obj.row i.z.length (xs ++ ys) (db && de):=⟨_,rfl⟩
 rw [← hob] at hK
 have hfp1:fp σ' d ob = og'.toList ++ fd:=by rw [hob];simp only [fp,a1,a3,Obj.deep,hfd];split <;> simp_all
 have hfdm:∀ b ∈ fd,b ∈ (og.toList ++ F) ++ G:=by
  intro b hb
  rw [hfd] at hb
  split at hb
  ·rcases List.mem_append.1 hb with hb|hb
   ·exact List.mem_append_left _ (List.mem_append_right _ hb)
   ·exact List.mem_append_right _ hb
  ·cases hb
 have hfno:∀ b ∈ fd,og ≠ some b:=by
  intro b hb e
  rw [hfd] at hb
  split at hb
  ·have hn:=hGG.1
   rw [e,Option.toList_some,List.append_assoc,List.singleton_append,List.nodup_cons] at hn
   exact hn.1 hb
  ·cases hb
 have hdn:=fresh_heap hf
 have hdn1:look d H2 = none:=hdn.1
 have hog2:∀ b,og' = some b→b ∉ fd∧w0.mine b∧b < w'.heap.size∧∀ q u,look q H2 = some u→b ∉ fp σ q u:=by
  intro b hb
  rcases hog' with e|⟨g,e,hg⟩
  ·rw [hb] at e
   have e:=e.symm
   exact ⟨fun hh => hfno b hh e,(hfr b (hogn b e)).1,by have:=(hfr b (hogn b e)).2;omega,fun q u hq => hap b (hogn b e) q u hq⟩
  ·rw [hb] at e
   cases e
   have h0:=h.below.size
   exact ⟨fun hh => by have:=(hfr b (hfdm b hh)).2;omega,(.inl (by omega)),hrow'.lt b hb,fun q u hq hh => by have:=yG h (hsub q u hq) b hh;omega⟩
 have hblk:∀ b,b < w.heap.size→og ≠ some b→w'.heap[b]? = w.heap[b]?:=fun b hb hne => hgr.block b hb (fun e => hne e.symm)
 have zin:∀ b,Zt σ X H2 w b→Zn σ' ((d,ob) :: H2) w' b∧w'.heap[b]? = w.heap[b]?:=by
  intro b hb
  obtain ⟨b1,b2,b3,b4⟩:=hb
  rw [hX] at b3
  refine ⟨⟨Nat.lt_of_lt_of_le b1 hsz,b2,fun q u hq e => ?_⟩,hblk b b1 b3⟩
  rw [qR0] at hq
  split at hq
  ·rename_i hqd
   subst hqd
   rw [a1] at e
   rcases hog' with e'|⟨g,e',hg⟩
   ·rw [e'] at e;exact b3 e
   ·rw [e'] at e;cases e;omega
  ·rename_i hqd
   rw [(a4 q (fun e => hqd e.symm)).1] at e
   exact b4 q u hq e
 have hZt:∀ b,Zn σ s.heap w b→Zt σ X H2 w b:=fun b hb => (B.to hs2).zt hb
 have hZ:jQ σ σ' s.heap ((d,ob) :: H2) w w':=fun b hb => zin b (hZt b hb)
 have hst:∀ k,k ≠ d→jY σ σ' s.heap ((d,ob) :: H2) k:=by
  intro k hk o' ho'
  rw [qR0,if_neg (fun e => hk e.symm)] at ho'
  exact ⟨o',hsub k o' ho',rfl,rfl,(a4 k hk).1,(a4 k hk).2.1⟩
 have hS:Sim w0 Ok N σ' ⟨s.regs,(d,ob) :: H2⟩ a w':=by
  refine h.step rfl (h.below.grown hgr (fun g hg => (hfr g (hogn g hg)).1)) hZ (h.grownY hgr (fun g hg => (hfr g (hogn g hg)).1)) (fun r av hr => ⟨av,hr,.inl ⟨rfl,fun k hk => hst k (fun e => ?_)⟩⟩) (fun q u hq => ?_) ?_
  ·subst e
   exact (kV hf).2.1 r av hr hk
  ·rw [qR0] at hq
   split at hq
   ·rename_i hqd
    cases hq
    subst hqd
    refine ⟨⟨ds ++ es,?_,by rw [hob];exact T.hk,?_⟩,?_,?_⟩
    ·rw [hob]
     show Row w' (slv (σ'.g d) (xs ++ ys).length (σ'.cap d)) i.z.length (xs ++ ys).length (ds ++ es) (σ'.g d)
     rw [a1,a2,List.length_append,← hv']
     exact hrow'
    ·rw [hob]
     show if (db && de) = true then ownR i.z.length w' (ds ++ es) (xs ++ ys) (σ'.F d) else rdR i.z.length (Zn σ' _ w') w' (ds ++ es) (xs ++ ys)
     by_cases hd:(db && de) = true
     ·rw [if_pos hd,a3,hfd,if_pos hd]
      rw [Bool.and_eq_true] at hd
      have h1:=(hO1 hd.1).append (hO2 hd.2)
      refine h1.frame (fun b hb => ?_)
      have hb':b ∈ fd:=by rw [hfd,if_pos (by rw [hd.1,hd.2];rfl)];exact hb
      exact hblk b (hfr b (hfdm b hb')).2 (hfno b hb')
     ·rw [if_neg hd]
      rw [← hob]
      exact (hrd.step hZ).append ((hrd2.frame (fun b hb _ => (zin b hb).2)).mono (fun b hb _ => (zin b hb).1))
    ·intro b hb
     rw [hfp1] at hb
     rcases List.mem_append.1 hb with hb|hb
     ·exact (hog2 b (by simpa using hb)).2.1
     ·exact (hfr b (hfdm b hb)).1
    ·rw [hfp1]
     refine List.nodup_append.2 ⟨by cases og' <;> simp,?_,fun b hb c hc e => ?_⟩
     ·rw [hfd]
      split
      ·have hn:=hGG.1
       rw [List.append_assoc] at hn
       exact (List.nodup_append.1 hn).2.1
      ·exact List.nodup_nil
     ·subst e
      exact (hog2 b (by simpa using hb)).1 hc
   ·rename_i hqd
    have hqd':q ≠ d:=fun e => hqd e.symm
    refine RowOK.keep h.ok1 h.rows h.disj (hsub q u hq) hZ (fun k hk => hst k (fun e => ?_)) (a4 q hqd').1 (a4 q hqd').2.1 (a4 q hqd').2.2 (fun b hb => hblk b (yG h (hsub q u hq) b (qI hb)) (fun e => ?_))
    ·subst e
     exact hdn.2 q u hq hk
    ·exact hap b (hogn b e) q u hq (qI hb)
  ·have key:∀ q u,look q H2 = some u→∀ b ∈ fp σ' d ob,b ∉ fp σ q u:=by
    intro q u hq b hb
    rw [hfp1] at hb
    rcases List.mem_append.1 hb with hb|hb
    ·exact (hog2 b (by simpa using hb)).2.2.2 q u hq
    ·exact hap b (hfdm b hb) q u hq
   intro p o1 q u hp hq hpq b hb hb'
   rw [qR0] at hp hq
   by_cases hpd:d = p
   ·subst hpd
    rw [if_pos rfl] at hp
    cases hp
    rw [if_neg hpq] at hq
    rw [hfp2 q u (fun e => hpq e.symm)] at hb'
    exact key q u hq b hb hb'
   ·rw [if_neg hpd] at hp
    rw [hfp2 p o1 (fun e => hpd e.symm)] at hb
    by_cases hqd:d = q
    ·subst hqd
     rw [if_pos rfl] at hq
     cases hq
     exact key p o1 hp b hb' hb
    ·rw [if_neg hqd] at hq
     rw [hfp2 q u (fun e => hqd e.symm)] at hb'
     exact h.disj p o1 q u (hsub p o1 hp) (hsub q u hq) hpq b hb hb'
 unfold Oper.wp execOp
 simp only [ho,resolve,invoke,builtin,Sem.run_bind,Sem.run_pure,Result.andThen_ok,List.map_toArray,List.map_cons,List.map_nil,ey,hrun]
 refine hK _ _ σ' ⟨by rw [ev];rfl,fun o' ho' => ?_⟩ hS
 rw [qR0,if_pos rfl] at ho'
 cases ho'
 exact ⟨by rw [hob];simp [Obj.len],by rw [a1,a2];exact hv'⟩
end
end
section
section
variable {P:Program} {cfg:Cfg} {w0:W0} {w w':World} {Ok:Nat→Prop} {N:Nat} {σ σ':Asg} {s:St} {a:Act} {H H' H0 H1 H2:List (Nat × Obj)}
theorem splice_cons {α:Type} (ds:List α) (o:Nat) (v:α) (vs:List α) (h:o < ds.length):qO ds o (v :: vs) = qO (ds.set o v) (o + 1) vs:=by
 unfold qO
 apply List.ext_getElem?
 intro i
 simp only [List.append_assoc,List.getElem?_append,List.length_take,List.length_set,List.getElem?_take,List.getElem?_drop,List.getElem?_set,List.cons_append,List.length_cons]
 have m1:min o ds.length = o:=by omega
 have m2:min (o + 1) ds.length = o + 1:=by omega
 rw [m1,m2]
 by_cases h1:i < o
 ·rw [if_pos h1,if_pos h1,if_pos (by omega),if_pos (by omega),if_neg (by omega)]
 ·rw [if_neg h1]
  by_cases h2:i = o
  ·subst h2
   simp [h]
  ·rw [if_neg (by omega)]
   obtain ⟨m,rfl⟩:∃ m,i = o + 1 + m:=⟨i - (o + 1),by omega⟩
   rw [show o + 1 + m - o = m + 1 by omega,show o + 1 + m - (o + 1) = m by omega,List.getElem?_cons_succ,List.getElem?_append,List.getElem?_drop]
   split
   ·rfl
   ·rw [if_neg (by omega)]
    congr 1
    omega
theorem Row.storeCells {v:Value} {k n:Nat} {g:Nat}:∀ (vs:List Value) (o:Nat) {w:World} {ds:List Value},Row w v k n ds (some g)→o + vs.length ≤ ds.length →
  Row (w.setCells g o vs) v k n (qO ds o vs) (some g)∧w.grownBy (w.setCells g o vs) (some g)
 | [],o,w,ds,h,_ => by
  refine ⟨?_,rfl,rfl,rfl,Nat.le_refl _,fun _ _ _ => rfl⟩
  have e:qO ds o [] = ds:=by simp [qO]
  rw [e];exact h
 | u :: vs,o,w,ds,h,hl => by
  rw [List.length_cons] at hl
  obtain ⟨h1,h2⟩:=h.store o u
  obtain ⟨h3,h4⟩:=Row.storeCells vs (o + 1) h1 (by rw [List.length_set];omega)
  rw [splice_cons ds o u vs (by omega)]
  exact ⟨h3,h4.os.trans h2.os,h4.tape.trans h2.tape,h4.output.trans h2.output,Nat.le_trans h2.size h4.size,fun b hb hne => (h4.block b (Nat.lt_of_lt_of_le hb h2.size) hne).trans (h2.block b hb hne)⟩
theorem splice_mid {α:Type} (c1 r1 r2 r3 c2 vs:List α) (o:Nat) (ho:o = c1.length + r1.length) (hl:vs.length = r2.length):qO (c1 ++ ((r1 ++ (r2 ++ r3)) ++ c2)) o vs = c1 ++ ((r1 ++ (vs ++ r3)) ++ c2):=by
 unfold qO
 subst ho
 rw [List.take_append,List.take_of_length_le (by omega),show c1.length + r1.length - c1.length = r1.length by omega,List.append_assoc r1,List.take_left,List.drop_append,List.drop_of_length_le (by omega),hl,
  show c1.length + r1.length + r2.length - c1.length = r1.length + r2.length by omega,← List.append_assoc r1,← List.append_assoc r1,List.append_assoc (r1 ++ r2),List.drop_append,
  List.drop_of_length_le (by rw [List.length_append];omega),List.length_append]
 simp
theorem parts3 {α:Type} (l:List α) (j m:Nat) (h:j + m ≤ l.length):l = l.take j ++ ((l.drop j).take m ++ l.drop (j + m)):=by
 rw [← List.drop_drop,List.take_append_drop,List.take_append_drop]
theorem set_parts {α:Type} (l:List α) (i:Nat) (x:α) (h:i < l.length):l.set i x = l.take i ++ x :: l.drop (i + 1):=List.set_eq_take_append_cons_drop.trans (by rw [if_pos h])
theorem get_parts {α:Type} (l:List α) (i:Nat) (h:i < l.length):l = l.take i ++ l[i] :: l.drop (i + 1):=by
 rw [List.getElem_cons_drop,List.take_append_drop]
theorem rd_splice {A:Nat→Prop} {k:Nat} {ds vs:List Value} {xs:List (List D)} {ys:List D} (h:rdR k A w ds xs) (g:rdCs A w vs ys) {i j:Nat} (hi:i < xs.length) (hk:xs[i].length = k) (hj:j + ys.length ≤ k) :
  rdR k A w (qO ds (i * k + j) vs) (xs.set i (qO xs[i] j ys)):=by
 obtain ⟨d,hkp,h⟩:=h
 obtain ⟨e,g⟩:=g
 rw [get_parts xs i hi] at h
 obtain ⟨c1,c2,e1,h1,c,c3,e2,h2,h3⟩:=rdL.append_inv h
 obtain ⟨l1,l2,h2⟩:=h2
 rw [parts3 xs[i] j ys.length (by rw [hk];exact hj)] at h2
 obtain ⟨r1,r',e3,k1,k2⟩:=rdL.append_inv h2
 obtain ⟨r2,r3,e4,k3,k4⟩:=rdL.append_inv k2
 have n1:=h1.len
 have n2:=k1.len
 have n3:=k3.len
 have n4:=g.len
 rw [RC_k,Nat.mul_one] at n2 n3 n4
 have n1:c1.length = (xs.take i).length * k:=n1
 rw [List.length_take,Nat.min_eq_left (by omega)] at n1
 rw [List.length_take,Nat.min_eq_left (by rw [hk];omega)] at n2
 rw [List.length_take,List.length_drop,Nat.min_eq_left (by rw [hk];omega)] at n3
 rw [set_parts xs i _ hi,e1,e2,e3,e4,splice_mid c1 r1 r2 r3 c3 vs (i * k + j) (by rw [n1,n2]) (by rw [n3,n4])]
 refine ⟨max d e,hkp,(rdLK_up (Nat.le_max_left d e) h1).append ⟨r1 ++ (vs ++ r3),c3,rfl,⟨?_,?_,?_⟩,rdLK_up (Nat.le_max_left d e) h3⟩⟩
 ·rw [e3,e4] at l1
  simp only [List.length_append] at l1 ⊢
  omega
 ·unfold qO
  simp only [List.length_append,List.length_take,List.length_drop,hk]
  omega
 ·unfold qO
  rw [List.append_assoc]
  exact (rdL_up (Nat.le_max_left d e) k1).append ((rdL_up (Nat.le_max_right d e) g).append (rdL_up (Nat.le_max_left d e) k4))
theorem own_splice {k:Nat} {ds vs:List Value} {xs:List (List D)} {ys:List D} {F G:List Nat} (h:ownR k w ds xs F) (g:ownCs w vs ys G) {i j:Nat} (hi:i < xs.length) (hk:xs[i].length = k) (hj:j + ys.length ≤ k) (hn:(F ++ G).Nodup) :
  ∃ F',ownR k w (qO ds (i * k + j) vs) (xs.set i (qO xs[i] j ys)) F'∧F'.Nodup∧∀ b ∈ F',b ∈ F ∨ b ∈ G:=by
 obtain ⟨d,hkp,h⟩:=h
 obtain ⟨e,g⟩:=g
 rw [get_parts xs i hi] at h
 obtain ⟨c1,c2,F1,F2,e1,eF,h1,c,c3,F3,F4,e2,eF2,h2,h3⟩:=ownL.append_inv h
 obtain ⟨l1,l2,h2⟩:=h2
 rw [parts3 xs[i] j ys.length (by rw [hk];exact hj)] at h2
 obtain ⟨r1,r',f1,f',e3,eF3,k1,k2⟩:=ownL.append_inv h2
 obtain ⟨r2,r3,f2,f3,e4,eF4,k3,k4⟩:=ownL.append_inv k2
 have n1:=h1.len
 have n2:=k1.len
 have n3:=k3.len
 have n4:=g.len
 rw [RC_k,Nat.mul_one] at n2 n3 n4
 have n1:c1.length = (xs.take i).length * k:=n1
 rw [List.length_take,Nat.min_eq_left (by omega)] at n1
 rw [List.length_take,Nat.min_eq_left (by rw [hk];omega)] at n2
 rw [List.length_take,List.length_drop,Nat.min_eq_left (by rw [hk];omega)] at n3
 rw [set_parts xs i _ hi,e1,e2,e3,e4,splice_mid c1 r1 r2 r3 c3 vs (i * k + j) (by rw [n1,n2]) (by rw [n3,n4])]
 subst eF;subst eF2;subst eF3;subst eF4
 refine ⟨F1 ++ ((f1 ++ (G ++ f3)) ++ F4),⟨max d e,hkp,(jV0 (Nat.le_max_left d e) h1).append ⟨r1 ++ (vs ++ r3),c3,f1 ++ (G ++ f3),F4,rfl,rfl,⟨?_,?_,?_⟩,jV0 (Nat.le_max_left d e) h3⟩⟩,?_,?_⟩
 ·rw [e3,e4] at l1
  simp only [List.length_append] at l1 ⊢
  omega
 ·unfold qO
  simp only [List.length_append,List.length_take,List.length_drop,hk]
  omega
 ·unfold qO
  rw [List.append_assoc]
  exact (ownL_up (Nat.le_max_left d e) k1).append ((ownL_up (Nat.le_max_right d e) g).append (ownL_up (Nat.le_max_left d e) k4))
 ·have hp:(F1 ++ ((f1 ++ (G ++ f3)) ++ F4) ++ f2).Perm (F1 ++ ((f1 ++ (f2 ++ f3)) ++ F4) ++ G):=by
   rw [List.perm_iff_count]
   intro x
   simp only [List.count_append]
   omega
  exact (List.nodup_append.1 (hp.nodup_iff.2 hn)).1
 ·intro b hb
  simp only [List.mem_append] at hb ⊢
  rcases hb with hb|(hb|hb|hb)|hb
  ·exact .inl (.inl hb)
  ·exact .inl (.inr (.inl (.inl hb)))
  ·exact .inr hb
  ·exact .inl (.inr (.inl (.inr (.inr hb))))
  ·exact .inl (.inr (.inr hb))
theorem m_store (C:CfgOK P cfg) (h:Sim w0 Ok N σ s a w) {o:Oper} {x y:Operand} {t:TypeId} {z:List D} {st:Bool} (ho:o.op = .store t x y) (hd:o.dst = none) (ht:cfg.ty t = some (z,st)) {key i j:Nat} (hx:opv s.regs x = some (.optr key i j)) {vy:AV} (hy:opv s.regs y = some vy)
  {cs:List AC} (hc:xA vy = some cs) {ys:List D} {b:Bool} (hab:yX s.heap z cs = some (ys,b,H2)) {k:Nat} {xs:List (List D)} {d:Bool} (hk:look key H2 = some (.row k xs d)) {row:List D} (hrow:xs[i]? = some row) (hj:j + z.length ≤ k) (hrl:row.length = k)
  {K:Act→World→Prop} {Q:Exit→Act→World→Prop}
  (hK:∀ w' σ',σ'.g = σ.g→σ'.cap = σ.cap→Sim w0 Ok N σ' ⟨s.regs,insR key (.row k (xs.set i (qO row j ys)) (d && b)) H2⟩ a w'→K (a.put o.dst undef) w'):o.wp P a w K Q:=by
 obtain ⟨zv,ti,td,t1,t2,t3,⟨_,hzz⟩,t5,t6,t7,t8⟩:=C.ty t z st ht
 have B:Base σ s.heap 0 w0 w (fun _ => False) s.heap:=⟨h.ok1,h.rows,h.disj,Sub.refl _,fun _ _ h => h,fun _ _ _ _ _ h => h⟩
 have hcs:=jZ0 hc (qP h hy)
 obtain ⟨hyl,hs2,hrd2,G,hO2,hG2⟩:=xG0 B hzz hcs hab
 have hk0:=hs2 key _ hk
 obtain ⟨hi0,g,hg,ex⟩:=qP h hx _ hk0
 have hi:i < xs.length:=hi0
 clear hi0
 have hxi:xs[i] = row:=(List.getElem?_eq_some_iff.1 hrow).2
 have hRO:=h.rows key _ hk0
 obtain ⟨ds,hR,hkp,hel⟩:=hRO.row
 have hR:Row w (slv (σ.g key) xs.length (σ.cap key)) k xs.length ds (σ.g key):=hR
 obtain ⟨_,_,_,hrd⟩:=RowOK.rd h.ok1 h.rows h.disj hk0
 rw [hg] at hR
 obtain ⟨vs,hvs⟩:∃ vs,vs = (a.eval y).cells.toList:=⟨_,rfl⟩
 rw [← hvs] at hrd2 hO2
 have hvl:vs.length = z.length:=by rw [hrd2.len,hyl]
 have hoff:i * k + j + vs.length ≤ ds.length:=by
  have h1:=hR.1
  have h2:(i + 1) * k ≤ xs.length * k:=Nat.mul_le_mul_right _ hi
  rw [Nat.add_mul] at h2
  omega
 obtain ⟨hR',hgr⟩:=Row.storeCells vs (i * k + j) hR hoff
 obtain ⟨W,hW⟩:∃ W,W = w.setCells g (i * k + j) vs:=⟨_,rfl⟩
 rw [← hW] at hR' hgr
 have hsz:=hgr.size
 have hgf:g ∈ fp σ key (.row k xs d):=qI hg
 have hg2:=qR.fresh h hG2
 have ha2:=qR.apart h hG2 hs2
 have hgG:g ∉ G:=fun hm => ha2 g hm key _ hk hgf
 have hblk:∀ b,b < w.heap.size→b ≠ g→W.heap[b]? = w.heap[b]?:=fun b hb hne => hgr.block b hb (fun e => hne (by cases e;rfl))
 obtain ⟨ob,hob⟩:∃ ob,ob = Obj.row k (xs.set i (qO row j ys)) (d && b):=⟨_,rfl⟩
 rw [← hob] at hK
 obtain ⟨F',hF1,hF2,hF3⟩:∃ F',((d && b) = true→ownR k w (qO ds (i * k + j) vs) (xs.set i (qO row j ys)) F')∧F'.Nodup∧∀ c ∈ F',(d = true∧c ∈ σ.F key) ∨ c ∈ G:=by
  by_cases hdb:(d && b) = true
  ·have hdb':=hdb
   rw [Bool.and_eq_true] at hdb'
   obtain ⟨rfl,rfl⟩:=hdb'
   have hel':ownR k w ds xs (σ.F key):=hel
   have hn:=hRO.nodup
   have hfp:fp σ key (.row k xs true) = (σ.g key).toList ++ σ.F key:=by simp [fp,Obj.deep]
   rw [hfp] at hn
   have hnF:(σ.F key ++ G).Nodup:=List.nodup_append.2 ⟨(List.nodup_append.1 hn).2.1,hG2.1,fun c hc c' hc' e => by
    subst e
    exact ha2 c hc' key _ hk (fp_in rfl hc)⟩
   obtain ⟨F',q1,q2,q3⟩:=own_splice hel' (hO2 rfl) hi (by rw [hxi];exact hrl) (by rw [hyl];exact hj) hnF
   rw [hxi] at q1
   exact ⟨F',fun _ => q1,q2,fun c hc => (q3 c hc).imp (fun h => ⟨rfl,h⟩) id⟩
  ·exact ⟨[],fun h => absurd h hdb,List.nodup_nil,fun c hc => nomatch hc⟩
 let σ':Asg:=⟨σ.g,σ.cap,fun q => if q = key then F' else σ.F q,σ.ok⟩
 have a3:σ'.F key = F':=if_pos rfl
 have a4:∀ q,q ≠ key→σ'.F q = σ.F q:=fun q hq => if_neg hq
 have hfp2:∀ q u,q ≠ key→fp σ' q u = fp σ q u:=fun q u hq => by unfold fp;rw [a4 q hq]
 have hfp1:∀ c ∈ fp σ' key ob,c ∈ fp σ key (.row k xs d) ∨ c ∈ G:=by
  intro c hc
  unfold fp at hc
  rcases List.mem_append.1 hc with hc|hc
  ·exact .inl (List.mem_append_left _ hc)
  ·split at hc
   ·rw [a3] at hc
    rcases hF3 c hc with ⟨hd',hc⟩|hc
    ·exact .inl (fp_in hd' hc)
    ·exact .inr hc
   ·cases hc
 have hlk:∀ q u,look q (insR key ob H2) = some u→(q = key∧u = ob) ∨ (q ≠ key∧look q H2 = some u):=by
  intro q u hq
  rw [jU] at hq
  split at hq
  ·rename_i e
   cases hq
   exact .inl ⟨e.symm,rfl⟩
  ·rename_i e
   exact .inr ⟨fun e' => e e'.symm,hq⟩
 have zin:∀ c,Zt σ (fun _ => False) H2 w c→Zn σ' (insR key ob H2) W c∧W.heap[c]? = w.heap[c]?:=by
  intro c hc
  obtain ⟨b1,b2,_,b4⟩:=hc
  have hcg:c ≠ g:=fun e => b4 key _ hk (by rw [hg,e])
  refine ⟨⟨Nat.lt_of_lt_of_le b1 hsz,b2,fun q u hq e => ?_⟩,hblk c b1 hcg⟩
  rcases hlk q u hq with ⟨e1,_⟩|⟨_,hq⟩
  ·rw [e1] at e
   exact b4 key _ hk e
  ·exact b4 q u hq e
 have hZ:jQ σ σ' s.heap (insR key ob H2) w W:=fun c hc => zin c ((B.to hs2).zt hc)
 have hst:∀ q,jY σ σ' s.heap (insR key ob H2) q:=by
  intro q u hq
  rcases hlk q u hq with ⟨rfl,rfl⟩|⟨_,hq⟩
  ·exact ⟨_,hk0,by rw [hob];rfl,by rw [hob];simp [Obj.len],rfl,rfl⟩
  ·exact ⟨u,hs2 q u hq,rfl,rfl,rfl,rfl⟩
 have hS:Sim w0 Ok N σ' ⟨s.regs,insR key ob H2⟩ a W:=by
  refine h.step rfl (h.below.grown hgr (fun g' hg' => by cases hg';exact hRO.fresh g hgf)) hZ (h.grownY hgr (fun g' hg' => by cases hg';exact hRO.fresh g hgf)) (fun r av hr => ⟨av,hr,.inl ⟨rfl,fun q _ => hst q⟩⟩) (fun q u hq => ?_) ?_
  ·rcases hlk q u hq with ⟨rfl,rfl⟩|⟨hne,hq⟩
   ·refine ⟨⟨qO ds (i * k + j) vs,?_,by rw [hob];exact hkp,?_⟩,?_,?_⟩
    ·rw [hob]
     show Row W (slv (σ.g q) (xs.set i _).length (σ.cap q)) k (xs.set i _).length _ (σ.g q)
     rw [List.length_set,hg]
     exact hR'
    ·rw [hob]
     show if (d && b) = true then ownR k W _ (xs.set i (qO row j ys)) (σ'.F q) else rdR k (Zn σ' _ W) W _ (xs.set i (qO row j ys))
     by_cases hdb:(d && b) = true
     ·rw [if_pos hdb,a3]
      refine (hF1 hdb).frame (fun c hc => ?_)
      rcases hF3 c hc with ⟨hd',hc'⟩|hc'
      ·have hz:=RowOK.Fz h.ok1 h.rows h.disj hk0 hd' c hc'
       exact hblk c hz.1 (fun e => hz.2.2 q _ hk0 (by rw [hg,e]))
      ·exact hblk c (hg2 c hc').2 (fun e => hgG (e ▸ hc'))
     ·rw [if_neg hdb,← hob]
      have r1:rdR k (Zn σ' (insR q u H2) W) W ds xs:=by
       obtain ⟨ds2,hR2,_,hrd'⟩:=RowOK.rd h.ok1 h.rows h.disj hk0
       have e:ds2 = ds:=by
        rw [hg] at hR2
        rcases hR.2 with ⟨_,_,h0⟩|⟨g1,cap1,cur1,e1,_,h1,hh1,_,_,_,t1⟩
        ·cases h0
        ·rcases hR2.2 with ⟨_,_,h0⟩|⟨g2,cap2,cur2,e2,_,h2,hh2,_,_,_,t2⟩
         ·cases h0
         ·cases h1;cases h2
          rw [hh1] at hh2
          cases hh2
          rw [← t1,← t2]
       rw [e] at hrd'
       exact hrd'.step hZ
      have r2:rdCs (Zn σ' (insR q u H2) W) W vs ys:=(hrd2.frame (fun c hc _ => (zin c hc).2)).mono (fun c hc _ => (zin c hc).1)
      have:=rd_splice r1 r2 hi (by rw [hxi];exact hrl) (j:=j) (by rw [hyl];exact hj)
      rw [hxi] at this
      exact this
    ·intro c hc
     rcases hfp1 c hc with hc|hc
     ·exact hRO.fresh c hc
     ·exact (hg2 c hc).1
    ·unfold fp
     have hg':σ'.g q = some g:=hg
     rw [hg',a3,Option.toList_some]
     split
     ·rw [List.singleton_append,List.nodup_cons]
      refine ⟨fun hm => ?_,hF2⟩
      rcases hF3 g hm with ⟨hd',hc'⟩|hc'
      ·exact (RowOK.Fz h.ok1 h.rows h.disj hk0 hd' g hc').2.2 q _ hk0 hg
      ·exact hgG hc'
     ·simp
   ·refine RowOK.keep h.ok1 h.rows h.disj (hs2 q u hq) hZ (fun q' _ => hst q') rfl rfl (a4 q hne) (fun c hc => hblk c (yG h (hs2 q u hq) c (qI hc)) (fun e => ?_))
    subst e
    exact h.disj q u key _ (hs2 q u hq) hk0 hne c (qI hc) hgf
  ·have key1:∀ q u,q ≠ key→look q H2 = some u→∀ c ∈ fp σ' key ob,c ∉ fp σ q u:=by
    intro q u hne hq c hc
    rcases hfp1 c hc with hc|hc
    ·exact h.disj key _ q u hk0 (hs2 q u hq) (fun e => hne e.symm) c hc
    ·exact ha2 c hc q u hq
   intro p o1 q u hp hq hpq c hc hc'
   rcases hlk p o1 hp with ⟨rfl,eo⟩|⟨hne,hp'⟩
   ·rcases hlk q u hq with ⟨e,_⟩|⟨hne,hq⟩
    ·exact hpq e.symm
    ·rw [hfp2 q u hne] at hc'
     rw [eo] at hc
     exact key1 q u hne hq c hc hc'
   ·rw [hfp2 p o1 hne] at hc
    rcases hlk q u hq with ⟨rfl,eu⟩|⟨hne',hq'⟩
    ·rw [eu] at hc'
     exact key1 p o1 hne hp' c hc' hc
    ·rw [hfp2 q u hne'] at hc'
     exact h.disj p o1 q u (hs2 p o1 hp') (hs2 q u hq') hpq c hc hc'
 have hsize:(a.eval y).cells.size = ti.size:=by
  have e:(a.eval y).cells.size = vs.length:=by rw [hvs,Array.length_toList]
  rw [e,hvl,← t3]
 have hrun:(storeVar t ⟨g,i * k + j,none⟩ (a.eval y)).run P w = .ok () W:=by
  have hone:∀ v ∈ vs,v.oneCell' = true:=hrd2.one
  have:=run_storeCells_cells (P:=P) g (i * k + j) vs 0 w (fun q hq => by
   obtain ⟨u,hu⟩:∃ u,ds[i * k + j + q]? = some u:=⟨ds[i * k + j + q]'(by omega),List.getElem?_eq_getElem _⟩
   rw [Nat.add_zero,hR.cells _ _ hu];rfl) (fun q hq => by rw [Nat.add_zero];exact hR.frozen _) hone
  rw [Nat.add_zero,← hW] at this
  simp [storeVar,sizeOf,typeInfo,t1,hsize,← hvs,this]
 have ex':a.eval x = .pointer (some ⟨g,i * k + j,none⟩):=ex
 unfold Oper.wp execOp
 simp only [ho,ex',Instr.storeAt,Instr.sureAddr,Sem.run_bind,Sem.run_pure,Result.andThen_ok,hrun]
 exact hK W σ' rfl rfl hS
end
end
section
section
variable {P:Program} {cfg:Cfg} {w0:W0} {w w':World} {Ok:Nat→Prop} {N:Nat} {σ σ':Asg} {s:St} {a:Act} {H H' H0 H1 H2:List (Nat × Obj)} {regs regs':List (Nat × AV)}
theorem absorbs_data:∀ {z:List D} {cs:List AC} {H H':List (Nat × Obj)} {r:List D × Bool × List (Nat × Obj)},cs.flatMap AC.refs = []→yX H z cs = some r→r.2.2 = H∧yX H' z cs = some (r.1,r.2.1,H')
 | [],[],H,H',r,_,h => by simp only [yX,Option.some.injEq] at h;subst h;exact ⟨rfl,rfl⟩
 | [],_ :: _,_,_,_,_,h => by simp [yX] at h
 | _ :: _,[],_,_,_,_,h => by simp [yX] at h
 | z :: zs,x :: cs,H,H',r,hr,h => by
  rw [List.flatMap_cons,List.append_eq_nil_iff] at hr
  simp only [yX] at h ⊢
  obtain ⟨p,hp,h⟩:=bind_some h
  obtain ⟨q,hq,rfl⟩:=map_some h
  have e:p.2.2 = H∧absorb z H' x = some (p.1,p.2.1,H'):=by
   cases x with
   | own key n => simp [AC.refs] at hr
   | view key i n => simp [AC.refs] at hr
   | junk => simp [absorb,cellD] at hp
   | val d =>
    have hp:(cellD z (.val d)).map (fun p => (p.1,p.2,H)) = some p:=hp
    obtain ⟨y,hy,rfl⟩:=map_some hp
    exact ⟨rfl,by show (cellD z (.val d)).map (fun p => (p.1,p.2,H')) = _;rw [hy];rfl⟩
   | nil =>
    have hp:(cellD z .nil).map (fun p => (p.1,p.2,H)) = some p:=hp
    obtain ⟨y,hy,rfl⟩:=map_some hp
    exact ⟨rfl,by show (cellD z .nil).map (fun p => (p.1,p.2,H')) = _;rw [hy];rfl⟩
  rw [e.1] at hq
  obtain ⟨e1,e2⟩:=absorbs_data (H':=H') hr.2 hq
  refine ⟨e1,?_⟩
  rw [e.2]
  simp only [Option.bind_some,e2,Option.map_some]
theorem Sim.setObj (h:Sim w0 Ok N σ s a w) {key:Nat} {u ob:Obj} (hk:look key s.heap = some u) (hl:ob.len = u.len) (hkk:ob.k = u.k) (hd:ob.deep = false)
  (hel:∀ H',(∀ b,Zn σ s.heap w b→Zn σ H' w b)→(∀ q,jY σ σ s.heap H' q)→∀ ds,Row w (slv (σ.g key) u.len (σ.cap key)) u.k u.len ds (σ.g key)→elOK σ s.heap w key ds u→elOK σ H' w key ds ob):Sim w0 Ok N σ ⟨s.regs,insR key ob s.heap⟩ a w:=by
 have hRO:=h.rows key _ hk
 have hlk:∀ q o',look q (insR key ob s.heap) = some o'→(q = key∧o' = ob) ∨ (q ≠ key∧look q s.heap = some o'):=by
  intro q o' hq
  rw [jU] at hq
  split at hq
  ·rename_i e
   cases hq
   exact .inl ⟨e.symm,rfl⟩
  ·rename_i e
   exact .inr ⟨fun e' => e e'.symm,hq⟩
 have hZ0:∀ b,Zn σ s.heap w b→Zn σ (insR key ob s.heap) w b:=by
  intro c hc
  refine ⟨hc.1,hc.2.1,fun q o' hq e => ?_⟩
  rcases hlk q o' hq with ⟨e1,_⟩|⟨_,hq⟩
  ·rw [e1] at e
   exact hc.2.2 key _ hk e
  ·exact hc.2.2 q o' hq e
 have hZ:jQ σ σ s.heap (insR key ob s.heap) w w:=fun b hb => ⟨hZ0 b hb,rfl⟩
 have hst:∀ q,jY σ σ s.heap (insR key ob s.heap) q:=by
  intro q o' hq
  rcases hlk q o' hq with ⟨rfl,rfl⟩|⟨_,hq⟩
  ·exact ⟨_,hk,hkk.symm,hl.symm,rfl,rfl⟩
  ·exact ⟨o',hq,rfl,rfl,rfl,rfl⟩
 have hfp1:∀ c ∈ fp σ key ob,c ∈ fp σ key u:=by
  intro c hc
  unfold fp at hc ⊢
  rw [hd] at hc
  rcases List.mem_append.1 hc with hc|hc
  ·exact List.mem_append_left _ hc
  ·cases hc
 refine h.step rfl h.below hZ (fun _ _ => rfl) (fun r av hr => ⟨av,hr,.inl ⟨rfl,fun q _ => hst q⟩⟩) (fun q o' hq => ?_) ?_
 ·rcases hlk q o' hq with ⟨rfl,rfl⟩|⟨hne,hq⟩
  ·obtain ⟨ds,hrow,hkp,hel0⟩:=hRO.row
   refine ⟨⟨ds,by rw [hl,hkk];exact hrow,by rw [hkk];exact hkp,hel _ hZ0 hst ds hrow hel0⟩,fun c hc => hRO.fresh c (hfp1 c hc),?_⟩
   unfold fp
   rw [hd]
   cases σ.g q <;> simp
  ·exact RowOK.keep h.ok1 h.rows h.disj hq hZ (fun q' _ => hst q') rfl rfl rfl (fun c _ => rfl)
 ·intro p o1 q u1 hp hq hpq c hc hc'
  rcases hlk p o1 hp with ⟨rfl,eo⟩|⟨hne,hp'⟩
  ·rcases hlk q u1 hq with ⟨e,_⟩|⟨hne,hq⟩
   ·exact hpq e.symm
   ·rw [eo] at hc
    exact h.disj p _ q u1 hk hq hpq c (hfp1 c hc) hc'
  ·rcases hlk q u1 hq with ⟨rfl,eu⟩|⟨hne',hq'⟩
   ·rw [eu] at hc'
    exact h.disj p o1 q _ hp' hk hpq c hc (hfp1 c hc')
   ·exact h.disj p o1 q u1 hp' hq' hpq c hc hc'
theorem AC.kill_rel {k:Nat} {x:AC} {v:Value} (h:relAC σ H w x v):relAC σ H w (x.kill k) v:=by
 cases x with
 | own q n => simp only [AC.kill];split;exact trivial;exact h
 | view q i n => simp only [AC.kill];split;exact trivial;exact h
 | _ => exact h
theorem relCs.kill {k:Nat}:∀ {xs:List AC} {us:List Value},relCs σ H w xs us→relCs σ H w (xs.map (AC.kill k)) us
 | [],_,h => h
 | _ :: _,_,⟨v,us,e,h1,h2,h3⟩ => ⟨v,us,e,h1,AC.kill_rel h2,relCs.kill h3⟩
theorem AV.kill_rel {k:Nat} {x:AV} {v:Value} (h:relAV σ H w x v):relAV σ H w (x.kill k) v:=by
 cases x with
 | c x => exact ⟨h.1,AC.kill_rel h.2⟩
 | eptr cs => exact h
 | optr q i j => simp only [AV.kill];split;exact trivial;exact h
 | agg cs => obtain ⟨us,e,h⟩:=h;exact ⟨us,e,h.kill⟩
 | tup cs => obtain ⟨us,e,h⟩:=h;exact ⟨us,e,h.kill⟩
 | dead => trivial
theorem AC.kill_refs {k q:Nat} {x:AC} (h:q ∈ (x.kill k).refs):q ≠ k∧q ∈ x.refs:=by
 cases x with
 | own p n => simp only [AC.kill] at h;split at h <;> simp_all [AC.refs]
 | view p i n => simp only [AC.kill] at h;split at h <;> simp_all [AC.refs]
 | junk => cases h
 | val d => cases h
 | nil => cases h
theorem AV.kill_refs {k q:Nat} {x:AV} (h:q ∈ (x.kill k).refs):q ≠ k∧q ∈ x.refs:=by
 have many:∀ {cs:List AC},q ∈ (cs.map (AC.kill k)).flatMap AC.refs→q ≠ k∧q ∈ cs.flatMap AC.refs:=by
  intro cs h
  rw [List.mem_flatMap] at h
  obtain ⟨y,hy,hq⟩:=h
  obtain ⟨x,hx,rfl⟩:=List.mem_map.1 hy
  obtain ⟨h1,h2⟩:=AC.kill_refs hq
  exact ⟨h1,List.mem_flatMap.2 ⟨x,hx,h2⟩⟩
 cases x with
 | c x => exact AC.kill_refs h
 | eptr cs => cases h
 | optr p i j => simp only [AV.kill] at h;split at h <;> simp_all [AV.refs]
 | agg cs => exact many h
 | tup cs => exact many h
 | dead => cases h
theorem qF0 {k r:Nat}:∀ {l:List (Nat × AV)},look r (killR k l) = (look r l).map (AV.kill k)
 | [] => rfl
 | (i,x) :: l => by
  simp only [killR,List.map_cons,look]
  split
  ·rfl
  ·exact qF0 (l:=l)
theorem Sim.killed (h:Sim w0 Ok N σ s a w) (k:Nat):Sim w0 Ok N σ ⟨killR k s.regs,s.heap⟩ a w:=by
 refine ⟨h.below,h.ok1,h.ok2,h.defers,h.size,fun r av hr => ?_,h.rows,h.disj,h.inv,h.hid⟩
 rw [qF0] at hr
 obtain ⟨v,hv,rfl⟩:=map_some hr
 exact AV.kill_rel (h.regs r v hv)
theorem Sim.rename (h:Sim w0 Ok N σ s a w) {key d:Nat} (hne:key ≠ d) {o:Obj} (ho:look key s.heap = some o) (hd:∀ q u,q ≠ d→look q s.heap = some u→d ∉ u.refs) :
  ∃ σ',σ'.g d = σ.g key∧σ'.cap d = σ.cap key∧Sim w0 Ok N σ' ⟨killR key (killR d s.regs),insR d o (drop key (drop d s.heap))⟩ a w:=by
 have h1:=(h.killed d).killed key
 let σ':Asg:=⟨fun q => if q = d then σ.g key else σ.g q,fun q => if q = d then σ.cap key else σ.cap q,fun q => if q = d then σ.F key else σ.F q,σ.ok⟩
 have a1:σ'.g d = σ.g key:=if_pos rfl
 have a2:σ'.cap d = σ.cap key:=if_pos rfl
 have a3:σ'.F d = σ.F key:=if_pos rfl
 have a4:∀ q,q ≠ d→σ'.g q = σ.g q∧σ'.cap q = σ.cap q∧σ'.F q = σ.F q:=fun q hq => ⟨if_neg hq,if_neg hq,if_neg hq⟩
 have hfp1:∀ u,fp σ' d u = fp σ key u:=fun u => by unfold fp;rw [a1,a3]
 have hfp2:∀ q u,q ≠ d→fp σ' q u = fp σ q u:=fun q u hq => by unfold fp;rw [(a4 q hq).1,(a4 q hq).2.2]
 have hlk:∀ q u,look q (insR d o (drop key (drop d s.heap))) = some u→(q = d∧u = o) ∨ (q ≠ d∧q ≠ key∧look q s.heap = some u):=by
  intro q u hq
  rw [jU] at hq
  split at hq
  ·rename_i e
   cases hq
   exact .inl ⟨e.symm,rfl⟩
  ·rename_i e
   rw [yU] at hq
   split at hq
   ·cases hq
   ·rename_i e2
    rw [yU,if_neg (fun e' => e e'.symm)] at hq
    exact .inr ⟨fun e' => e e'.symm,e2,hq⟩
 have hZ:jQ σ σ' s.heap (insR d o (drop key (drop d s.heap))) w w:=by
  intro b hb
  refine ⟨⟨hb.1,hb.2.1,fun q u hq e => ?_⟩,rfl⟩
  rcases hlk q u hq with ⟨e1,_⟩|⟨e1,_,hq⟩
  ·rw [e1,a1] at e
   exact hb.2.2 key o ho e
  ·rw [(a4 q e1).1] at e
   exact hb.2.2 q u hq e
 have hst:∀ q,q ≠ d→jY σ σ' s.heap (insR d o (drop key (drop d s.heap))) q:=by
  intro q hq u hu
  rcases hlk q u hu with ⟨e1,_⟩|⟨_,_,hu⟩
  ·exact absurd e1 hq
  ·exact ⟨u,hu,rfl,rfl,(a4 q hq).1,(a4 q hq).2.1⟩
 refine ⟨σ',a1,a2,?_⟩
 refine h1.step rfl h.below hZ (fun _ _ => rfl) (fun r av hr => ⟨av,hr,.inl ⟨rfl,fun k hk => hst k ?_⟩⟩) (fun q u hq => ?_) ?_
 ·have hr':look r (killR key (killR d s.regs)) = some av:=hr
  rw [qF0,qF0] at hr'
  obtain ⟨v1,hv1,rfl⟩:=map_some hr'
  obtain ⟨v2,hv2,rfl⟩:=map_some hv1
  exact (AV.kill_refs (AV.kill_refs hk).2).1
 ·rcases hlk q u hq with ⟨e1,e2⟩|⟨e1,e2,hq⟩
  ·have hr:=h.rows key o ho
   obtain ⟨ds,hrow,hkp,hel⟩:=hr.row
   rw [e1,e2]
   refine ⟨⟨ds,by rw [a1,a2];exact hrow,hkp,?_⟩,by rw [hfp1];exact hr.fresh,by rw [hfp1];exact hr.nodup⟩
   cases o with
   | lit k css => exact relRs.step hZ hel (fun k' hk' => hst k' (fun e => hd key _ hne ho (e ▸ hk')))
   | pin og c k xs => exact ⟨a1.trans hel.1,a2.trans hel.2.1,rdR.step hel.2.2 hZ⟩
   | row k xs dd =>
    cases dd with
    | true =>
     show ownR k w ds xs (σ'.F d)
     rw [a3];exact hel
    | false =>
     have hel':rdR k (Zn σ s.heap w) w ds xs:=hel
     exact hel'.step hZ
  ·exact RowOK.keep h.ok1 h.rows h.disj hq hZ (fun k' hk' => hst k' (fun e => hd q u e1 hq (e ▸ hk'))) (a4 q e1).1 (a4 q e1).2.1 (a4 q e1).2.2 (fun b _ => rfl)
 ·intro p o1 q u hp hq hpq b hb hb'
  rcases hlk p o1 hp with ⟨e1,e2⟩|⟨e1,e2,hp'⟩
  ·rcases hlk q u hq with ⟨e3,_⟩|⟨e3,e4,hq'⟩
   ·exact hpq (e1.trans e3.symm)
   ·rw [e1,hfp1] at hb
    rw [hfp2 q u e3] at hb'
    rw [e2] at hb
    exact h.disj key o q u ho hq' (fun e => e4 e.symm) b hb hb'
  ·rw [hfp2 p o1 e1] at hb
   rcases hlk q u hq with ⟨e3,e5⟩|⟨e3,e4,hq'⟩
   ·rw [e3,hfp1,e5] at hb'
    exact h.disj p o1 key o hp' ho e2 b hb hb'
   ·rw [hfp2 q u e3] at hb'
    exact h.disj p o1 q u hp' hq' hpq b hb hb'
theorem Sim.ins (h:Sim w0 Ok N σ ⟨regs,H⟩ a w) {d:Nat} (hd:d < N) {v:Value} {av:AV} (hv:relAV σ H w av v):Sim w0 Ok N σ ⟨insR d av regs,H⟩ (a.put (some d) v) w :=
 Sim.put h (d:=some d) (fun r e => by cases e;exact hd) hv
theorem yC {α:Type} {r:Nat} {x:α}:∀ {l:List (Nat × α)},look r l = some x→(r,x) ∈ l
 | [],h => nomatch h
 | (i,y) :: l,h => by
  simp only [look] at h
  split at h
  ·rename_i e;cases h;subst e;simp
  ·exact List.mem_cons_of_mem _ (yC h)
theorem m_storeP (C:CfgOK P cfg) (h:Sim w0 Ok cfg.N σ s a w) {o:Oper} {x y:Operand} {t:TypeId} {z:List D} {st:Bool} (ho:o.op = .store t x y) (hd:o.dst = none) (ht:cfg.ty t = some (z,st)) {key i j:Nat} (hx:opv s.regs x = some (.optr key i j)) {vy:AV} (hy:opv s.regs y = some vy)
  {cs:List AC} (hcs:xA vy = some cs) {p:List D × Bool × List (Nat × Obj)} (hp:yX s.heap z cs = some p) {og:Option Nat} {c k:Nat} {xs:List (List D)} (hk:look key p.2.2 = some (.pin og c k xs)) {row:List D} (hrow:xs[i]? = some row)
  (hc:(j + z.length ≤ k∧row.length = k)∧(cs.flatMap AC.refs).isEmpty = true) {K:Act→World→Prop} {Q:Exit→Act→World→Prop}
  (hK:∀ σ' a' w',Sim w0 Ok cfg.N σ' ⟨s.regs,insR key (.pin og c k (xs.set i (qO row j p.1))) s.heap⟩ a' w'→K a' w') (ha:a.put o.dst undef = a):o.wp P a w K Q:=by
 obtain ⟨e1,e2⟩:=absorbs_data (H':=insR key (.row k xs false) s.heap) (List.isEmpty_iff.1 hc.2) hp
 rw [e1] at hk
 obtain ⟨_,_,_,hog,hcap,_⟩:=(h.rows key _ hk).row
 have hS1:=Sim.setObj h hk (ob:=.row k xs false) rfl rfl rfl (fun H' hm _ ds _ hel => rdR.mono hel.2.2 (fun b hb _ => hm b hb))
 refine m_store C hS1 ho hd ht hx hy hcs (ys:=p.1) (b:=p.2.1) (H2:=insR key (.row k xs false) s.heap) e2 (by rw [jU,if_pos rfl]) hrow hc.1.1 hc.1.2 (fun w' σ' g1 g2 hS => ?_)
 rw [ha]
 refine hK σ' _ _ ?_
 have hS2:=Sim.setObj hS (key:=key) (u:=.row k (xs.set i (qO row j p.1)) (false && p.2.1)) (ob:=.pin og c k (xs.set i (qO row j p.1))) (by rw [jU,if_pos rfl]) rfl rfl rfl (fun H' hm _ ds _ hel => by
  have hel:rdR k (Zn σ' _ w') w' ds (xs.set i (qO row j p.1)):=hel
  exact ⟨by rw [g1];exact hog,by rw [g2];exact hcap,hel.mono (fun b hb _ => hm b hb)⟩)
 exact hS2.forget (fun _ _ h => h) (fun q o' ho' => by
  simp only [jU] at ho' ⊢
  by_cases e:key = q
  ·rw [if_pos e] at ho' ⊢;exact ho'
  ·rw [if_neg e] at ho' ⊢;rw [if_neg e,if_neg e];exact ho')
def After (w0:W0) (Ok:Nat→Prop) (N:Nat) (s':St) (K:Act→World→Prop):Prop:=∀ σ' a' w',Sim w0 Ok N σ' s' a' w'→K a' w'
theorem amut_wp (C:CfgOK P cfg) (h:Sim w0 Ok cfg.N σ s a w) {o:Oper} {s':St} (hd:dstOK cfg o = true) (ha:amut cfg s o.dst o.op = some s') {K:Act→World→Prop} {Q:Exit→Act→World→Prop} (hK:After w0 Ok cfg.N s' K):o.wp P a w K Q:=by
 obtain ⟨od,op,oty,opos,oaf,og⟩:=o
 simp only at ha hd
 cases op with
 | assign x =>
  simp only [amut] at ha
  obtain ⟨v,hv,ha⟩:=bind_some ha
  obtain ⟨d,hdd,ha⟩:=bind_some ha
  subst hdd
  have hdN:d < cfg.N:=by simpa [dstOK] using hd
  have hrel:=qP h hv
  have hrun:(execOp a.eval ⟨some d,.assign x,oty,opos,oaf,og⟩).run P w = .ok (.value (a.eval x)) w:=BigFrame.run_assign x rfl w
  have plain:∀ {s'':St},s'' = ⟨insR d v s.regs,s.heap⟩→After w0 Ok cfg.N s'' K→Oper.wp P ⟨some d,.assign x,oty,opos,oaf,og⟩ a w K Q:=by
   rintro _ rfl hK
   unfold Oper.wp
   rw [hrun]
   exact hK σ _ _ (Sim.ins h hdN hrel)
  split at ha
  ·rename_i key n
   split at ha
   ·rename_i o ho
    simp only [Option.bind_some] at ha
    split at ha
    ·cases ha;exact plain rfl hK
    ·rename_i hne
     split at ha
     ·rename_i hall
      cases ha
      obtain ⟨σ',g1,g2,hS⟩:=h.rename hne ho (fun q u hq hu => by
       have hm:=List.all_eq_true.1 hall (q,u) (yC (by rw [yU,if_neg hq];exact hu))
       simpa using hm)
      unfold Oper.wp
      rw [hrun]
      refine hK σ' _ _ (Sim.ins hS hdN ⟨hrel.1,fun o' ho' => ?_⟩)
      rw [jU,if_pos rfl] at ho'
      cases ho'
      obtain ⟨e1,e2⟩:=hrel.2 o ho
      exact ⟨e1,by rw [g1,g2];exact e2⟩
     ·cases ha
   ·cases ha
  ·cases ha;exact plain rfl hK
 | store t x y =>
  simp only [amut] at ha
  obtain ⟨⟨z,st⟩,hz,ha⟩:=bind_some ha
  obtain ⟨va,hva,ha⟩:=bind_some ha
  obtain ⟨vx,hvx,ha⟩:=bind_some ha
  obtain ⟨cs,hcs,ha⟩:=bind_some ha
  split at ha
  ·rename_i key i j
   obtain ⟨p,hp,ha⟩:=bind_some ha
   split at ha
   ·rename_i k xs d hk
    obtain ⟨row,hrow,ha⟩:=bind_some ha
    split at ha
    ·rename_i hc
     cases ha
     refine m_store C h rfl rfl hz hva hvx hcs (ys:=p.1) (b:=p.2.1) (H2:=p.2.2) hp hk hrow hc.1 hc.2 (fun w' σ' _ _ hS => hK σ' _ _ hS)
    ·cases ha
   ·rename_i og c k xs hk
    obtain ⟨row,hrow,ha⟩:=bind_some ha
    split at ha
    ·rename_i hc
     cases ha
     exact m_storeP C h rfl rfl hz hva hvx hcs hp hk hrow hc hK rfl
    ·cases ha
   ·cases ha
  ·cases ha
 | call c =>
  obtain ⟨callee,args,ts⟩:=c
  cases callee with
  | builtin b =>
   cases b <;> try (simp [amut] at ha;done)
   case append =>
    simp only [amut] at ha
    split at ha
    ·rename_i x y t u d h1 h2
     split at ha
     ·rename_i htu
      subst htu
      obtain ⟨i,hi,ha⟩:=bind_some ha
      obtain ⟨vx,hvx,ha⟩:=bind_some ha
      obtain ⟨vy,hvy,ha⟩:=bind_some ha
      obtain ⟨b,hb,ha⟩:=bind_some ha
      obtain ⟨e,he,ha⟩:=bind_some ha
      split at ha
      ·rename_i hc
       cases ha
       have hdN:d < cfg.N:=by simpa [dstOK] using hd
       have e1:args = #[x,y]:=by rw [← Array.toArray_toList (xs:=args),h1]
       have e2:ts = #[t,t]:=by rw [← Array.toArray_toList (xs:=ts),h2]
       subst e1;subst e2
       refine m_append C h rfl hi hvx hvy (xs:=b.1) (db:=b.2.1) (H1:=b.2.2) hb (ys:=e.1) (de:=e.2.1) (H2:=e.2.2) he hc.1 hc.2.1 hc.2.2 (fun v w' σ' hv hS => ?_)
       refine hK σ' _ _ ?_
       have hS2:=hS.forget (regs':=s.regs) (H':=insR d (.row i.z.length (b.1 ++ e.1) (b.2.1 && e.2.1)) e.2.2) (fun _ _ h => h) (fun k o' ho' => by rw [jU] at ho';exact ho')
       exact Sim.ins hS2 hdN (hv.sub (fun k o' ho' => by rw [jU] at ho';exact ho'))
      ·cases ha
     ·cases ha
    ·cases ha
  | invoke r m => simp [amut] at ha
  | value f => simp [amut] at ha
 | _ => simp [amut] at ha
theorem xX (h:Sim w0 Ok N σ s a w) {ops:Array Oper} {o:Oper} {b:Bool} (ha:qN ops s.regs o = some b):Region.wanted o (yielded ops a.tmps) = b:=by
 unfold qN at ha
 unfold Region.wanted
 split at ha
 ·rename_i e;rw [e];cases ha;rfl
 ·rename_i j want e
  rw [e]
  obtain ⟨v,hv,hb⟩:=bind_some ha
  obtain ⟨d,hd,hl⟩:=bind_some hv
  have hrel:=h.regs d v hl
  show (yielded ops a.tmps j == some want) = b
  have hy:yielded ops a.tmps j = match a.tmps[d]? with|some (.bool b) => some b|_ => none:=by
   unfold yielded
   rw [hd];rfl
  rw [hy]
  clear hy
  unfold avG at hb
  split at hb
  ·rename_i t
   cases hb
   have e3:a.tmps.getD d undef = .bool t:=jN.1 hrel.2
   cases hq:a.tmps[d]? with
   | none =>
    simp only [Array.getD_eq_getD_getElem?,hq,Option.getD_none] at e3
    cases e3
   | some u =>
    simp only [Array.getD_eq_getD_getElem?,hq,Option.getD_some] at e3
    subst e3
    cases t <;> cases want <;> rfl
  ·cases hb
   obtain ⟨us,e3,e4⟩:=hrel
   have e4:us = []:=e4
   subst e4
   cases hq:a.tmps[d]? with
   | none => rfl
   | some u =>
    have e3:a.tmps.getD d undef = .tuple #[]:=e3
    rw [Array.getD_eq_getD_getElem?,hq,Option.getD_some] at e3
    subst e3
    rfl
  ·cases hb
theorem astep_wp (C:CfgOK P cfg) (h:Sim w0 Ok cfg.N σ s a w) {ops:Array Oper} {o:Oper} {s':St} (ha:astep cfg ops o s = some s') {K:Act→World→Prop} {Q:Exit→Act→World→Prop} (hK:After w0 Ok cfg.N s' K) :
  if Region.wanted o (yielded ops a.tmps) = true then o.wp P a w K Q else K (a.put o.dst undef) w:=by
 unfold astep at ha
 split at ha
 ·rename_i hd
  obtain ⟨b,hb,ha⟩:=bind_some ha
  have hw:=xX h hb
  rw [hw]
  cases b with
  | false =>
   simp only [Bool.false_eq_true,if_false] at ha ⊢
   cases ha
   refine hK σ _ _ (Sim.put h (fun r e => ?_) ⟨[],rfl,rfl⟩)
   rw [dstOK,e] at hd
   simpa using hd
  | true =>
   simp only [if_true] at ha ⊢
   split at ha
   ·exact amut_wp C h hd ha hK
   ·obtain ⟨r,hr,ha⟩:=bind_some ha
    split at ha
    ·rename_i hfr
     split at ha
     ·rename_i d hdd
      cases ha
      rw [dstOK,hdd] at hd
      have hdN:d < cfg.N:=by simpa using hd
      refine anew_does C h (news:=r.2) (av:=r.1) hr hfr _ _ (fun v w' σ' hv hS => ?_)
      rw [hdd]
      refine hK σ' _ _ ?_
      have hs:∀ k o',look k (yV r.2 s.heap) = some o'→look k (r.2 ++ s.heap) = some o':=fun k o' ho' => by rw [vR] at ho';exact ho'
      exact Sim.ins (hS.forget (fun _ _ h => h) hs) hdN (hv.sub hs)
     ·cases ha
    ·cases ha
 ·cases ha
end
end
section
def AC.frz (key k:Nat) (xs:List (List D)):AC→AC
 | .own q n => if q = key then .val (.sl k xs) else .own q n
 | .view q i n => if q = key then .val (.sl k ((xs.drop i).take n)) else .view q i n
 | x => x
def AV.frz (key k:Nat) (xs:List (List D)):AV→AV
 | .c x => .c (x.frz key k xs)
 | .eptr cs => .eptr cs
 | .optr q i j => if q = key then (match xs[i]? with|some row => .eptr (row.drop j)|none => .dead) else .optr q i j
 | .agg cs => .agg (cs.map (AC.frz key k xs))
 | .tup cs => .tup (cs.map (AC.frz key k xs))
 | .dead => .dead
def Obj.frz (key k:Nat) (xs:List (List D)):Obj→Obj
 | .row k' xs' d => .row k' xs' d
 | .lit k' css => .lit k' (css.map (·.map (AC.frz key k xs)))
 | .pin og c k' xs' => .pin og c k' xs'
def frzR (key k:Nat) (xs:List (List D)):List (Nat × AV)→List (Nat × AV)
 | [] => []
 | (i,v) :: l => (i,v.frz key k xs) :: frzR key k xs l
def frzH (key k:Nat) (xs:List (List D)):List (Nat × Obj)→List (Nat × Obj)
 | [] => []
 | (i,v) :: l => (i,v.frz key k xs) :: frzH key k xs l
def St.frz (key:Nat) (s:St):St :=
 match look key s.heap with
 | some (.row k xs _) => ⟨frzR key k xs s.regs,frzH key k xs (drop key s.heap)⟩
 | _ => s
section
variable {P:Program} {cfg:Cfg} {w0:W0} {w w':World} {Ok:Nat→Prop} {N:Nat} {σ σ':Asg} {s:St} {a:Act}
theorem look_frzR {key k:Nat} {xs:List (List D)} {r:Nat}:∀ {l:List (Nat × AV)},look r (frzR key k xs l) = (look r l).map (AV.frz key k xs)
 | [] => rfl
 | (i,x) :: l => by
  simp only [frzR,look]
  split
  ·rfl
  ·exact look_frzR
theorem look_frzH {key k:Nat} {xs:List (List D)} {r:Nat}:∀ {l:List (Nat × Obj)},look r (frzH key k xs l) = (look r l).map (Obj.frz key k xs)
 | [] => rfl
 | (i,x) :: l => by
  simp only [frzH,look]
  split
  ·rfl
  ·exact look_frzH
theorem Obj.frz_k {key k:Nat} {xs:List (List D)} {o:Obj}:(o.frz key k xs).k = o.k:=by cases o <;> rfl
theorem Obj.frz_len {key k:Nat} {xs:List (List D)} {o:Obj}:(o.frz key k xs).len = o.len:=by
 cases o with
 | row => rfl
 | lit k' css => show (css.map _).length = css.length;simp
 | pin => rfl
theorem Obj.frz_deep {key k:Nat} {xs:List (List D)} {o:Obj}:(o.frz key k xs).deep = o.deep:=by cases o <;> rfl
theorem fp_frz {key k q:Nat} {xs:List (List D)} {o:Obj}:fp σ q (o.frz key k xs) = fp σ q o:=by unfold fp;rw [Obj.frz_deep]
theorem Sim.frz (h:Sim w0 Ok N σ s a w) (key:Nat):Sim w0 Ok N σ (s.frz key) a w:=by
 unfold St.frz
 split
 ·rename_i k xs d hk
  obtain ⟨H',hH'⟩:∃ H',H' = frzH key k xs (drop key s.heap):=⟨_,rfl⟩
  rw [← hH']
  have hl:∀ q o',look q H' = some o'→q ≠ key∧∃ o,look q s.heap = some o∧o' = o.frz key k xs:=by
   intro q o' ho'
   rw [hH',look_frzH] at ho'
   obtain ⟨o,ho,rfl⟩:=map_some ho'
   rw [yU] at ho
   split at ho
   ·cases ho
   ·rename_i hq;exact ⟨hq,o,ho,rfl⟩
  have hZ:∀ b,Zn σ s.heap w b→Zn σ H' w b:=fun b hb => ⟨hb.1,hb.2.1,fun q o' ho' => by
   obtain ⟨_,o,ho,_⟩:=hl q o' ho'
   exact hb.2.2 q o ho⟩
  have hro:=h.rows key _ hk
  obtain ⟨ds,hrow,hkp,hrd⟩:=RowOK.rd h.ok1 h.rows h.disj hk
  have hg:∀ b,σ.g key = some b→Zn σ H' w b:=fun b hb => by
   have hrow':=hrow
   rw [hb] at hrow'
   refine ⟨hrow'.lt b rfl,h.ok1 b (hro.fresh b (qI hb)),fun q o' ho' e => ?_⟩
   obtain ⟨hq,o,ho,_⟩:=hl q o' ho'
   exact h.disj key _ q o hk ho (fun e => hq e.symm) b (qI hb) (qI e)
  have row:rdV (Zn σ H' w) w (slv (σ.g key) xs.length (σ.cap key)) (.sl k xs):=by
   obtain ⟨oa,c,e,h1,h2,h3,h4⟩:=wI hrow
   refine xQ.2 ⟨oa,c,ds,e,h1,h2,h3,hrd.mono (fun b hb _ => hZ b hb),?_⟩
   cases hgk:σ.g key with
   | none =>
    rw [hgk] at hrow
    left
    have:=hrow.len0
    exact List.eq_nil_of_length_eq_zero (by rw [hrow.1,this,Nat.zero_mul])
   | some g =>
    rw [hgk] at hrow h4
    refine .inr ⟨g,0,h4,hg g hgk,fun j u hj => ?_⟩
    rw [Nat.zero_add]
    exact hrow.cells j u hj
  have cell:∀ {x:AC} {v:Value},relAC σ s.heap w x v→relAC σ H' w (x.frz key k xs) v:=by
   intro x v hx
   cases x with
   | junk => exact hx
   | val dd => exact rdV.mono hx (fun b hb _ => hZ b hb)
   | nil => exact hx
   | own q n =>
    simp only [AC.frz]
    split
    ·rename_i e
     subst e
     obtain ⟨e1,e2⟩:=hx _ hk
     have e1:n = xs.length:=e1
     rw [e1] at e2
     rw [e2]
     exact row
    ·intro o' ho'
     obtain ⟨_,o,ho,rfl⟩:=hl q o' ho'
     rw [Obj.frz_len];exact hx o ho
   | view q i n =>
    simp only [AC.frz]
    split
    ·rename_i e
     subst e
     obtain ⟨e1,oa,c,rfl,h1,h2,h3,h4⟩:=hx _ hk
     have e1':i + n ≤ xs.length:=e1
     have hlen:((xs.drop i).take n).length = n:=by rw [List.length_take,List.length_drop];omega
     refine xQ.2 ⟨oa,c,(ds.drop (i * k)).take (n * k),by rw [hlen],by rw [hlen];exact h1,h2,h3,((hrd.drop i (by omega)).take n (by rw [List.length_drop];omega)).mono (fun b hb _ => hZ b hb),?_⟩
     rcases h4 with rfl|⟨g,hgk,rfl⟩
     ·left;simp
     ·rw [hgk] at hrow
      refine .inr ⟨g,i * k,rfl,hg g hgk,fun j u hj => ?_⟩
      rw [List.getElem?_take] at hj
      split at hj
      ·rw [List.getElem?_drop] at hj
       exact hrow.cells _ u hj
      ·cases hj
    ·intro o' ho'
     obtain ⟨_,o,ho,rfl⟩:=hl q o' ho'
     rw [Obj.frz_len,Obj.frz_k];exact hx o ho
  have cells:∀ {xs':List AC} {vs:List Value},relCs σ s.heap w xs' vs→relCs σ H' w (xs'.map (AC.frz key k xs)) vs:=by
   intro xs'
   induction xs' with
   | nil => intro vs h1;exact h1
   | cons x xs' ih => rintro vs ⟨v,us,e,h1,h2,h3⟩;exact ⟨v,us,e,h1,cell h2,ih h3⟩
  have lits:∀ {n:Nat} {css:List (List AC)} {vs:List Value},relRs σ s.heap w n css vs→relRs σ H' w n (css.map (·.map (AC.frz key k xs))) vs:=by
   intro n css
   induction css with
   | nil => intro vs h1;exact h1
   | cons x css ih => rintro vs ⟨c,d',e,h1,h2,h3⟩;exact ⟨c,d',e,h1,cells h2,ih h3⟩
  refine ⟨h.below,h.ok1,h.ok2,h.defers,h.size,fun r av hr => ?_,fun q o' ho' => ?_,fun p o' q u' hp hq hpq => ?_,w0.hd.law h.inv (fun b hb => ⟨hZ b hb,rfl⟩) (fun _ _ => rfl),h.hid⟩
  ·have hr':look r (frzR key k xs s.regs) = some av:=hr
   rw [look_frzR] at hr'
   obtain ⟨v,hv,rfl⟩:=map_some hr'
   have hrel:=h.regs r v hv
   cases v with
   | c x => exact ⟨hrel.1,cell hrel.2⟩
   | eptr cs =>
    obtain ⟨b,off,e,hb,hj⟩:=hrel
    exact ⟨b,off,e,hZ b hb,fun j hjl => let ⟨u,h1,h2⟩:=hj j hjl;⟨u,h1,h2.mono (fun b hb _ => hZ b hb)⟩⟩
   | optr q i j =>
    simp only [AV.frz]
    split
    ·rename_i e
     subst e
     obtain ⟨e1,b,hgk,e⟩:=hrel _ hk
     have hi:i < xs.length:=e1
     rw [List.getElem?_eq_getElem hi]
     obtain ⟨c,hc1,hc2,hc3,hc4⟩:=hrd.get i hi
     refine ⟨b,i * k + j,e,hg b hgk,fun p hp => ?_⟩
     rw [List.length_drop] at hp
     obtain ⟨x,hx1,hx2⟩:=hc1.get (j + p) (by omega)
     rw [hgk] at hrow
     refine ⟨x,by rw [Nat.add_assoc];exact hrow.cells _ _ (hc4 _ _ hx1),?_⟩
     have h2:=hx2.mono (A':=Zn σ H' w) (fun b hb _ => hZ b hb)
     simp only [List.getElem_drop]
     exact h2
    ·intro o' ho'
     obtain ⟨_,o,ho,rfl⟩:=hl q o' ho'
     rw [Obj.frz_len,Obj.frz_k];exact hrel o ho
   | agg cs => obtain ⟨us,e,h1⟩:=hrel;exact ⟨us,e,cells h1⟩
   | tup cs => obtain ⟨us,e,h1⟩:=hrel;exact ⟨us,e,cells h1⟩
   | dead => trivial
  ·obtain ⟨hq,o,ho,rfl⟩:=hl q o' ho'
   have h1:=h.rows q o ho
   obtain ⟨ds',r1,r2,r3⟩:=h1.row
   refine ⟨⟨ds',by rw [Obj.frz_len,Obj.frz_k];exact r1,by rw [Obj.frz_k];exact r2,?_⟩,by rw [fp_frz];exact h1.fresh,by rw [fp_frz];exact h1.nodup⟩
   cases o with
   | lit k' css => exact lits r3
   | pin og c k' xs' => exact ⟨r3.1,r3.2.1,r3.2.2.mono (fun b hb _ => hZ b hb)⟩
   | row k' xs' d' =>
    cases d' with
    | true => exact r3
    | false =>
     have r3':rdR k' (Zn σ s.heap w) w ds' xs':=r3
     exact r3'.mono (fun b hb _ => hZ b hb)
  ·obtain ⟨_,o,ho,rfl⟩:=hl p o' hp
   obtain ⟨_,u,hu,rfl⟩:=hl q u' hq
   rw [fp_frz,fp_frz]
   exact h.disj p o q u ho hu hpq
 ·exact h
def St.frzs:List Nat→St→St
 | [],s => s
 | k :: ks,s => St.frzs ks (s.frz k)
theorem Sim.frzs:∀ {ks:List Nat} {s:St},Sim w0 Ok N σ s a w→Sim w0 Ok N σ (s.frzs ks) a w
 | [],_,h => h
 | k :: ks,s,h => Sim.frzs (ks:=ks) (s:=s.frz k) (Sim.frz h k)
end
end
section
section
variable {P:Program} {cfg:Cfg} {M:Nat→Prop} {w0:W0} {w w':World} {Ok:Nat→Prop} {N:Nat} {σ σ':Asg} {s s':St} {a:Act}
def qW (P:Program) (cfg:Cfg) (M:Nat→Prop) (ops:Array Oper) (l:List Oper) (Q:St→Prop) (s:St):Prop :=
 ∀ w0 Ok σ a w (Q':Exit→Act→World→Prop),(w0.mine = M∧w0.hd = cfg.hd)→Sim w0 Ok cfg.N σ s a w→(∀ s',Q s'→After w0 Ok cfg.N s' (Q' .normal))→wpList P ops Q' l a w
def qA (P:Program) (cfg:Cfg) (M:Nat→Prop) (c:Code) (Q:Exit→St→Prop) (s:St):Prop :=
 ∀ w0 Ok σ a w (Q':Exit→Act→World→Prop),(w0.mine = M∧w0.hd = cfg.hd)→Sim w0 Ok cfg.N σ s a w→(∀ e s',Q e s'→After w0 Ok cfg.N s' (Q' e))→c.wp P Q' a w
theorem qW.nil {ops:Array Oper} {Q:St→Prop} (h:Q s):qW P cfg M ops [] Q s:=fun _ _ σ a w _ _ hS hQ => hQ s h σ a w hS
theorem qW.step (C:CfgOK P cfg) {ops:Array Oper} {o:Oper} {l:List Oper} {Q:St→Prop} (ha:astep cfg ops o s = some s') (h:qW P cfg M ops l Q s'):qW P cfg M ops (o :: l) Q s:=by
 intro w0 Ok σ a w Q' hM hS hQ
 refine wpList_step (fun K hK => ?_)
 exact astep_wp C hS ha (fun σ' a' w' hS' => hK _ _ (h w0 Ok σ' a' w' Q' hM hS' hQ))
def arun (cfg:Cfg) (ops:Array Oper):List Oper→St→St × List Oper
 | [],s => (s,[])
 | o :: l,s => match astep cfg ops o s with
  | some s' => arun cfg ops l s'
  | none => (s,o :: l)
theorem qW.run (C:CfgOK P cfg) {ops:Array Oper} {Q:St→Prop} {l l':List Oper}:∀ {s:St},arun cfg ops l s = (s',l')→qW P cfg M ops l' Q s'→qW P cfg M ops l Q s:=by
 induction l with
 | nil => intro s h h2;simp only [arun,Prod.mk.injEq] at h;obtain ⟨rfl,rfl⟩:=h;exact h2
 | cons o l ih =>
  intro s h h2
  simp only [arun] at h
  split at h
  ·rename_i s1 h1;exact qW.step C h1 (ih h h2)
  ·simp only [Prod.mk.injEq] at h;obtain ⟨rfl,rfl⟩:=h;exact h2
def acall (cfg:Cfg) (ops:Array Oper) (o:Oper) (s:St):Option (Nat × FuncId × List (List D) × Bool) :=
 if qN ops s.regs o = some true∧dstOK cfg o = true then
  match o.op,o.dst with
  | .call ⟨.value f,args,ts⟩,some d => (((opv s.regs f).bind avD).bind fnId).bind fun g => (aargs cfg (fun k => look k s.heap) s.regs args.toList ts.toList).map fun ds => (d,g,ds,(qM s.regs args.toList).isEmpty)
  | _,_ => none
 else none
def St.got (s:St) (d:Nat) (rs:List Res):St:=⟨insR d (outAV (qV d rs).1) s.regs,yV (qV d rs).2 s.heap⟩
theorem acall_wp (C:CfgOK P cfg) (hS:Sim w0 Ok cfg.N σ s a w) {ops:Array Oper} {o:Oper} {d:Nat} {g:FuncId} {ds:List (List D)} {nr:Bool} (ha:acall cfg ops o s = some (d,g,ds,nr))
  {Q0:List Res→Prop} (hf:AFn P g ds Q0) (hs:nr = true ∨ ∀ rs,Q0 rs→rs.all Res.scalar = true) (hfr:∀ rs,Q0 rs→∀ q ob,look q (qV d rs).2 = some ob→Free s q) {K:Act→World→Prop} {Q:Exit→Act→World→Prop}
  (h:∀ rs,Q0 rs→After w0 Ok cfg.N (s.got d rs) K):if Region.wanted o (yielded ops a.tmps) = true then o.wp P a w K Q else K (a.put o.dst undef) w:=by
 unfold acall at ha
 split at ha
 ·rename_i hc
  rw [xX hS hc.1]
  simp only [if_true]
  split at ha
  ·rename_i f args ts d' h1 h2
   obtain ⟨g',hg,ha⟩:=bind_some ha
   obtain ⟨ds',hd,e⟩:=map_some ha
   simp only [Prod.mk.injEq] at e
   obtain ⟨rfl,rfl,rfl,rfl⟩:=e
   have hdN:d' < cfg.N:=by have:=hc.2;rw [dstOK,h2] at this;simpa using this
   refine n_call C hS (key:=d') h1 hg hd hf (hs.imp (fun h => List.isEmpty_iff.1 h) id) hfr (fun rs hQ v w' σ' hv hS' => ?_)
   ·rw [h2]
    have hsub:∀ k o',look k (yV (qV d' rs).2 s.heap) = some o'→look k ((qV d' rs).2 ++ s.heap) = some o':=fun k o' ho' => by rw [vR] at ho';exact ho'
    exact h rs hQ σ' _ _ (Sim.ins (hS'.forget (fun _ _ h => h) hsub) hdN (hv.sub hsub))
  ·cases ha
 ·cases ha
theorem qW.call (C:CfgOK P cfg) {ops:Array Oper} {o:Oper} {l:List Oper} {Q:St→Prop} {d:Nat} {g:FuncId} {ds:List (List D)} {nr:Bool} (ha:acall cfg ops o s = some (d,g,ds,nr))
  {Q0:List Res→Prop} (hf:AFn P g ds Q0) (hs:nr = true ∨ ∀ rs,Q0 rs→rs.all Res.scalar = true) (hfr:∀ rs,Q0 rs→(qV d rs).2.all (fun p => fresh s p.1) = true)
  (h:∀ rs,Q0 rs→qW P cfg M ops l Q (s.got d rs)):qW P cfg M ops (o :: l) Q s:=by
 intro w0 Ok σ a w Q' hM hS hQ
 refine wpList_step (fun K hK => ?_)
 exact acall_wp C hS ha hf hs (fun rs hQ q ob hq => kV (List.all_eq_true.1 (hfr rs hQ) _ (yC hq))) (fun rs hr σ' a' w' hS' => hK _ _ (h rs hr w0 Ok σ' a' w' Q' hM hS' hQ))
theorem qW.call1 (C:CfgOK P cfg) {ops:Array Oper} {o:Oper} {l:List Oper} {Q:St→Prop} {d:Nat} {g:FuncId} {ds:List (List D)} {nr:Bool} (ha:acall cfg ops o s = some (d,g,ds,nr))
  {rs:List Res} (hf:AFn P g ds (· = rs)) (hs:nr = true ∨ rs.all Res.scalar = true) (hfr:(qV d rs).2.all (fun p => fresh s p.1) = true)
  (h:qW P cfg M ops l Q (s.got d rs)):qW P cfg M ops (o :: l) Q s :=
 qW.call C ha hf (hs.imp id (fun h r e => e ▸ h)) (fun r e => e ▸ hfr) (fun r e => e ▸ h)
def wk:Obj→Obj→Prop
 | .row k xs d,.row k' xs' d' => k' = k∧xs' = xs∧(d = true→d' = true)
 | .lit k css,.lit k' css' => k' = k∧css' = css
 | .pin og c k xs,.pin og' c' k' xs' => og' = og∧c' = c∧k' = k∧xs' = xs
 | _,_ => False
theorem wk.len {o o':Obj} (h:wk o o'):o'.len = o.len∧o'.k = o.k:=by
 cases o <;> cases o' <;> simp_all [wk,Obj.len,Obj.k]
theorem wk.fp {o o':Obj} (h:wk o o') {key b:Nat} (hb:b ∈ fp σ key o):b ∈ fp σ key o':=by
 unfold Go.Proofs.YtedgfkpfhonlpaaGreat.fp at hb ⊢
 cases o with
 | row k xs d => cases o' with
  | row k' xs' d' =>
   obtain ⟨_,_,h3⟩:=h
   cases d with
   | true => rw [show Obj.deep (.row k' xs' d') = true from h3 rfl];exact hb
   | false =>
    rcases List.mem_append.1 hb with hb|hb
    ·exact List.mem_append_left _ hb
    ·cases hb
  | lit k' css => exact h.elim
  | pin og' c' k' xs' => exact h.elim
 | lit k css => cases o' with
  | row k' xs' d' => exact h.elim
  | lit k' css' => exact hb
  | pin og' c' k' xs' => exact h.elim
 | pin og c k xs => cases o' with
  | row k' xs' d' => exact h.elim
  | lit k' css' => exact h.elim
  | pin og' c' k' xs' => exact hb
section
variable {H H':List (Nat × Obj)} {regs':List (Nat × AV)}
theorem Zn.weak (hs:∀ k o,look k H' = some o→∃ o',look k H = some o'∧wk o o') {b:Nat} (h:Zn σ H w b):Zn σ H' w b:=⟨h.1,h.2.1,fun q o hq => let ⟨o',h1,_⟩:=hs q o hq;h.2.2 q o' h1⟩
theorem relAC.weak (hs:∀ k o,look k H' = some o→∃ o',look k H = some o'∧wk o o') {x:AC} {v:Value} (h:relAC σ H w x v):relAC σ H' w x v:=by
 cases x with
 | junk => trivial
 | val d => exact rdV.mono h (fun b hb _ => Zn.weak hs hb)
 | nil => exact h
 | own key n => intro o ho;obtain ⟨o',h1,h2⟩:=hs _ _ ho;rw [← h2.len.1];exact h o' h1
 | view key i n => intro o ho;obtain ⟨o',h1,h2⟩:=hs _ _ ho;rw [← h2.len.1,← h2.len.2];exact h o' h1
theorem relCs.weak (hs:∀ k o,look k H' = some o→∃ o',look k H = some o'∧wk o o'):∀ {xs:List AC} {vs:List Value},relCs σ H w xs vs→relCs σ H' w xs vs
 | [],_,h => h
 | _ :: _,_,⟨v,us,e,h1,h2,h3⟩ => ⟨v,us,e,h1,h2.weak hs,relCs.weak hs h3⟩
theorem relRs.weak (hs:∀ k o,look k H' = some o→∃ o',look k H = some o'∧wk o o') {n:Nat}:∀ {xs:List (List AC)} {vs:List Value},relRs σ H w n xs vs→relRs σ H' w n xs vs
 | [],_,h => h
 | _ :: _,_,⟨v,us,e,h1,h2,h3⟩ => ⟨v,us,e,h1,h2.weak hs,relRs.weak hs h3⟩
theorem relAV.weak (hs:∀ k o,look k H' = some o→∃ o',look k H = some o'∧wk o o') {x:AV} {v:Value} (h:relAV σ H w x v):relAV σ H' w x v:=by
 cases x with
 | c x => exact ⟨h.1,h.2.weak hs⟩
 | eptr cs =>
  obtain ⟨b,off,e,hb,hj⟩:=h
  exact ⟨b,off,e,Zn.weak hs hb,fun j hjl => let ⟨u,h1,h2⟩:=hj j hjl;⟨u,h1,h2.mono (fun b hb _ => Zn.weak hs hb)⟩⟩
 | optr key i j => intro o ho;obtain ⟨o',h1,h2⟩:=hs _ _ ho;rw [← h2.len.1,← h2.len.2];exact h o' h1
 | agg cs => obtain ⟨us,e,h⟩:=h;exact ⟨us,e,h.weak hs⟩
 | tup cs => obtain ⟨us,e,h⟩:=h;exact ⟨us,e,h.weak hs⟩
 | dead => trivial
theorem Sim.weak (h:Sim w0 Ok N σ s a w) (hr:∀ r av,look r regs' = some av→look r s.regs = some av) (hs:∀ k o,look k H' = some o→∃ o',look k s.heap = some o'∧wk o o'):Sim w0 Ok N σ ⟨regs',H'⟩ a w:=by
 refine ⟨h.below,h.ok1,h.ok2,h.defers,h.size,fun r av h1 => (h.regs r av (hr r av h1)).weak hs,fun key o hk => ?_,fun p o q u hp hq hpq b hb hb' => ?_,w0.hd.law h.inv (fun b hb => ⟨Zn.weak hs hb,rfl⟩) (fun _ _ => rfl),h.hid⟩
 ·obtain ⟨o',ho',hw⟩:=hs key o hk
  have h1:=h.rows key o' ho'
  obtain ⟨ds,h2,h3,h4⟩:=h1.row
  refine ⟨⟨ds,by rw [← hw.len.1,← hw.len.2];exact h2,by rw [← hw.len.2];exact h3,?_⟩,fun b hb => h1.fresh b (hw.fp hb),?_⟩
  ·cases o with
   | lit k css => cases o' with
    | lit k' css' =>
     obtain ⟨rfl,rfl⟩:=hw
     exact relRs.weak hs h4
    | row k' xs' d' => exact hw.elim
    | pin og' c' k' xs' => exact hw.elim
   | pin og c k xs => cases o' with
    | lit k' css' => exact hw.elim
    | row k' xs' d' => exact hw.elim
    | pin og' c' k' xs' =>
     obtain ⟨rfl,rfl,rfl,rfl⟩:=hw
     exact ⟨h4.1,h4.2.1,h4.2.2.mono (fun b hb _ => Zn.weak hs hb)⟩
   | row k xs d => cases o' with
    | lit k' css' => exact hw.elim
    | pin og' c' k' xs' => exact hw.elim
    | row k' xs' d' =>
     obtain ⟨rfl,rfl,hd⟩:=hw
     cases d with
     | true =>
      obtain rfl:=hd rfl
      exact h4
     | false =>
      show rdR k' (Zn σ H' w) w ds xs'
      cases d' with
      | true =>
       have h4':ownR k' w ds xs' (σ.F key):=h4
       exact h4'.rd.mono (fun b hb _ => Zn.weak hs (RowOK.Fz h.ok1 h.rows h.disj ho' rfl b hb))
      | false =>
       have h4':rdR k' (Zn σ s.heap w) w ds xs':=h4
       exact h4'.mono (fun b hb _ => Zn.weak hs hb)
  ·have hn:=h1.nodup
   unfold Go.Proofs.YtedgfkpfhonlpaaGreat.fp at hn ⊢
   cases o with
   | lit k css => cases o' with
    | lit k' css' => exact hn
    | row k' xs' d' => exact hw.elim
    | pin og' c' k' xs' => exact hw.elim
   | pin og c k xs => cases o' with
    | lit k' css' => exact hw.elim
    | row k' xs' d' => exact hw.elim
    | pin og' c' k' xs' => exact hn
   | row k xs d => cases o' with
    | lit k' css' => exact hw.elim
    | pin og' c' k' xs' => exact hw.elim
    | row k' xs' d' =>
     obtain ⟨_,_,hd⟩:=hw
     cases d with
     | true => obtain rfl:=hd rfl;exact hn
     | false => exact (List.nodup_append.2 ⟨(List.nodup_append.1 hn).1,List.nodup_nil,fun _ _ _ h => nomatch h⟩)
 ·obtain ⟨o',ho',hw⟩:=hs p o hp
  obtain ⟨u',hu',hw'⟩:=hs q u hq
  exact h.disj p o' q u' ho' hu' hpq b (hw.fp hb) (hw'.fp hb')
end
def jG (s s0:St):Prop:=(∀ p ∈ s0.regs,look p.1 s.regs = some p.2)∧∀ p ∈ s0.heap,∃ o,look p.1 s.heap = some o∧wk p.2 o
theorem jG.sim {s0:St} (h:jG s s0) (hS:Sim w0 Ok N σ s a w):Sim w0 Ok N σ s0 a w :=
 hS.weak (fun r _ hr => h.1 _ (yC hr)) (fun r _ hr => h.2 _ (yC hr))
theorem After.fits {s0:St} {K:Act→World→Prop} (h:jG s s0) (k:After w0 Ok N s0 K):After w0 Ok N s K:=fun σ' a' w' hS => k σ' a' w' (h.sim hS)
theorem qA.fits {s0:St} {c:Code} {Q:Exit→St→Prop} (h:jG s s0) (k:qA P cfg M c Q s0):qA P cfg M c Q s :=
 fun w0 Ok σ a w Q' hM hS hQ => k w0 Ok σ a w Q' hM (h.sim hS) hQ
def St.keep (s:St) (rs:List Nat) (ks:List Nat):St:=⟨s.regs.filter (fun p => rs.contains p.1),s.heap.filter (fun p => ks.contains p.1)⟩
theorem yL0 {α:Type} {f:Nat→Bool} {r:Nat} {x:α}:∀ {l:List (Nat × α)},look r (l.filter (fun p => f p.1)) = some x→look r l = some x
 | [],h => nomatch h
 | (i,y) :: l,h => by
  by_cases hf:f i = true
  ·rw [List.filter_cons_of_pos (by exact hf)] at h
   simp only [look] at h ⊢
   split at h
   ·rename_i e;rw [if_pos e];exact h
   ·rename_i e;rw [if_neg e];exact yL0 h
  ·rw [List.filter_cons_of_neg (by simpa using hf)] at h
   simp only [look]
   split
   ·rename_i e
    subst e
    have:=yC h
    rw [List.mem_filter] at this
    exact absurd this.2 hf
   ·exact yL0 h
theorem qA.keep {c:Code} {Q:Exit→St→Prop} (rs ks:List Nat) (h:qA P cfg M c Q (s.keep rs ks)):qA P cfg M c Q s :=
 fun w0 Ok σ a w Q' hM hS hQ => h w0 Ok σ a w Q' hM (hS.forget (fun _ _ hr => yL0 hr) (fun _ _ hr => yL0 hr)) hQ
theorem qA.mono {c:Code} {Q Q1:Exit→St→Prop} (h:qA P cfg M c Q1 s) (hq:∀ e s',Q1 e s'→Q e s'):qA P cfg M c Q s :=
 fun w0 Ok σ a w Q' hM hS hQ => h w0 Ok σ a w Q' hM hS (fun e s' h1 => hQ e s' (hq e s' h1))
theorem qA.region {id:Nat} {ops:Array Oper} {Q:Exit→St→Prop} (h:qW P cfg M ops ops.toList (Q .normal) s):qA P cfg M (.region id ops false) Q s :=
 fun w0 Ok σ a w Q' hM hS hQ => wp_region_list (h w0 Ok σ a w Q' hM hS (fun s' h1 => hQ .normal s' h1))
theorem qA.seq {x y:Code} {Q:Exit→St→Prop} (h:qA P cfg M x (fun e s' => match e with|.normal => qA P cfg M y Q s'|e => Q e s') s):qA P cfg M (.seq x y) Q s:=by
 intro w0 Ok σ a w Q' hM hS hQ
 refine wp_seq (h w0 Ok σ a w _ hM hS (fun e s' h1 σ' a' w' hS' => ?_))
 cases e with
 | normal => exact h1 w0 Ok σ' a' w' Q' hM hS' hQ
 | _ => exact hQ _ s' h1 σ' a' w' hS'
theorem qA.cond {c:Operand} {x y:Code} {Q:Exit→St→Prop} {t:Bool} (hc:(opv s.regs c).bind avB = some t) (ht:t = true→qA P cfg M x Q s) (hf:t = false→qA P cfg M y Q s):qA P cfg M (.cond c x y) Q s:=by
 intro w0 Ok σ a w Q' hM hS hQ
 obtain ⟨v,h1,h2⟩:=bind_some hc
 exact wp_cond_split (avB_rel h2 (qP hS h1)) (fun e => ht e w0 Ok σ a w Q' hM hS hQ) (fun e => hf e w0 Ok σ a w Q' hM hS hQ)
theorem qA.block {id:Nat} {c:Code} {Q:Exit→St→Prop} (h:qA P cfg M c (fun e s' => match e with|.exit id' => if id' = id then Q .normal s' else Q (.exit id') s'|e => Q e s') s):qA P cfg M (.block id c) Q s:=by
 intro w0 Ok σ a w Q' hM hS hQ
 refine wp_block (h w0 Ok σ a w _ hM hS (fun e s' h1 σ' a' w' hS' => ?_))
 cases e with
 | exit id' =>
  simp only [Exit.inBlock] at h1 ⊢
  by_cases hid:id' = id
  ·rw [if_pos hid] at h1 ⊢;exact hQ _ s' h1 σ' a' w' hS'
  ·rw [if_neg hid] at h1 ⊢;exact hQ _ s' h1 σ' a' w' hS'
 | _ => exact hQ _ s' h1 σ' a' w' hS'
theorem qA.exit {id:Nat} {Q:Exit→St→Prop} (h:Q (.exit id) s):qA P cfg M (.exit id) Q s:=fun _ _ σ a w _ _ hS hQ => wp_exit (hQ _ s h σ a w hS)
theorem qA.ret {Q:Exit→St→Prop} (h:Q .ret s):qA P cfg M .ret Q s:=fun _ _ σ a w _ _ hS hQ => wp_ret (hQ _ s h σ a w hS)
theorem qA.skip {Q:Exit→St→Prop} (h:Q .normal s):qA P cfg M .skip Q s:=fun _ _ σ a w _ _ hS hQ => wp_skip (hQ _ s h σ a w hS)
theorem qA.label {l:Nat} {Q:Exit→St→Prop} (h:Q .normal s):qA P cfg M (.label l) Q s:=fun _ _ σ a w _ _ hS hQ => wp_label (hQ _ s h σ a w hS)
theorem least {p:Nat→Prop} (h:∃ n,p n):∃ n,p n∧∀ m,p m→n ≤ m:=by
 obtain ⟨n,hn⟩:=h
 induction n using Nat.strongRecOn with
 | _ n ih =>
  by_cases hm:∃ m,m < n∧p m
  ·obtain ⟨m,h1,h2⟩:=hm
   exact ih m h1 h2
  ·exact ⟨n,hn,fun m hm' => Nat.le_of_not_lt (fun h => hm ⟨m,h,hm'⟩)⟩
theorem qA.loop {β:Type} (S:β→St) (I:β→Prop) (μ:β→Nat) (x0:β) {c:Code} {Q:Exit→St→Prop} (h0:I x0) (hs:jG s (S x0))
  (round:∀ x,I x→qA P cfg M c (fun e s' => match e with|.normal => ∃ y,I y∧μ y < μ x∧jG s' (S y)|e => Q e s') (S x)):qA P cfg M (.loop c) Q s:=by
 intro w0 Ok σ a w Q' hM hS hQ
 let J:Nat→Act→World→Prop:=fun n a w => ∃ x σ,I x∧μ x = n∧Sim w0 Ok cfg.N σ (S x) a w
 have hJ0:J (μ x0) a w:=⟨x0,σ,h0,rfl,hs.sim hS⟩
 classical
 let m:Act→World→Nat:=fun a w => if h:∃ n,J n a w then Classical.choose (least h) else 0
 have hm:∀ {n a w},J n a w→J (m a w) a w∧m a w ≤ n:=by
  intro n a w h
  have he:∃ n,J n a w:=⟨n,h⟩
  have e:m a w = Classical.choose (least he):=dif_pos he
  rw [e]
  exact ⟨(Classical.choose_spec (least he)).1,(Classical.choose_spec (least he)).2 n h⟩
 refine wp_loop (fun a w => ∃ n,J n a w) m ⟨_,hJ0⟩ (fun a w ⟨n,hn⟩ => ?_)
 obtain ⟨⟨x,σ1,hI,hmu,hS1⟩,_⟩:=hm hn
 refine round x hI w0 Ok σ1 a w _ hM hS1 (fun e s' h1 σ' a' w' hS' => ?_)
 cases e with
 | normal =>
  obtain ⟨y,hy1,hy2,hy3⟩:=h1
  have hJ:J (μ y) a' w':=⟨y,σ',hy1,rfl,hy3.sim hS'⟩
  refine ⟨⟨_,hJ⟩,?_⟩
  have:=(hm hJ).2
  omega
 | _ => exact hQ _ s' h1 σ' a' w' hS'
def qT:List D→AV
 | [d] => .c (.val d)
 | ds => .agg (ds.map .val)
def qU:Nat→List (List D)→List (Nat × AV)
 | _,[] => []
 | i,d :: ds => (i,qT d) :: qU (i + 1) ds
def ares (h:Nat→Option Obj) (z:List D):AV→Option (Res × List Nat)
 | .c (.val d) => some (.val d,[])
 | .c .nil => match z with
  | [.sl k _] => some (.own k [] true,[])
  | _ => none
 | .c (.own key _) => match h key with
  | some (.row k xs d) => some (.own k xs d,[key])
  | _ => none
 | _ => none
def jI (cfg:Cfg) (s:St):List ResultVar→List TypeId→Option (List Res × List Nat)
 | [],[] => some ([],[])
 | .tmp t :: rs,ty :: ts => (cfg.ty ty).bind fun z => (look t s.regs).bind fun v => (ares (fun k => look k s.heap) z.1 v).bind fun r => (jI cfg s rs ts).map fun q => (r.1 :: q.1,r.2 ++ q.2)
 | _,_ => none
theorem start_sim {A:Nat→Prop} {N:Nat} {ds:List (List D)} {vs:List Value} {n:Nat} (hv:jX A w ds vs) (hn:vs.length + n = N) :
  Sim ⟨w,fun _ => False⟩ A N ⟨fun _ => none,fun _ => 0,fun _ => [],fun b => A b ∨ w.heap.size ≤ b⟩ ⟨qU 0 ds,[]⟩ { tmps:=vs.toArray ++ Array.replicate n undef,defers:=[] } w:=by
 refine ⟨Bel.refl _,fun b hb => .inr (hb.resolve_right (fun h => h)),fun b hb => hb.imp id .inl,rfl,by simpa using hn,fun r av hr => ?_,(fun key o hk => nomatch hk),(fun p o q u hp => nomatch hp),trivial,(fun b hb => hb.elim)⟩
 have key:∀ {ds:List (List D)} {vs pre:List Value} {r:Nat} {av:AV},jX A w ds vs→look r (qU pre.length ds) = some av →
   relAV ⟨fun _ => none,fun _ => 0,fun _ => [],fun b => A b ∨ w.heap.size ≤ b⟩ [] w av ((((pre ++ vs).toArray ++ Array.replicate n undef:Array Value)).getD r undef):=by
  intro ds
  induction ds with
  | nil => intro vs pre r av _ h;cases h
  | cons d ds ih =>
   rintro vs pre r av ⟨v,us,rfl,h1,h2⟩ h
   simp only [qU,look] at h
   split at h
   ·rename_i e
    cases h
    subst e
    have hg:(((pre ++ v :: us).toArray ++ Array.replicate n undef:Array Value)).getD pre.length undef = v:=by
     simp [Array.getElem?_append]
    rw [hg]
    have mono:∀ b,A b→b < w.heap.size→Zn ⟨fun _ => none,fun _ => 0,fun _ => [],fun b => A b ∨ w.heap.size ≤ b⟩ [] w b:=fun b hb hlt => ⟨hlt,.inl hb,(fun q o hq => nomatch hq)⟩
    have cells:∀ {x:List D} {us:List Value},rdCs A w us x→relCs ⟨fun _ => none,fun _ => 0,fun _ => [],fun b => A b ∨ w.heap.size ≤ b⟩ [] w (x.map .val) us:=by
     intro x
     induction x with
     | nil => intro us h;exact List.eq_nil_of_length_eq_zero (by rw [h.len];rfl)
     | cons y x ih =>
      intro us h
      obtain ⟨dd,c,e,rfl,h3,h4⟩:=h
      have hl:=(RC dd).rd_len h3
      rw [RC_k] at hl
      match c,hl with
      | [u],_ =>
       have h5:rdV A w u y:=⟨dd,h3⟩
       exact ⟨u,e,rfl,h5.one,h5.mono mono,ih ⟨dd,h4⟩⟩
    match d,h1 with
    | [],⟨us',e,h3⟩ => exact ⟨us',e,cells h3⟩
    | [d],h1 => exact ⟨rdV.one h1,rdV.mono h1 mono⟩
    | x :: y :: d,⟨us',e,h3⟩ => exact ⟨us',e,cells h3⟩
   ·have:=ih (vs:=us) (pre:=pre ++ [v]) (r:=r) (av:=av) h2 (by rw [List.length_append];exact h)
    rwa [List.append_assoc] at this
 exact key (pre:=[]) hv hr
theorem xN0 (C:CfgOK P cfg) {A:Nat→Prop} (h:Sim w0 A N σ s a w):∀ {rvs:List ResultVar} {ts:List TypeId} {rs:List Res} {ks:List Nat},jI cfg s rvs ts = some (rs,ks)→ks.Nodup →
  ∃ us G X,rvs.map (fun rv => match rv with|.tmp t => a.tmps.getD t undef|.cell _ _ => undef) = us∧(∀ rv ∈ rvs,∃ t,rv = .tmp t)∧G.Nodup∧(∀ b ∈ G,w0.mine b∧∃ k ∈ ks,∃ o,look k s.heap = some o∧b ∈ fp σ k o) ∧
   (∀ b ∈ X,∃ k ∈ ks,σ.g k = some b)∧∀ Y,(∀ b ∈ Y,∃ q o,look q s.heap = some o∧σ.g q = some b)→yO A w0.mine w Y rs us G X
 | [],[],rs,ks,ha,_ => by
  simp only [jI,Option.some.injEq,Prod.mk.injEq] at ha
  obtain ⟨rfl,rfl⟩:=ha
  exact ⟨[],[],[],rfl,by simp,List.nodup_nil,by simp,by simp,fun _ _ => ⟨rfl,rfl,rfl⟩⟩
 | [],_ :: _,_,_,ha,_ => by simp [jI] at ha
 | .tmp t :: rvs,[],_,_,ha,_ => by simp [jI] at ha
 | .cell _ _ :: rvs,ts,_,_,ha,_ => by simp [jI] at ha
 | .tmp t :: rvs,ty :: ts,rs,ks,ha,hn => by
  simp only [jI] at ha
  obtain ⟨⟨z,st⟩,hz,ha⟩:=bind_some ha
  obtain ⟨v,hv,ha⟩:=bind_some ha
  obtain ⟨r,hr,ha⟩:=bind_some ha
  obtain ⟨q,hq,e⟩:=map_some ha
  simp only [Prod.mk.injEq] at e
  obtain ⟨rfl,rfl⟩:=e
  have hn':=List.nodup_append.1 hn
  obtain ⟨us,G,X,k1,k2,k3,k4,k5,k6⟩:=xN0 C h (rs:=q.1) (ks:=q.2) hq hn'.2.1
  have hrel:=h.regs t v hv
  have hrel':relAV σ s.heap w v (a.tmps.getD t undef):=hrel
  obtain ⟨u,hu⟩:∃ u,u = a.tmps.getD t undef:=⟨_,rfl⟩
  rw [← hu] at hrel'
  obtain ⟨zv,ti,dd,_,_,_,⟨_,hzz⟩,_⟩:=C.ty ty z st hz
  obtain ⟨G1,X1,hone,g1,g2,g3,g4⟩:∃ G1 X1,u.oneCell' = true∧G1.Nodup∧(∀ b ∈ G1,w0.mine b∧∃ k ∈ r.2,∃ o,look k s.heap = some o∧b ∈ fp σ k o)∧(∀ b ∈ X1,∃ k ∈ r.2,σ.g k = some b) ∧
    ∀ Y,(∀ b ∈ Y,∃ q o,look q s.heap = some o∧σ.g q = some b)→relR A w0.mine w Y r.1 u G1 X1:=by
   unfold ares at hr
   split at hr
   ·rename_i d
    cases hr
    refine ⟨[],[],hrel'.1,List.nodup_nil,by simp,by simp,fun Y hY => ⟨rdV.mono hrel'.2 (fun b hb _ => ⟨h.ok2 b hb.2.1,fun hm => ?_⟩),rfl,rfl⟩⟩
    obtain ⟨q',o,h1,h2⟩:=hY b hm
    exact hb.2.2 q' o h1 h2
   ·split at hr
    ·rename_i k yy ez
     cases hr
     have e:u = .slice none 0 0:=hrel'.2
     have ez:z = [.sl k yy]:=ez
     rw [ez] at hzz
     simp only [List.all_cons,List.all_nil,Bool.and_true,jM,Bool.and_eq_true,decide_eq_true_eq] at hzz
     subst e
     exact ⟨[],[],rfl,List.nodup_nil,by simp,by simp,fun Y _ => ⟨none,0,[],[],rfl,Row.nil w k,hzz.1,rfl,rfl,ownR.nil hzz.1⟩⟩
    ·cases hr
   ·rename_i key n
    split at hr
    ·rename_i k xs d hk
     cases hr
     obtain ⟨e1,e2⟩:=hrel'.2 _ hk
     have e1:n = xs.length:=e1
     have hRO:=h.rows key _ hk
     obtain ⟨ds,hrow,hkp,hel⟩:=hRO.row
     have hrow:Row w (slv (σ.g key) xs.length (σ.cap key)) k xs.length ds (σ.g key):=hrow
     have hfp:fp σ key (.row k xs d) = (σ.g key).toList ++ (if d then σ.F key else []):=rfl
     refine ⟨fp σ key (.row k xs d),(σ.g key).toList,hrel'.1,hRO.nodup,fun b hb => ⟨hRO.fresh b hb,key,by simp,_,hk,hb⟩,fun b hb => ⟨key,by simp,by simpa using hb⟩,fun Y hY => ?_⟩
     refine ⟨σ.g key,σ.cap key,σ.F key,ds,by rw [e2,e1],by rw [e2,e1];exact hrow,hkp,hfp,rfl,?_⟩
     cases d with
     | true => rw [if_pos rfl];exact hel
     | false =>
      rw [if_neg (by decide)]
      have hel':rdR k (Zn σ s.heap w) w ds xs:=hel
      refine hel'.mono (fun b hb _ => ⟨h.ok2 b hb.2.1,fun hm => ?_⟩)
      obtain ⟨q',o,h1,h2⟩:=hY b hm
      exact hb.2.2 q' o h1 h2
    ·cases hr
   ·cases hr
  refine ⟨u :: us,G1 ++ G,X1 ++ X,by rw [List.map_cons,k1,hu],fun rv hrv => ?_,?_,fun b hb => ?_,fun b hb => ?_,fun Y hY => ⟨u,us,G1,G,X1,X,rfl,rfl,rfl,hone,g4 Y hY,k6 Y hY⟩⟩
  ·rcases List.mem_cons.1 hrv with rfl|hrv
   ·exact ⟨t,rfl⟩
   ·exact k2 rv hrv
  ·refine List.nodup_append.2 ⟨g1,k3,fun b hb c hc e => ?_⟩
   subst e
   obtain ⟨_,k,hk,o,ho,hb'⟩:=g2 b hb
   obtain ⟨_,k',hk',o',ho',hc'⟩:=k4 b hc
   exact h.disj k o k' o' ho ho' (hn'.2.2 k hk k' hk') b hb' hc'
  ·rcases List.mem_append.1 hb with hb|hb
   ·obtain ⟨h1,k,hk,h2⟩:=g2 b hb
    exact ⟨h1,k,List.mem_append_left _ hk,h2⟩
   ·obtain ⟨h1,k,hk,h2⟩:=k4 b hb
    exact ⟨h1,k,List.mem_append_right _ hk,h2⟩
  ·rcases List.mem_append.1 hb with hb|hb
   ·obtain ⟨k,hk,h2⟩:=g3 b hb
    exact ⟨k,List.mem_append_left _ hk,h2⟩
   ·obtain ⟨k,hk,h2⟩:=k5 b hb
    exact ⟨k,List.mem_append_right _ hk,h2⟩
theorem look_of {k:Nat} {b:Nat} (h:Sim w0 Ok N σ s a w) (hk:∃ o,look k s.heap = some o) (hg:σ.g k = some b):∃ q o,look q s.heap = some o∧σ.g q = some b:=let ⟨o,ho⟩:=hk;⟨k,o,ho,hg⟩
theorem yI0 {s:St}:∀ {rvs:List ResultVar} {ts:List TypeId} {rs:List Res} {ks:List Nat},jI cfg s rvs ts = some (rs,ks)→∀ k ∈ ks,∃ o,look k s.heap = some o
 | [],[],rs,ks,ha,k,hk => by
  simp only [jI,Option.some.injEq,Prod.mk.injEq] at ha
  obtain ⟨_,rfl⟩:=ha
  cases hk
 | [],_ :: _,_,_,ha,_,_ => by simp [jI] at ha
 | .tmp t :: rvs,[],_,_,ha,_,_ => by simp [jI] at ha
 | .cell _ _ :: rvs,ts,_,_,ha,_,_ => by simp [jI] at ha
 | .tmp t :: rvs,ty :: ts,rs,ks,ha,k,hk => by
  simp only [jI] at ha
  obtain ⟨z,hz,ha⟩:=bind_some ha
  obtain ⟨v,hv,ha⟩:=bind_some ha
  obtain ⟨r,hr,ha⟩:=bind_some ha
  obtain ⟨q,hq,e⟩:=map_some ha
  simp only [Prod.mk.injEq] at e
  obtain ⟨rfl,rfl⟩:=e
  rcases List.mem_append.1 hk with hk|hk
  ·unfold ares at hr
   split at hr
   ·cases hr;cases hk
   ·split at hr
    ·cases hr;cases hk
    ·cases hr
   ·split at hr
    ·rename_i h1
     cases hr
     rw [List.mem_singleton] at hk
     subst hk
     exact ⟨_,h1⟩
    ·cases hr
   ·cases hr
  ·exact yI0 (rs:=q.1) (ks:=q.2) hq k hk
end
end
section
def TagC:List D→List D→List Nat→Prop
 | [],x',F => x' = []∧F = []
 | x :: xs,x',F => ∃ y ys G H,x' = y :: ys∧F = G ++ H∧(y = .tag G x ∨ (isSl x = false∧y = x∧G = []))∧TagC xs ys H
def TagL:List (List D)→List (List D)→List Nat→Prop
 | [],x',F => x' = []∧F = []
 | x :: xs,x',F => ∃ y ys G H,x' = y :: ys∧F = G ++ H∧TagC x y G∧TagL xs ys H
section
variable {A:Nat→Prop} {w:World}
theorem ownV_nil {v:Value} {x:D} (hx:isSl x = false) (h:rdV A w v x):ownV w v x []:=by
 obtain ⟨d,h⟩:=h
 cases x with
 | sl k xs => cases hx
 | tag F y => cases hx
 | int n => cases d <;> exact ⟨0,h,rfl⟩
 | bool n => cases d <;> exact ⟨0,h,rfl⟩
 | raw n => cases d <;> exact ⟨0,h,rfl⟩
theorem ownV_scal_nil {v:Value} {x:D} {F:List Nat} (hx:isSl x = false) (h:ownV w v x F):F = []:=by
 obtain ⟨d,h⟩:=h
 cases x with
 | sl k xs => cases hx
 | tag F y => cases hx
 | int n => cases d <;> exact h.2
 | bool n => cases d <;> exact h.2
 | raw n => cases d <;> exact h.2
theorem ownCs.cons_inv {cs:List Value} {x:D} {xs:List D} {F:List Nat} (h:ownCs w cs (x :: xs) F):∃ v us G H,cs = v :: us∧F = G ++ H∧ownV w v x G∧ownCs w us xs H:=by
 obtain ⟨d,c,us,G,H,e,e',h1,h2⟩:=h
 have hl:=(RC d).rd_len ((RC d).own_rd h1)
 rw [RC_k] at hl
 match c,hl with
 | [v],_ => exact ⟨v,us,G,H,e,e',⟨d,h1⟩,⟨d,h2⟩⟩
theorem rdCs.cons_inv {cs:List Value} {x:D} {xs:List D} (h:rdCs A w cs (x :: xs)):∃ v us,cs = v :: us∧rdV A w v x∧rdCs A w us xs:=by
 obtain ⟨d,c,us,e,h1,h2⟩:=h
 have hl:=(RC d).rd_len h1
 rw [RC_k] at hl
 match c,hl with
 | [v],_ => exact ⟨v,us,e,⟨d,h1⟩,⟨d,h2⟩⟩
theorem tagC_own:∀ {x x':List D} {cs:List Value} {F:List Nat},TagC x x' F→rdCs A w cs x'→ownCs w cs x F
 | [],x',cs,F,⟨h1,h2⟩,h => by
  subst h1;subst h2
  have:=h.len
  rw [List.length_nil] at this
  rw [List.eq_nil_of_length_eq_zero this]
  exact ownCs.nil
 | x :: xs,x',cs,F,⟨y,ys,G,H,h1,h2,h3,h4⟩,h => by
  subst h1;subst h2
  obtain ⟨v,us,rfl,k1,k2⟩:=h.cons_inv
  refine ownCs.cons ?_ (tagC_own h4 k2)
  rcases h3 with rfl|⟨hx,rfl,rfl⟩
  ·exact (kW.1 k1).2
  ·exact ownV_nil hx k1
theorem TagC.len:∀ {x x':List D} {F:List Nat},TagC x x' F→x'.length = x.length
 | [],_,_,⟨h,_⟩ => by rw [h]
 | _ :: xs,_,_,⟨_,_,_,_,h,_,_,h4⟩ => by rw [h,List.length_cons,List.length_cons,TagC.len h4]
theorem TagL.len:∀ {x x':List (List D)} {F:List Nat},TagL x x' F→x'.length = x.length
 | [],_,_,⟨h,_⟩ => by rw [h]
 | _ :: xs,_,_,⟨_,_,_,_,h,_,_,h4⟩ => by rw [h,List.length_cons,List.length_cons,TagL.len h4]
theorem ownR.cons_inv {k:Nat} {ds:List Value} {x:List D} {xs:List (List D)} {F:List Nat} (h:ownR k w ds (x :: xs) F):∃ c e G H,ds = c ++ e∧F = G ++ H∧x.length = k∧c.length = k∧ownCs w c x G∧ownR k w e xs H:=by
 obtain ⟨d,hk,c,e,G,H,e1,e2,⟨h1,h2,h3⟩,h4⟩:=h
 exact ⟨c,e,G,H,e1,e2,h2,h1,⟨d,h3⟩,⟨d,hk,h4⟩⟩
theorem rdR.cons_inv {k:Nat} {ds:List Value} {x:List D} {xs:List (List D)} (h:rdR k A w ds (x :: xs)):∃ c e,ds = c ++ e∧x.length = k∧c.length = k∧rdCs A w c x∧rdR k A w e xs:=by
 obtain ⟨d,hk,c,e,e1,⟨h1,h2,h3⟩,h4⟩:=h
 exact ⟨c,e,e1,h2,h1,⟨d,h3⟩,⟨d,hk,h4⟩⟩
theorem tagL_own {k:Nat} (hk:0 < k):∀ {xs xs':List (List D)} {ds:List Value} {F:List Nat},TagL xs xs' F→rdR k A w ds xs'→ownR k w ds xs F
 | [],xs',ds,F,⟨h1,h2⟩,h => by
  subst h1;subst h2
  have:=h.len
  rw [List.length_nil,Nat.zero_mul] at this
  rw [List.eq_nil_of_length_eq_zero this]
  exact ownR.nil hk
 | x :: xs,xs',ds,F,⟨y,ys,G,H,h1,h2,h3,h4⟩,h => by
  subst h1;subst h2
  obtain ⟨c,e,rfl,hy,hc,k1,k2⟩:=h.cons_inv
  exact (ownR.single hk (by rw [← h3.len,hy]) (tagC_own h3 k1)).append (tagL_own hk h4 k2)
theorem tagC_sub:∀ {x x':List D} {cs:List Value} {F:List Nat},TagC x x' F→rdCs A w cs x'→∀ b ∈ F,A b
 | [],_,_,_,⟨_,h2⟩,_,b,hb => by rw [h2] at hb;cases hb
 | x :: xs,x',cs,F,⟨y,ys,G,H,h1,h2,h3,h4⟩,h,b,hb => by
  subst h1;subst h2
  obtain ⟨v,us,rfl,k1,k2⟩:=h.cons_inv
  rcases List.mem_append.1 hb with hb|hb
  ·rcases h3 with rfl|⟨_,_,rfl⟩
   ·exact (kW.1 k1).1 b hb
   ·cases hb
  ·exact tagC_sub h4 k2 b hb
theorem tagL_sub {k:Nat}:∀ {xs xs':List (List D)} {ds:List Value} {F:List Nat},TagL xs xs' F→rdR k A w ds xs'→∀ b ∈ F,A b
 | [],_,_,_,⟨_,h2⟩,_,b,hb => by rw [h2] at hb;cases hb
 | x :: xs,x',ds,F,⟨y,ys,G,H,h1,h2,h3,h4⟩,h,b,hb => by
  subst h1;subst h2
  obtain ⟨c,e,rfl,hy,hc,k1,k2⟩:=h.cons_inv
  rcases List.mem_append.1 hb with hb|hb
  ·exact tagC_sub h3 k1 b hb
  ·exact tagL_sub h4 k2 b hb
end
section
variable {w0:W0} {w w':World} {Ok:Nat→Prop} {N:Nat} {σ σ':Asg} {s:St} {a:Act}
end
end
section
def Un1 (M:Nat→Prop) (r r':Res):Prop :=
 ∃ F,F.Nodup∧(∀ b ∈ F,M b)∧((∃ k xs xs',r = .own k xs' false∧r' = .own k xs true∧TagL xs xs' F) ∨ ∃ k xs,r = .val (.tag F (.sl k xs))∧r' = .own k xs true)
def UnT (M:Nat→Prop) (rs rs':List Res):Prop :=
 rs = rs' ∨ ∃ r r' l,rs = r :: l∧rs' = r' :: l∧(∀ x ∈ l,∃ d,x = .val d∧isSl d = false)∧Un1 M r r'
def Ends (cfg:Cfg) (M:Nat→Prop) (fn:Func) (Q0:List Res→Prop) (e:Exit) (s:St):Prop :=
 (e = .normal ∨ e = .ret)∧∃ rs ks rs',jI cfg s fn.results.toList fn.resultTypes.toList = some (rs,ks)∧ks.Nodup∧UnT M rs rs'∧Q0 rs'
section
variable {P:Program} {cfg:Cfg} {M:Nat→Prop} {w0:W0} {w w':World} {Ok:Nat→Prop} {N:Nat} {σ σ':Asg} {s s':St} {a:Act}
theorem yO.scal {A:Nat→Prop} {X:List Nat}:∀ {l:List Res} {us:List Value} {G Y:List Nat},(∀ x ∈ l,∃ d,x = .val d∧isSl d = false)→yO A M w X l us G Y→G = []∧Y = []∧∀ X',yO A M w X' l us [] []
 | [],_,_,_,_,⟨h1,h2,h3⟩ => ⟨h2,h3,fun _ => ⟨h1,rfl,rfl⟩⟩
 | x :: l,us,G,Y,hs,⟨v,us',G1,G2,Y1,Y2,e1,e2,e3,ho,h1,h2⟩ => by
  obtain ⟨d,rfl,hd⟩:=hs x (by simp)
  obtain ⟨k1,k2,k3⟩:=h1
  obtain ⟨l1,l2,l3⟩:=yO.scal (fun x hx => hs x (by simp [hx])) h2
  subst k2;subst k3;subst l1;subst l2
  refine ⟨e2,e3,fun X' => ⟨v,us',[],[],[],[],e1,rfl,rfl,ho,⟨?_,rfl,rfl⟩,l3 X'⟩⟩
  exact rdV_scal k1 hd
theorem kL.un {A:Nat→Prop} {rs rs':List Res} {us:List Value} {G X:List Nat} (hu:UnT M rs rs') (hG:G.Nodup) (hGM:∀ b ∈ G,M b) (hX:∀ b ∈ X,M b) (h:yO A M w X rs us G X):∃ G' X',G'.Nodup∧(∀ b ∈ G',M b)∧yO A M w X' rs' us G' X':=by
 rcases hu with rfl|⟨r,r',l,rfl,rfl,hl,F,hF,hFM,hu⟩
 ·exact ⟨G,X,hG,hGM,h⟩
 ·obtain ⟨v,us',G1,G2,Y1,Y2,e1,e2,e3,ho,h1,h2⟩:=h
  obtain ⟨l1,l2,l3⟩:=yO.scal hl h2
  subst l1;subst l2
  rw [List.append_nil] at e2 e3
  subst e2;subst e3
  rcases hu with ⟨k,xs,xs',rfl,rfl,ht⟩|⟨k,xs,rfl,rfl⟩
  ·obtain ⟨og,cap,F0,ds,hv,hrow,hk,hG0,hY,hel⟩:=h1
   have hel:rdR k (fun b => (A b ∨ M b)∧b ∉ X) w ds xs':=hel
   have hG0:G = og.toList ++ []:=hG0
   rw [List.append_nil] at hG0
   refine ⟨og.toList ++ F,og.toList,?_,?_,v,us',og.toList ++ F,[],og.toList,[],e1,by simp,by simp,ho,⟨og,cap,F,ds,by rw [← ht.len];exact hv,by rw [← ht.len];exact hrow,hk,rfl,rfl,tagL_own hk ht hel⟩,l3 _⟩
   ·refine List.nodup_append.2 ⟨by rw [← hG0];exact hG,hF,fun b hb c hc e => ?_⟩
    subst e
    have:=(tagL_sub ht hel b hc).2
    rw [hY] at this
    exact this hb
   ·intro b hb
    rcases List.mem_append.1 hb with hb|hb
    ·exact hGM b (by rw [hG0];exact hb)
    ·exact hFM b hb
  ·obtain ⟨h1,rfl,rfl⟩:=h1
   obtain ⟨_,h2⟩:=kW.1 h1
   obtain ⟨og,ds,G',hrow,hel,rfl⟩:=kS.1 h2
   obtain ⟨oa,c,ev,k1,k2,k3,k4⟩:=hrow.value
   have hv':v = slv og xs.length c:=by
    cases og with
    | none =>
     have h0:=hrow.len0
     have hoa:oa = none:=k4
     rw [ev,hoa,h0,k3 hoa];rfl
    | some g => rw [ev,k4];rfl
   obtain ⟨_,hk,_⟩:=id hel
   exact ⟨og.toList ++ G',og.toList,hF,hFM,v,us',og.toList ++ G',[],og.toList,[],e1,by simp,by simp,ho,⟨og,c,G',ds,hv',hrow,hk,rfl,rfl,hel⟩,l3 _⟩
structure AOw (P:Program) (f:FuncId) (pre:List (List D)) (k:Nat) (xs:List (List D)) (post:List (List D)) (Q:List Res→Prop):Prop where
 call:∀ args w,(callFunc f args).run P w = .ok (.enter f args) w
 fn:∀ (A:Nat→Prop) w vs us og cap ds,(∀ b,A b→b < w.heap.size)→jX A w pre vs→jX A w post us→Row w (slv og xs.length cap) k xs.length ds og→0 < k→rdR k A w ds xs→(∀ b,og = some b→¬ A b) →
  Calls P f (vs ++ slv og xs.length cap :: us).toArray w (fun e w' => ∃ v rs,e = .returned v∧Q rs∧Bel ⟨w,fun b => og = some b⟩ w'∧kL A (W0.mine ⟨w,fun b => og = some b⟩) w' rs v)
theorem ends_post (C:CfgOK P cfg) {fn:Func} {A:Nat→Prop} {Q0:List Res→Prop} {e:Exit} (hS':Sim w0 A cfg.N σ s a w') (hE:Ends cfg w0.mine fn Q0 e s) :
  (e = .normal ∨ e = .ret)∧a.defers = []∧∃ v,(results fn a.tmps).run P w' = .ok v w'∧∃ rs,Q0 rs∧Bel w0 w'∧kL A w0.mine w' rs v:=by
 obtain ⟨he,rs,ks,rs',hr,hks,hu,hQ⟩:=hE
 obtain ⟨us,G,X,k1,k2,k3,k4,k5,k6⟩:=xN0 C hS' hr hks
 have hres:(results fn a.tmps).run P w' = .ok (outV us) w':=by
  let pk:ResultVar→Value:=fun rv => match rv with|.tmp t => a.tmps.getD t undef|.cell _ _ => undef
  have k1':fn.results.toList.map pk = us:=k1
  have hm:∀ (F:ResultVar→Sem Value),(∀ t,F (.tmp t) = pure (a.tmps.getD t undef))→∀ {rvs:List ResultVar},(∀ rv ∈ rvs,∃ t,rv = ResultVar.tmp t)→(rvs.mapM F).run P w' =
    .ok (rvs.map pk) w':=by
   intro F hF rvs
   induction rvs with
   | nil => intro _;rfl
   | cons rv rvs ih =>
    intro hh
    obtain ⟨t,rfl⟩:=hh rv (by simp)
    simp only [List.mapM_cons,Sem.run_bind,Sem.run_pure,Result.andThen_ok,hF,ih (fun rv hrv => hh rv (by simp [hrv])),List.map_cons]
    rfl
  unfold results
  rw [Array.mapM_eq_mapM_toList]
  simp only [Sem.run_bind,Functor.map]
  change (Sem.run P (List.mapM _ _ >>= fun x => pure x.toArray) w').andThen _ = _
  rw [Sem.run_bind,hm _ (fun t => rfl) k2,k1']
  simp only [Sem.run_pure,Result.andThen_ok]
  match us with
  | [] => rfl
  | [v] => rfl
  | u :: v :: us =>
   rw [dif_neg (by simp)]
   rfl
 have hX:∀ b ∈ X,w0.mine b:=fun b hb => by
  obtain ⟨k,hk,hg⟩:=k5 b hb
  obtain ⟨o,ho⟩:=yI0 hr k hk
  exact (hS'.rows k o ho).fresh b (qI hg)
 have hrel:=k6 X (fun b hb => by
  obtain ⟨k,hk,hg⟩:=k5 b hb
  exact look_of hS' (yI0 hr k hk) hg)
 obtain ⟨G',X',g1,g2,g3⟩:=kL.un hu k3 (fun b hb => (k4 b hb).1) hX hrel
 exact ⟨he,hS'.defers,_,hres,rs',hQ,hS'.below,us,G',X',rfl,g1,g2,g3⟩
theorem jX.len {A:Nat→Prop}:∀ {ds:List (List D)} {vs:List Value},jX A w ds vs→vs.length = ds.length
 | [],_,h => by rw [show _ = [] from h];rfl
 | d :: ds,_,⟨v,us,e,_,h2⟩ => by rw [e,List.length_cons,jX.len h2,List.length_cons]
theorem AFn.of_runs (C:CfgOK P cfg) {f:FuncId} {fn:Func} {c:Code} (hf:P.funcs[f]? = some fn) (hb:fn.body = some c) (hname:(fn.name == "runtime.NumGoroutine") = false) (hN:fn.ntmps = cfg.N) {ds:List (List D)} (hd:ds.length ≤ fn.ntmps) {Q0:List Res→Prop}
  (h:∀ M,qA P cfg M c (Ends cfg M fn Q0) ⟨qU 0 ds,[]⟩) (hnon:cfg.hd = HidC.non:=by rfl):AFn P f ds Q0:=by
 refine ⟨enters_of hf hname hb,fun A w vs hA hv => ?_⟩
 have hlen:=hv.len
 refine calls_of_wp hf hb ?_
 have hS:=start_sim (A:=A) (N:=cfg.N) (n:=fn.ntmps - vs.length) hv (by omega)
 refine h _ ⟨w,fun _ => False⟩ A _ _ w _ ⟨rfl,hnon.symm⟩ (by simpa using hS) (fun e s' hE σ' a' w' hS' => ?_)
 obtain ⟨he,hd,v,hres,rs,hQ,hbel,hout⟩:=ends_post C hS' hE
 have hm:W0.mine ⟨w,fun _ => False⟩ = (w.heap.size ≤ ·):=by funext b;simp [W0.mine]
 rw [hm] at hout
 have hfin:a'.defers = []∧∃ v,(results fn a'.tmps).run P w' = .ok v w'∧∃ v' rs,Ending.returned v = .returned v'∧Q0 rs∧Below w.heap.size w w'∧kL A (w.heap.size ≤ ·) w' rs v':=⟨hd,v,hres,v,rs,rfl,hQ,hbel.below,hout⟩
 rcases he with rfl|rfl <;> exact hfin
theorem args_rel {A:Nat→Prop} {H:List (Nat × Obj)} (mono:∀ b,A b→b < w.heap.size→Zn σ H w b):∀ {ds:List (List D)} {vs pre tl:List Value} {r:Nat} {av:AV},jX A w ds vs→look r (qU pre.length ds) = some av →
  relAV σ H w av ((pre ++ vs ++ tl).toArray.getD r undef):=by
 intro ds
 induction ds with
 | nil => intro vs pre tl r av _ h;cases h
 | cons d ds ih =>
  rintro vs pre tl r av ⟨v,us,rfl,h1,h2⟩ h
  simp only [qU,look] at h
  split at h
  ·rename_i e
   cases h
   subst e
   have hg:((pre ++ v :: us ++ tl).toArray).getD pre.length undef = v:=by simp
   rw [hg]
   have cells:∀ {x:List D} {us:List Value},rdCs A w us x→relCs σ H w (x.map .val) us:=by
    intro x
    induction x with
    | nil => intro us h;exact List.eq_nil_of_length_eq_zero (by rw [h.len];rfl)
    | cons y x ih =>
     intro us h
     obtain ⟨u,us',rfl,h3,h4⟩:=h.cons_inv
     exact ⟨u,us',rfl,h3.one,h3.mono mono,ih h4⟩
   match d,h1 with
   | [],⟨us',e,h3⟩ => exact ⟨us',e,cells h3⟩
   | [d],h1 => exact ⟨rdV.one h1,rdV.mono h1 mono⟩
   | x :: y :: d,⟨us',e,h3⟩ => exact ⟨us',e,cells h3⟩
  ·have:=ih (vs:=us) (pre:=pre ++ [v]) (tl:=tl) (r:=r) (av:=av) h2 (by rw [List.length_append];exact h)
   rwa [List.append_assoc pre [v] us] at this
theorem AOw.of_runs (C:CfgOK P cfg) {f:FuncId} {fn:Func} {c:Code} (hf:P.funcs[f]? = some fn) (hb:fn.body = some c) (hname:(fn.name == "runtime.NumGoroutine") = false) (hN:fn.ntmps = cfg.N) {pre post:List (List D)} {k:Nat} {xs:List (List D)}
  (hd:pre.length + 1 + post.length ≤ fn.ntmps) {Q0:List Res→Prop}
  (h:∀ M,qA P cfg M c (Ends cfg M fn Q0) ⟨qU 0 pre ++ (pre.length,.c (.own pre.length xs.length)) :: qU (pre.length + 1) post,[(pre.length,.row k xs false)]⟩) (hnon:cfg.hd = HidC.non:=by rfl):AOw P f pre k xs post Q0:=by
 refine ⟨enters_of hf hname hb,fun A w vs us og cap ds hA hv hu hrow hk hel hog => ?_⟩
 have hlv:=hv.len
 have hlu:=hu.len
 refine calls_of_wp hf hb ?_
 obtain ⟨V,hV⟩:∃ V,V = slv og xs.length cap:=⟨_,rfl⟩
 rw [← hV]
 let σ:Asg:=⟨fun q => if q = pre.length then og else none,fun q => if q = pre.length then cap else 0,fun _ => [],fun b => A b ∨ w.heap.size ≤ b ∨ og = some b⟩
 have g1:σ.g pre.length = og:=if_pos rfl
 have g2:σ.cap pre.length = cap:=if_pos rfl
 have hl1:∀ q o,look q [(pre.length,Obj.row k xs false)] = some o→q = pre.length∧o = .row k xs false:=by
  intro q o hq
  simp only [look] at hq
  split at hq
  ·rename_i e;cases hq;exact ⟨e.symm,rfl⟩
  ·cases hq
 have mono:∀ b,A b→b < w.heap.size→Zn σ [(pre.length,Obj.row k xs false)] w b:=fun b hb hlt => ⟨hlt,.inl hb,fun q o hq e => by
  obtain ⟨rfl,_⟩:=hl1 q o hq
  rw [g1] at e
  exact hog b e hb⟩
 have hfp:fp σ pre.length (.row k xs false) = og.toList:=by
  show (σ.g pre.length).toList ++ [] = _
  rw [g1,List.append_nil]
 have hS:Sim ⟨w,fun b => og = some b⟩ A cfg.N σ ⟨qU 0 pre ++ (pre.length,.c (.own pre.length xs.length)) :: qU (pre.length + 1) post,[(pre.length,.row k xs false)]⟩
   { tmps:=(vs ++ V :: us).toArray ++ Array.replicate (fn.ntmps - (vs ++ V :: us).length) undef,defers:=[] } w:=by
  refine ⟨⟨rfl,rfl,rfl,Nat.le_refl _,fun _ _ _ _ => rfl⟩,fun b hb => .inr hb,fun b hb => hb,rfl,?_,fun r av hr => ?_,fun key o hkey => ?_,fun p o q u hp hq hpq => ?_,trivial,fun b hb => hb.elim⟩
  ·simp only [Array.size_append,List.size_toArray,Array.size_replicate,List.length_append,List.length_cons]
   omega
  ·have hev:∀ (tl:List Value),tl = List.replicate (fn.ntmps - (vs ++ V :: us).length) undef→((vs ++ V :: us).toArray ++ Array.replicate (fn.ntmps - (vs ++ V :: us).length) undef:Array Value) = (vs ++ V :: us ++ tl).toArray:=by
    rintro tl rfl
    simp
   show relAV _ _ _ _ ((_:Array Value).getD r undef)
   rw [hev _ rfl]
   have hr':look r (qU 0 pre ++ (pre.length,.c (.own pre.length xs.length)) :: qU (pre.length + 1) post) = some av:=hr
   rw [yT] at hr'
   split at hr'
   ·rename_i x hx
    cases hr'
    have:=args_rel (pre:=[]) (tl:=V :: us ++ List.replicate (fn.ntmps - (vs ++ V :: us).length) undef) mono hv hx
    simpa using this
   ·simp only [look] at hr'
    split at hr'
    ·rename_i e
     cases hr'
     subst e
     have hg:((vs ++ V :: us ++ List.replicate (fn.ntmps - (vs ++ V :: us).length) undef).toArray).getD pre.length undef = V:=by
      rw [← hlv];simp
     rw [hg]
     refine ⟨by rw [hV];cases og <;> rfl,fun o ho => ?_⟩
     obtain ⟨_,rfl⟩:=hl1 _ _ ho
     exact ⟨rfl,by rw [hV,g1,g2]⟩
    ·have:=args_rel (pre:=vs ++ [V]) (tl:=List.replicate (fn.ntmps - (vs ++ V :: us).length) undef) mono hu (by rw [List.length_append,hlv];exact hr')
     simpa using this
  ·obtain ⟨rfl,rfl⟩:=hl1 key o hkey
   refine ⟨⟨ds,by rw [g1,g2];exact hrow,hk,hel.mono (fun b hb hlt => mono b hb hlt)⟩,fun b hb => ?_,?_⟩
   ·rw [hfp] at hb
    exact .inr (by simpa using hb)
   ·rw [hfp];cases og <;> simp
  ·obtain ⟨rfl,_⟩:=hl1 p o hp
   obtain ⟨rfl,_⟩:=hl1 q u hq
   exact absurd rfl hpq
 refine h _ ⟨w,fun b => og = some b⟩ A σ _ w _ ⟨rfl,hnon.symm⟩ hS (fun e s' hE σ' a' w' hS' => ?_)
 obtain ⟨he,hd,v,hres,rs,hQ,hbel,hout⟩:=ends_post C hS' hE
 have hfin:a'.defers = []∧∃ v,(results fn a'.tmps).run P w' = .ok v w'∧∃ v' rs,Ending.returned v = .returned v'∧Q0 rs∧Bel ⟨w,fun b => og = some b⟩ w'∧kL A (W0.mine ⟨w,fun b => og = some b⟩) w' rs v':=⟨hd,v,hres,v,rs,rfl,hQ,hbel,hout⟩
 rcases he with rfl|rfl <;> exact hfin
end
end
section
def ownVal (ptr:Bool) (og:Option Nat) (n cap:Nat):Value :=
 if ptr then .pointer (og.map fun b => ⟨b,0,none⟩) else slv og n cap
def Left (A:Nat→Prop) (w':World) (og:Option Nat) (cap k:Nat):Option (List (List D))→Prop
 | none => True
 | some ys => ∃ ds,Row w' (slv og ys.length cap) k ys.length ds og∧rdR k A w' ds ys
structure AEf (P:Program) (f:FuncId) (ptr:Bool) (pre:List (List D)) (k:Nat) (xs:List (List D)) (post:List (List D)) (Q:List Res→Option (List (List D))→Prop):Prop where
 call:∀ args w,(callFunc f args).run P w = .ok (.enter f args) w
 fn:∀ (A:Nat→Prop) w vs us og cap ds,(∀ b,A b→b < w.heap.size)→jX A w pre vs→jX A w post us→Row w (slv og xs.length cap) k xs.length ds og→0 < k→rdR k A w ds xs→(∀ b,og = some b→¬ A b) →
  Calls P f (vs ++ ownVal ptr og xs.length cap :: us).toArray w (fun e w' => ∃ v rs oc,e = .returned v∧Q rs oc∧Bel ⟨w,fun b => og = some b⟩ w'∧kL A (fun b => w.heap.size ≤ b ∨ (oc = none∧og = some b)) w' rs v∧Left A w' og cap k oc∧∀ ys,oc = some ys→ys.length = xs.length)
theorem AOw.toEf {P:Program} {f:FuncId} {pre:List (List D)} {k:Nat} {xs:List (List D)} {post:List (List D)} {Q:List Res→Prop} (h:AOw P f pre k xs post Q):AEf P f false pre k xs post (fun rs oc => Q rs∧oc = none):=by
 refine ⟨h.call,fun A w vs us og cap ds h1 h2 h3 h4 h5 h6 h7 => (h.fn A w vs us og cap ds h1 h2 h3 h4 h5 h6 h7).mono ?_⟩
 rintro e w' ⟨v,rs,rfl,hQ,hb,ho⟩
 refine ⟨v,rs,none,rfl,⟨hQ,rfl⟩,hb,?_,trivial,(fun ys e => nomatch e)⟩
 have e:(fun b => w.heap.size ≤ b ∨ ((none:Option (List (List D))) = none∧og = some b)) = W0.mine ⟨w,fun b => og = some b⟩:=by funext b;simp [W0.mine]
 rw [e];exact ho
section
variable {P:Program} {cfg:Cfg} {w0:W0} {w w':World} {Ok:Nat→Prop} {N:Nat} {σ σ':Asg} {s:St} {a:Act} {H H':List (Nat × Obj)}
theorem Bel.trans2 {X:Nat→Prop} (h:Bel w0 w) (k:Bel ⟨w,X⟩ w') (hx:∀ b,X b→w0.mine b):Bel w0 w' :=
 ⟨k.os.trans h.os,k.tape.trans h.tape,k.output.trans h.output,Nat.le_trans h.size k.size,fun i hi hn hy => (k.block i (Nat.lt_of_lt_of_le hi h.size) (fun e => by
  rcases hx i e with h1|h1
  ·omega
  ·exact hn h1) (fun h => h)).trans (h.block i hi hn hy)⟩
theorem Bel.trans3 {X:Nat→Prop} (h:Bel w0 w) (k:Bel (@W0.mk w X w0.hd) w') (hx:∀ b,X b→w0.mine b):Bel w0 w' :=
 ⟨k.os.trans h.os,k.tape.trans h.tape,k.output.trans h.output,Nat.le_trans h.size k.size,fun i hi hn hy => (k.block i (Nat.lt_of_lt_of_le hi h.size) (fun e => by
  rcases hx i e with h1|h1
  ·omega
  ·exact hn h1) hy).trans (h.block i hi hn hy)⟩
theorem Sim.callY (h:Sim w0 Ok N σ s a w) {X:Nat→Prop} (k:Bel ⟨w,X⟩ w') (hx:∀ b,X b→w0.mine b):∀ b,w0.hd.Y b→w'.heap[b]? = w.heap[b]?:=fun b hb =>
 k.block b (h.oldY hb).1 (fun e => (h.oldY hb).2 (hx b e)) (fun h => h)
def qT0 (key k:Nat):Option (List (List D))→List (Nat × Obj)
 | none => []
 | some ys => [(key,.row k ys false)]
def jL (ptr:Bool) (key n:Nat):AV:=if ptr then .optr key 0 0 else .c (.own key n)
theorem ownArg_val (ptr:Bool) {key n:Nat} {o:Obj} {v:Value} (hk:look key H = some o) (hl:ptr = true→o.len = 1∧∃ b,σ.g key = some b) (h:relAV σ H w (jL ptr key n) v) (hn:ptr = false→n = o.len):v = ownVal ptr (σ.g key) o.len (σ.cap key):=by
 cases ptr with
 | true =>
  obtain ⟨_,b,h1,h2⟩:=h o hk
  rw [h2,Nat.zero_mul,Nat.zero_add]
  show _ = Value.pointer _
  rw [h1];rfl
 | false =>
  obtain ⟨_,h1⟩:=h
  obtain ⟨e1,e2⟩:=h1 o hk
  rw [e2,e1];rfl
def heapE (key k:Nat) (oc:Option (List (List D))) (news H:List (Nat × Obj)):List (Nat × Obj):=news ++ (qT0 key k oc ++ drop key H)
theorem look_left {key k q:Nat} {oc:Option (List (List D))}:look q (qT0 key k oc) = match oc with|some ys => if key = q then some (.row k ys false) else none|none => none:=by
 cases oc <;> rfl
theorem n_callE (C:CfgOK P cfg) (h:Sim w0 Ok N σ s a w) {o:Oper} {f:Operand} {args:Array Operand} {ts:Array TypeId} {g:FuncId} (ho:o.op = .call ⟨.value f,args,ts⟩) (hf:((opv s.regs f).bind avD).bind fnId = some g)
  {ptr:Bool} {xpre xpost:List Operand} {tpre tpost:List TypeId} {x:Operand} (hx:args.toList = xpre ++ x :: xpost) {pre post:List (List D)}
  (hpre:aargs cfg (fun k => look k s.heap) s.regs xpre tpre = some pre) (hpost:aargs cfg (fun k => look k s.heap) s.regs xpost tpost = some post) (hrf:qM s.regs xpre = []) (hrf2:qM s.regs xpost = [])
  {key n k:Nat} {xs:List (List D)} (hxv:opv s.regs x = some (jL ptr key n)) (hk:look key s.heap = some (.row k xs false)) (hlen:ptr = true→xs.length = 1) (hnr:∀ q u,q ≠ key→look q s.heap = some u→key ∉ u.refs)
  {Q0:List Res→Option (List (List D))→Prop} (hfn:AEf P g ptr pre k xs post Q0)
  {K:Act→World→Prop} {Q:Exit→Act→World→Prop} {dk:Nat} (hfr:∀ rs oc,Q0 rs oc→∀ q ob,look q (qV dk rs).2 = some ob→Free ⟨if oc = none then killR key s.regs else s.regs,qT0 key k oc ++ drop key s.heap⟩ q)
  (hK:∀ rs oc,Q0 rs oc→∀ v w' σ',relAV σ' (heapE key k oc (qV dk rs).2 s.heap) w' (outAV (qV dk rs).1) v→Sim w0 Ok N σ' ⟨if oc = none then killR key s.regs else s.regs,heapE key k oc (qV dk rs).2 s.heap⟩ a w'→K (a.put o.dst v) w'):o.wp P a w K Q:=by
 have hRO:=h.rows key _ hk
 obtain ⟨ds,hrow,hkp,hel⟩:=hRO.row
 have hrow:Row w (slv (σ.g key) xs.length (σ.cap key)) k xs.length ds (σ.g key):=hrow
 have hel:rdR k (Zn σ s.heap w) w ds xs:=hel
 have hfv:a.eval f = .func (.func g) #[] #[]:=qA0 h hf
 have hxe:a.eval x = ownVal ptr (σ.g key) xs.length (σ.cap key):=by
  refine ownArg_val ptr hk (fun e => ⟨hlen e,?_⟩) (qP h hxv) (fun e => ?_)
  ·subst e
   obtain ⟨_,b,h1,_⟩:=(qP h hxv) _ hk
   exact ⟨b,h1⟩
  ·subst e
   exact ((qP h hxv).2 _ hk).1
 have hrun:(execOp a.eval o).run P w = .ok (.enter g (args.map a.eval)) w:=by
  unfold execOp
  rw [ho]
  simp [resolve,Deferred.ofValue,hfv,invoke,hfn.call]
 have hog:∀ b,σ.g key = some b→¬ Zn σ s.heap w b:=fun b hb hz => hz.2.2 key _ hk hb
 have hcall:=hfn.fn (Zn σ s.heap w) w (xpre.map a.eval) (xpost.map a.eval) (σ.g key) (σ.cap key) ds (fun _ h => h.1) ((vQ C h hpre).2 hrf) ((vQ C h hpost).2 hrf2) hrow hkp hel hog
 unfold Oper.wp
 rw [hrun,Oper.upon_enter]
 have hargs:(xpre.map a.eval ++ ownVal ptr (σ.g key) xs.length (σ.cap key) :: xpost.map a.eval).toArray = args.map a.eval:=by
  rw [← hxe,← List.map_cons,← List.map_append,← hx,← Array.toList_map,Array.toArray_toList]
 rw [← hargs]
 clear hargs
 refine hcall.mono ?_
 rintro e w' ⟨v,rs,oc,rfl,hQ,hw,⟨us,G,X,rfl,hG1,hG2,hrel⟩,hleft,hlens⟩
 obtain ⟨σ',k0,k1,k2,k3,k4⟩:=jQ0 dk σ hrel hG1
 have hfree:=hfr rs oc hQ
 have hdk:∀ q u,look q (qV dk rs).2 = some u→q ≠ key ∨ oc = none:=by
  intro q u hq
  cases oc with
  | none => exact .inr rfl
  | some ys =>
   left
   intro e
   have:=(hfree q u hq).1
   rw [e] at this
   simp [qT0,yT,look] at this
 have hsz:w.heap.size ≤ w'.heap.size:=hw.size
 have hblk:∀ b,b < w.heap.size→σ.g key ≠ some b→w'.heap[b]? = w.heap[b]?:=fun b hb hne => hw.block b hb hne (fun h => h)
 have hl:∀ q u,look q (heapE key k oc (qV dk rs).2 s.heap) = some u→(look q (qV dk rs).2 = some u) ∨ (look q (qV dk rs).2 = none∧q = key∧∃ ys,oc = some ys∧u = .row k ys false) ∨ (look q (qV dk rs).2 = none∧q ≠ key∧look q s.heap = some u):=by
  intro q u hq
  unfold heapE at hq
  rw [yT] at hq
  cases hn:look q (qV dk rs).2 with
  | some u' => rw [hn] at hq;exact .inl hq
  | none =>
   rw [hn] at hq
   right
   simp only at hq
   rw [yT,look_left] at hq
   cases oc with
   | none =>
    simp only [yU] at hq
    split at hq
    ·cases hq
    ·rename_i hqk;exact .inr ⟨rfl,hqk,hq⟩
   | some ys =>
    simp only at hq
    by_cases hqk:key = q
    ·rw [if_pos hqk] at hq
     simp only [Option.some.injEq] at hq
     exact .inl ⟨rfl,hqk.symm,ys,rfl,hq.symm⟩
    ·rw [if_neg hqk] at hq
     simp only [yU] at hq
     rw [if_neg (fun e => hqk e.symm)] at hq
     exact .inr ⟨rfl,fun e => hqk e.symm,hq⟩
 have hnew:∀ q u,look q (qV dk rs).2 = some u→∀ b ∈ fp σ' q u,w.heap.size ≤ b ∨ (oc = none∧σ.g key = some b):=fun q u hq b hb => hG2 b ((k2 q u hq).2.2.1 b hb)
 have hZ:jQ σ σ' s.heap (heapE key k oc (qV dk rs).2 s.heap) w w':=by
  intro b hb
  refine ⟨⟨Nat.lt_of_lt_of_le hb.1 hsz,by rw [k0];exact hb.2.1,fun q u hq e => ?_⟩,hblk b hb.1 (hb.2.2 key _ hk)⟩
  rcases hl q u hq with hq|⟨hn,rfl,ys,_,_⟩|⟨hn,hqk,hq⟩
  ·rcases hnew q u hq b (qI e) with h1|⟨_,h1⟩
   ·have:=hb.1;omega
   ·exact hb.2.2 key _ hk h1
  ·rw [(k1 q hn).1] at e;exact hb.2.2 q _ hk e
  ·rw [(k1 q hn).1] at e;exact hb.2.2 q u hq e
 have hstay:∀ q,q ≠ key→(∀ u,look q (qV dk rs).2 = some u→False)→jY σ σ' s.heap (heapE key k oc (qV dk rs).2 s.heap) q:=by
  intro q hqk hno u hu
  rcases hl q u hu with hq|⟨_,e,_⟩|⟨hn,_,hq⟩
  ·exact (hno u hq).elim
  ·exact absurd e hqk
  ·exact ⟨u,hq,rfl,rfl,(k1 q hn).1,(k1 q hn).2.1⟩
 have hstayk:∀ ys,oc = some ys→jY σ σ' s.heap (heapE key k oc (qV dk rs).2 s.heap) key:=by
  intro ys hoc u hu
  rcases hl key u hu with hq|⟨hn,_,ys',e1,e2⟩|⟨_,e,_⟩
  ·rcases hdk key u hq with h1|h1
   ·exact absurd rfl h1
   ·rw [hoc] at h1;cases h1
  ·subst e2
   exact ⟨_,hk,rfl,(hlens ys' e1).symm,(k1 key hn).1,(k1 key hn).2.1⟩
  ·exact absurd rfl e
 have hmine:∀ b,(w.heap.size ≤ b ∨ (oc = none∧σ.g key = some b))→w0.mine b:=by
  rintro b (h1|⟨_,h1⟩)
  ·exact .inl (Nat.le_trans h.below.size h1)
  ·exact hRO.fresh b (qI h1)
 have hZn:∀ b,((Zn σ s.heap w b ∨ (w.heap.size ≤ b ∨ (oc = none∧σ.g key = some b)))∧b ∉ X)→b < w'.heap.size→Zn σ' (heapE key k oc (qV dk rs).2 s.heap) w' b:=by
  rintro b ⟨hb,hbX⟩ hlt
  rcases hb with hb|hb
  ·exact (hZ b hb).1
  ·refine ⟨hlt,by rw [k0];exact h.ok1 b (hmine b hb),fun q u hq e => ?_⟩
   rcases hl q u hq with hq|⟨hn,rfl,ys,e1,_⟩|⟨hn,hqk,hq⟩
   ·exact hbX ((k2 q u hq).2.2.2 b e)
   ·rw [(k1 q hn).1] at e
    rcases hb with hb|⟨hb,_⟩
    ·have:=hrow.lt b e;omega
    ·rw [e1] at hb;cases hb
   ·rw [(k1 q hn).1] at e
    rcases hb with hb|⟨_,hb⟩
    ·have:=yG h hq b (qI e);omega
    ·exact h.disj key _ q u hk hq (fun e => hqk e.symm) b (qI hb) (qI e)
 refine hK rs oc hQ _ w' σ' (out_rel (k4.rel hZn)) ?_
 have hS1:Sim w0 Ok N σ ⟨if oc = none then killR key s.regs else s.regs,s.heap⟩ a w:=by
  by_cases hoc:oc = none
  ·rw [if_pos hoc];exact h.killed key
  ·rw [if_neg hoc];exact h
 refine hS1.step k0 (h.below.trans2 hw (fun b hb => hRO.fresh b (qI hb))) hZ (h.callY hw (fun b hb => hRO.fresh b (qI hb))) (fun r av hr => ⟨av,hr,.inl ⟨rfl,fun q hq => ?_⟩⟩) (fun q u hq => ?_) (fun p o1 q u hp hq hpq b hb hb' => ?_)
 ·have hno:∀ u,look q (qV dk rs).2 = some u→False:=fun u hu => (hfree q u hu).2.1 r av hr hq
  by_cases hqk:q = key
  ·subst hqk
   cases oc with
   | none =>
    rw [if_pos rfl] at hr
    rw [qF0] at hr
    obtain ⟨v0,_,rfl⟩:=map_some hr
    exact absurd rfl (AV.kill_refs hq).1
   | some ys => exact hstayk ys rfl
  ·exact hstay q hqk hno
 ·rcases hl q u hq with hqn|⟨hn,rfl,ys,e1,rfl⟩|⟨hn,hqk,hqs⟩
  ·obtain ⟨⟨dd,kk,ys,d,b1,b2,b3,b4⟩,b5,b6,_⟩:=k2 q u hqn
   subst b1
   refine ⟨⟨dd,b2,b3,?_⟩,fun b hb => hmine b (hG2 b (b6 b hb)),b5⟩
   show if d = true then ownR kk w' dd ys (σ'.F q) else rdR kk (Zn σ' _ w') w' dd ys
   cases d with
   | true => rw [if_pos rfl];exact b4
   | false =>
    rw [if_neg (by decide)]
    have b4':rdR kk (fun b => (Zn σ s.heap w b ∨ (w.heap.size ≤ b ∨ (oc = none∧σ.g key = some b)))∧b ∉ X) w' dd ys:=b4
    exact b4'.mono (fun b hb hlt => hZn b hb hlt)
  ·rw [e1] at hleft
   obtain ⟨ds',hr',hd'⟩:=hleft
   refine ⟨⟨ds',by rw [(k1 q hn).1,(k1 q hn).2.1];exact hr',hkp,hd'.mono (fun b hb _ => (hZ b hb).1)⟩,fun b hb => ?_,?_⟩
   ·refine hRO.fresh b ?_
    have:fp σ' q (.row k ys false) = fp σ q (.row k xs false):=by unfold fp;rw [(k1 q hn).1];rfl
    rw [← this];exact hb
   ·have:fp σ' q (.row k ys false) = fp σ q (.row k xs false):=by unfold fp;rw [(k1 q hn).1];rfl
    rw [this];exact hRO.nodup
  ·refine RowOK.keep h.ok1 h.rows h.disj hqs hZ (fun q' hq' => ?_) (k1 q hn).1 (k1 q hn).2.1 (k1 q hn).2.2 (fun b hb => hblk b (yG h hqs b (qI hb)) (fun e => ?_))
   ·have hq'k:q' ≠ key:=fun e => hnr q u hqk hqs (e ▸ hq')
    refine hstay q' hq'k (fun u' hu' => (hfree q' u' hu').2.2 q u ?_ hq')
    show look q (qT0 key k oc ++ drop key s.heap) = some u
    rw [yT,look_left]
    cases oc with
    | none => simp only [yU];rw [if_neg hqk];exact hqs
    | some ys => simp only;rw [if_neg (fun e => hqk e.symm)];simp only [yU];rw [if_neg hqk];exact hqs
   ·exact h.disj key _ q u hk hqs (fun e => hqk e.symm) b (qI e) (qI hb)
 ·have hold:∀ q u,look q (qV dk rs).2 = none→q ≠ key→look q s.heap = some u→∀ b ∈ fp σ' q u,b < w.heap.size∧σ.g key ≠ some b∧b ∈ fp σ q u:=by
   intro q u hn hqk hqs b hb
   have e:fp σ' q u = fp σ q u:=by unfold fp;rw [(k1 q hn).1,(k1 q hn).2.2]
   rw [e] at hb
   exact ⟨yG h hqs b hb,fun e => h.disj key _ q u hk hqs (fun e => hqk e.symm) b (qI e) hb,hb⟩
  have hkey:∀ ys,look key (qV dk rs).2 = none→∀ b ∈ fp σ' key (.row k ys false),σ.g key = some b:=by
   intro ys hn b hb
   unfold fp at hb
   rw [(k1 key hn).1] at hb
   have hb:b ∈ (σ.g key).toList ++ []:=hb
   simpa using hb
  rcases hl p o1 hp with hpn|⟨hpn,rfl,ys,e1,rfl⟩|⟨hpn,hpk,hps⟩
  ·rcases hl q u hq with hqn|⟨hqn,rfl,ys,e1,rfl⟩|⟨hqn,hqk,hqs⟩
   ·exact k3 p o1 q u hpn hqn hpq b hb hb'
   ·have h1:=hkey ys hqn b hb'
    rcases hnew p o1 hpn b hb with h2|⟨h2,_⟩
    ·have:=hrow.lt b h1;omega
    ·rw [e1] at h2;cases h2
   ·obtain ⟨h1,h2,_⟩:=hold q u hqn hqk hqs b hb'
    rcases hnew p o1 hpn b hb with h3|⟨_,h3⟩
    ·omega
    ·exact h2 h3
  ·have h1:=hkey ys hpn b hb
   rcases hl q u hq with hqn|⟨hqn,e2,_⟩|⟨hqn,hqk,hqs⟩
   ·rcases hnew q u hqn b hb' with h2|⟨h2,_⟩
    ·have:=hrow.lt b h1;omega
    ·rw [e1] at h2;cases h2
   ·exact hpq e2.symm
   ·exact (hold q u hqn hqk hqs b hb').2.1 h1
  ·obtain ⟨p1,p2,p3⟩:=hold p o1 hpn hpk hps b hb
   rcases hl q u hq with hqn|⟨hqn,rfl,ys,e1,rfl⟩|⟨hqn,hqk,hqs⟩
   ·rcases hnew q u hqn b hb' with h3|⟨_,h3⟩
    ·omega
    ·exact p2 h3
   ·exact p2 (hkey ys hqn b hb')
   ·obtain ⟨_,_,q3⟩:=hold q u hqn hqk hqs b hb'
    exact h.disj p o1 q u hps hqs hpq b p3 q3
end
end
section
structure AEp (P:Program) (f:FuncId) (ptr:Bool) (k:Nat) (xs:List (List D)) (post:List (List D)) (Q:List Res→List (List D)→Prop):Prop where
 call:∀ args w,(callFunc f args).run P w = .ok (.enter f args) w
 fn:∀ (A:Nat→Prop) w us og cap ds,(∀ b,A b→b < w.heap.size)→jX A w post us→Row w (slv og xs.length cap) k xs.length ds og→0 < k→rdR k A w ds xs→(∀ b,og = some b→¬ A b) →
  Calls P f (ownVal ptr og xs.length cap :: us).toArray w (fun e w' => ∃ v rs xs' ds' us' G X,e = .returned v∧Q rs xs'∧Bel ⟨w,fun c => og = some c⟩ w'∧v = outV us'∧G.Nodup∧(∀ b ∈ G,w.heap.size ≤ b) ∧
   yO A (fun b => w.heap.size ≤ b) w' X rs us' G X∧xs'.length = xs.length∧Row w' (slv og xs.length cap) k xs.length ds' og∧rdR k (fun c => (A c ∨ w.heap.size ≤ c)∧c ∉ X∧og ≠ some c) w' ds' xs')
section
variable {P:Program} {cfg:Cfg} {w0:W0} {w w':World} {Ok:Nat→Prop} {N:Nat} {σ σ':Asg} {s:St} {a:Act} {H H':List (Nat × Obj)}
theorem n_callP (C:CfgOK P cfg) (h:Sim w0 Ok N σ s a w) {o:Oper} {f:Operand} {args:Array Operand} {ts:Array TypeId} {g:FuncId} (ho:o.op = .call ⟨.value f,args,ts⟩) (hf:((opv s.regs f).bind avD).bind fnId = some g)
  {xpost:List Operand} {tpost:List TypeId} {x:Operand} (hx:args.toList = x :: xpost) {post:List (List D)}
  (hpost:aargs cfg (fun k => look k s.heap) s.regs xpost tpost = some post) (hrf2:qM s.regs xpost = [])
  {ptr:Bool} {key n k cap:Nat} {og:Option Nat} {xs:List (List D)} (hxv:opv s.regs x = some (jL ptr key n)) (hk:look key s.heap = some (.pin og cap k xs)) (hlen:ptr = true→xs.length = 1) (hnr:∀ q u,q ≠ key→look q s.heap = some u→key ∉ u.refs)
  {Q0:List Res→List (List D)→Prop} (hfn:AEp P g ptr k xs post Q0)
  {K:Act→World→Prop} {Q:Exit→Act→World→Prop} {dk:Nat} (hfr:∀ rs xs',Q0 rs xs'→∀ q ob,look q (qV dk rs).2 = some ob→Free ⟨s.regs,(key,.pin og cap k xs') :: drop key s.heap⟩ q)
  (hK:∀ rs xs',Q0 rs xs'→∀ v w' σ',relAV σ' ((qV dk rs).2 ++ (key,.pin og cap k xs') :: drop key s.heap) w' (outAV (qV dk rs).1) v→Sim w0 Ok N σ' ⟨s.regs,(qV dk rs).2 ++ (key,.pin og cap k xs') :: drop key s.heap⟩ a w'→K (a.put o.dst v) w'):o.wp P a w K Q:=by
 have hRO:=h.rows key _ hk
 obtain ⟨ds,hrow,hkp,hgb,hcb,hel⟩:=hRO.row
 have hrow:Row w (slv (σ.g key) xs.length (σ.cap key)) k xs.length ds (σ.g key):=hrow
 have hkp:0 < k:=hkp
 rw [hgb,hcb] at hrow
 have hfv:a.eval f = .func (.func g) #[] #[]:=qA0 h hf
 have hxe:a.eval x = ownVal ptr og xs.length cap:=by
  rw [← hgb,← hcb]
  refine ownArg_val ptr hk (fun e => ⟨hlen e,?_⟩) (qP h hxv) (fun e => ?_)
  ·subst e
   obtain ⟨_,b,h1,_⟩:=(qP h hxv) _ hk
   exact ⟨b,h1⟩
  ·subst e
   exact ((qP h hxv).2 _ hk).1
 have hrun:(execOp a.eval o).run P w = .ok (.enter g (args.map a.eval)) w:=by
  unfold execOp
  rw [ho]
  simp [resolve,Deferred.ofValue,hfv,invoke,hfn.call]
 have hog:∀ b,og = some b→¬ Zn σ s.heap w b:=fun b hb hz => hz.2.2 key _ hk (hgb.trans hb)
 have hcall:=hfn.fn (Zn σ s.heap w) w (xpost.map a.eval) og cap ds (fun _ h => h.1) ((vQ C h hpost).2 hrf2) hrow hkp hel hog
 unfold Oper.wp
 rw [hrun,Oper.upon_enter]
 have hargs:(ownVal ptr og xs.length cap :: xpost.map a.eval).toArray = args.map a.eval:=by
  rw [← hxe,← List.map_cons,← hx,← Array.toList_map,Array.toArray_toList]
 rw [← hargs]
 clear hargs
 refine hcall.mono ?_
 rintro e w' ⟨v,rs,xs',ds',us,G,X,rfl,hQ,hw,rfl,hG1,hG2,hrel,hrl,hrow',hel'⟩
 obtain ⟨σ',k0,k1,k2,k3,k4⟩:=jQ0 dk σ hrel hG1
 have hfree:=hfr rs xs' hQ
 have hdk:∀ q u,look q (qV dk rs).2 = some u→q ≠ key:=by
  intro q u hq e
  have:=(hfree q u hq).1
  rw [e] at this
  simp [look] at this
 have hsz:w.heap.size ≤ w'.heap.size:=hw.size
 have hblk:∀ c,c < w.heap.size→og ≠ some c→w'.heap[c]? = w.heap[c]?:=fun c hc hne => hw.block c hc hne (fun h => h)
 have hl:∀ q u,look q ((qV dk rs).2 ++ (key,.pin og cap k xs') :: drop key s.heap) = some u→(look q (qV dk rs).2 = some u) ∨ (look q (qV dk rs).2 = none∧q = key∧u = .pin og cap k xs') ∨ (look q (qV dk rs).2 = none∧q ≠ key∧look q s.heap = some u):=by
  intro q u hq
  rw [yT] at hq
  cases hn:look q (qV dk rs).2 with
  | some u' => rw [hn] at hq;exact .inl hq
  | none =>
   rw [hn] at hq
   right
   simp only [look] at hq
   by_cases hqk:key = q
   ·rw [if_pos hqk] at hq
    exact .inl ⟨rfl,hqk.symm,(Option.some.inj hq).symm⟩
   ·rw [if_neg hqk,yU,if_neg (fun e => hqk e.symm)] at hq
    exact .inr ⟨rfl,fun e => hqk e.symm,hq⟩
 have hnew:∀ q u,look q (qV dk rs).2 = some u→∀ c ∈ fp σ' q u,w.heap.size ≤ c:=fun q u hq c hc => hG2 c ((k2 q u hq).2.2.1 c hc)
 have hblt:∀ b,og = some b→b < w.heap.size:=fun b hb => hrow.lt b hb
 have hZ:jQ σ σ' s.heap ((qV dk rs).2 ++ (key,.pin og cap k xs') :: drop key s.heap) w w':=by
  intro c hc
  have hcb:og ≠ some c:=fun e => hc.2.2 key _ hk (by rw [hgb,e])
  refine ⟨⟨Nat.lt_of_lt_of_le hc.1 hsz,by rw [k0];exact hc.2.1,fun q u hq e => ?_⟩,hblk c hc.1 hcb⟩
  rcases hl q u hq with hq|⟨hn,rfl,_⟩|⟨hn,hqk,hq⟩
  ·have h1:=hnew q u hq c (qI e)
   have:=hc.1;omega
  ·rw [(k1 q hn).1] at e;exact hc.2.2 q _ hk e
  ·rw [(k1 q hn).1] at e;exact hc.2.2 q u hq e
 have hstay:∀ q,q ≠ key→(∀ u,look q (qV dk rs).2 = some u→False)→jY σ σ' s.heap ((qV dk rs).2 ++ (key,.pin og cap k xs') :: drop key s.heap) q:=by
  intro q hqk hno u hu
  rcases hl q u hu with hq|⟨_,e,_⟩|⟨hn,_,hq⟩
  ·exact (hno u hq).elim
  ·exact absurd e hqk
  ·exact ⟨u,hq,rfl,rfl,(k1 q hn).1,(k1 q hn).2.1⟩
 have hstayk:jY σ σ' s.heap ((qV dk rs).2 ++ (key,.pin og cap k xs') :: drop key s.heap) key:=by
  intro u hu
  rcases hl key u hu with hq|⟨hn,_,e2⟩|⟨_,e,_⟩
  ·exact absurd rfl (hdk key u hq)
  ·subst e2
   exact ⟨_,hk,rfl,hrl.symm,(k1 key hn).1,(k1 key hn).2.1⟩
  ·exact absurd rfl e
 have hmine:∀ c,w.heap.size ≤ c→w0.mine c:=fun c h1 => .inl (Nat.le_trans h.below.size h1)
 have hZn:∀ c,((Zn σ s.heap w c ∨ w.heap.size ≤ c)∧c ∉ X)→c < w'.heap.size→Zn σ' ((qV dk rs).2 ++ (key,.pin og cap k xs') :: drop key s.heap) w' c:=by
  rintro c ⟨hc,hcX⟩ hlt
  rcases hc with hc|hc
  ·exact (hZ c hc).1
  ·refine ⟨hlt,by rw [k0];exact h.ok1 c (hmine c hc),fun q u hq e => ?_⟩
   rcases hl q u hq with hq|⟨hn,rfl,_⟩|⟨hn,hqk,hq⟩
   ·exact hcX ((k2 q u hq).2.2.2 c e)
   ·rw [(k1 q hn).1,hgb] at e
    have:=hblt c e;omega
   ·rw [(k1 q hn).1] at e
    have:=yG h hq c (qI e);omega
 refine hK rs xs' hQ _ w' σ' (out_rel (k4.rel hZn)) ?_
 refine h.step k0 (h.below.trans2 hw (fun c hc => hRO.fresh c (qI (hgb.trans hc)))) hZ (h.callY hw (fun c hc => hRO.fresh c (qI (hgb.trans hc)))) (fun q av hr => ⟨av,hr,.inl ⟨rfl,fun q' hq' => ?_⟩⟩) (fun q u hq => ?_) (fun p o1 q u hp hq hpq c hc hc' => ?_)
 ·have hno:∀ u,look q' (qV dk rs).2 = some u→False:=fun u hu => (hfree q' u hu).2.1 q av hr hq'
  by_cases hqk:q' = key
  ·subst hqk;exact hstayk
  ·exact hstay q' hqk hno
 ·rcases hl q u hq with hqn|⟨hn,rfl,rfl⟩|⟨hn,hqk,hqs⟩
  ·obtain ⟨⟨dd,kk,ys,d,b1,b2,b3,b4⟩,b5,b6,_⟩:=k2 q u hqn
   subst b1
   refine ⟨⟨dd,b2,b3,?_⟩,fun c hc => hmine c (hG2 c (b6 c hc)),b5⟩
   show if d = true then ownR kk w' dd ys (σ'.F q) else rdR kk (Zn σ' _ w') w' dd ys
   cases d with
   | true => rw [if_pos rfl];exact b4
   | false =>
    rw [if_neg (by decide)]
    have b4':rdR kk (fun c => (Zn σ s.heap w c ∨ w.heap.size ≤ c)∧c ∉ X) w' dd ys:=b4
    exact b4'.mono (fun c hc hlt => hZn c hc hlt)
  ·have hfp:fp σ' q (.pin og cap k xs') = fp σ q (.pin og cap k xs):=by unfold fp;rw [(k1 q hn).1];rfl
   refine ⟨⟨ds',?_,hkp,(k1 q hn).1.trans hgb,(k1 q hn).2.1.trans hcb,hel'.mono (fun c hc hlt => hZn c ⟨hc.1,hc.2.1⟩ hlt)⟩,by rw [hfp];exact hRO.fresh,by rw [hfp];exact hRO.nodup⟩
   show Row w' (slv (σ'.g q) xs'.length (σ'.cap q)) k xs'.length ds' (σ'.g q)
   rw [(k1 q hn).1,(k1 q hn).2.1,hgb,hcb,hrl]
   exact hrow'
  ·refine RowOK.keep h.ok1 h.rows h.disj hqs hZ (fun q' hq' => ?_) (k1 q hn).1 (k1 q hn).2.1 (k1 q hn).2.2 (fun c hc => hblk c (yG h hqs c (qI hc)) (fun e => ?_))
   ·have hq'k:q' ≠ key:=fun e => hnr q u hqk hqs (e ▸ hq')
    refine hstay q' hq'k (fun u' hu' => (hfree q' u' hu').2.2 q u ?_ hq')
    show look q ((key,Obj.pin og cap k xs') :: drop key s.heap) = some u
    simp only [look]
    rw [if_neg (fun e => hqk e.symm),yU,if_neg hqk];exact hqs
   ·exact h.disj key _ q u hk hqs (fun e => hqk e.symm) c (qI (hgb.trans e)) (qI hc)
 ·have hold:∀ q u,look q (qV dk rs).2 = none→q ≠ key→look q s.heap = some u→∀ c ∈ fp σ' q u,c < w.heap.size∧og ≠ some c∧c ∈ fp σ q u:=by
   intro q u hn hqk hqs c hc
   have e:fp σ' q u = fp σ q u:=by unfold fp;rw [(k1 q hn).1,(k1 q hn).2.2]
   rw [e] at hc
   exact ⟨yG h hqs c hc,fun e => h.disj key _ q u hk hqs (fun e => hqk e.symm) c (qI (hgb.trans e)) hc,hc⟩
  have hkey:look key (qV dk rs).2 = none→∀ c ∈ fp σ' key (.pin og cap k xs'),og = some c:=by
   intro hn c hc
   unfold fp at hc
   rw [(k1 key hn).1,hgb] at hc
   have hc:c ∈ og.toList ++ []:=hc
   simpa using hc
  rcases hl p o1 hp with hpn|⟨hpn,rfl,rfl⟩|⟨hpn,hpk,hps⟩
  ·rcases hl q u hq with hqn|⟨hqn,rfl,rfl⟩|⟨hqn,hqk,hqs⟩
   ·exact k3 p o1 q u hpn hqn hpq c hc hc'
   ·have h1:=hkey hqn c hc'
    have h2:=hnew p o1 hpn c hc
    have:=hblt c h1
    omega
   ·obtain ⟨h1,h2,_⟩:=hold q u hqn hqk hqs c hc'
    have h3:=hnew p o1 hpn c hc
    omega
  ·have h1:=hkey hpn c hc
   rcases hl q u hq with hqn|⟨hqn,e2,_⟩|⟨hqn,hqk,hqs⟩
   ·have h2:=hnew q u hqn c hc'
    have:=hblt c h1
    omega
   ·exact hpq e2.symm
   ·exact (hold q u hqn hqk hqs c hc').2.1 h1
  ·obtain ⟨p1,p2,p3⟩:=hold p o1 hpn hpk hps c hc
   rcases hl q u hq with hqn|⟨hqn,rfl,rfl⟩|⟨hqn,hqk,hqs⟩
   ·have h3:=hnew q u hqn c hc'
    omega
   ·exact p2 (hkey hqn c hc')
   ·obtain ⟨_,_,q3⟩:=hold q u hqn hqk hqs c hc'
    exact h.disj p o1 q u hps hqs hpq c p3 q3
def EndsP (cfg:Cfg) (fn:Func) (Q0:List Res→List (List D)→Prop) (og:Option Nat) (cap k n:Nat) (e:Exit) (s:St):Prop :=
 (e = .normal ∨ e = .ret)∧∃ rs ks xs',jI cfg s fn.results.toList fn.resultTypes.toList = some (rs,ks)∧ks.Nodup∧0 ∉ ks∧look 0 s.heap = some (.pin og cap k xs')∧xs'.length = n∧Q0 rs xs'
theorem yO.narrow {A M M':Nat→Prop} {X X':List Nat} (hm:∀ b,(A b ∨ M b)∧b ∉ X→b < w.heap.size→(A b ∨ M' b)∧b ∉ X'):∀ {rs:List Res} {us:List Value} {G Y:List Nat},yO A M w X rs us G Y→yO A M' w X' rs us G Y
 | [],_,_,_,h => h
 | r :: rs,_,_,_,⟨v,us,G1,G2,Y1,Y2,e1,e2,e3,e4,h1,h2⟩ => by
  refine ⟨v,us,G1,G2,Y1,Y2,e1,e2,e3,e4,?_,h2.narrow hm⟩
  cases r with
  | val d => exact ⟨h1.1.mono hm,h1.2⟩
  | own k xs d =>
   obtain ⟨og,cap,F,ds,k1,k2,k3,k4,k5,k6⟩:=h1
   refine ⟨og,cap,F,ds,k1,k2,k3,k4,k5,?_⟩
   cases d with
   | true => exact k6
   | false => exact rdR.mono k6 hm
theorem AEp.of_runs (C:CfgOK P cfg) {f:FuncId} {fn:Func} {c:Code} (hf:P.funcs[f]? = some fn) (hb:fn.body = some c) (hname:(fn.name == "runtime.NumGoroutine") = false) (hN:fn.ntmps = cfg.N) {ptr:Bool} {k:Nat} {xs post:List (List D)} (hp1:ptr = true→xs.length = 1)
  (hd:1 + post.length ≤ fn.ntmps) {Q0:List Res→List (List D)→Prop}
  (h:∀ M og cap,qA P cfg M c (EndsP cfg fn Q0 og cap k xs.length) ⟨(0,jL ptr 0 xs.length) :: qU 1 post,[(0,.pin og cap k xs)]⟩) (hnon:cfg.hd = HidC.non:=by rfl):AEp P f ptr k xs post Q0:=by
 refine ⟨enters_of hf hname hb,fun A w us og cap ds hA hu hrow hk hel hog => ?_⟩
 obtain ⟨V,hV⟩:∃ V,V = ownVal ptr og xs.length cap:=⟨_,rfl⟩
 rw [← hV]
 have hlu:=hu.len
 refine calls_of_wp hf hb ?_
 let σ:Asg:=⟨fun q => if q = 0 then og else none,fun q => if q = 0 then cap else 0,fun _ => [],fun c => A c ∨ w.heap.size ≤ c ∨ og = some c⟩
 have g1:σ.g 0 = og:=rfl
 have hl1:∀ q o,look q [(0,Obj.pin og cap k xs)] = some o→q = 0∧o = .pin og cap k xs:=by
  intro q o hq
  simp only [look] at hq
  split at hq
  ·rename_i e;cases hq;exact ⟨e.symm,rfl⟩
  ·cases hq
 have mono:∀ c,A c→c < w.heap.size→Zn σ [(0,Obj.pin og cap k xs)] w c:=fun c hc hlt => ⟨hlt,.inl hc,fun q o hq e => by
  obtain ⟨rfl,_⟩:=hl1 q o hq
  rw [g1] at e
  exact hog c e hc⟩
 have hfp:fp σ 0 (.pin og cap k xs) = og.toList:=by show (σ.g 0).toList ++ [] = _;rw [g1,List.append_nil]
 have hS:Sim ⟨w,fun c => og = some c⟩ A cfg.N σ ⟨(0,jL ptr 0 xs.length) :: qU 1 post,[(0,.pin og cap k xs)]⟩
   { tmps:=(V :: us).toArray ++ Array.replicate (fn.ntmps - (V :: us).length) undef,defers:=[] } w:=by
  refine ⟨⟨rfl,rfl,rfl,Nat.le_refl _,fun _ _ _ _ => rfl⟩,fun c hc => .inr hc,fun c hc => hc,rfl,?_,fun q av hr => ?_,fun key o hkey => ?_,fun p o q u hp hq hpq => ?_,trivial,fun b hb => hb.elim⟩
  ·simp only [Array.size_append,List.size_toArray,Array.size_replicate,List.length_cons]
   omega
  ·show relAV _ _ _ _ ((_:Array Value).getD q undef)
   have hev:∀ (tl:List Value),tl = List.replicate (fn.ntmps - (V :: us).length) undef→((V :: us).toArray ++ Array.replicate (fn.ntmps - (V :: us).length) undef:Array Value) = (V :: us ++ tl).toArray:=by
    rintro tl rfl
    simp
   rw [hev _ rfl]
   have hr':look q ((0,jL ptr 0 xs.length) :: qU 1 post) = some av:=hr
   simp only [look] at hr'
   split at hr'
   ·rename_i e
    cases hr'
    subst e
    have hg:((V :: us ++ List.replicate (fn.ntmps - (V :: us).length) undef).toArray).getD 0 undef = V:=by simp
    rw [hg,hV]
    cases ptr with
    | true =>
     intro o ho
     obtain ⟨_,rfl⟩:=hl1 _ _ ho
     have h1:=hp1 rfl
     obtain ⟨b,hb⟩:=hrow.some_of (j:=0) (by omega)
     refine ⟨by show 0 < xs.length;omega,b,hb,?_⟩
     show Value.pointer _ = _
     rw [hb];simp
    | false =>
     refine ⟨by show (slv og xs.length cap).oneCell' = true;cases og <;> rfl,fun o ho => ?_⟩
     obtain ⟨_,rfl⟩:=hl1 _ _ ho
     exact ⟨rfl,rfl⟩
   ·have:=args_rel (pre:=[V]) (tl:=List.replicate (fn.ntmps - (V :: us).length) undef) mono hu hr'
    simpa using this
  ·obtain ⟨rfl,rfl⟩:=hl1 key o hkey
   refine ⟨⟨ds,hrow,hk,g1,rfl,hel.mono (fun c hc hlt => mono c hc hlt)⟩,fun c hc => ?_,?_⟩
   ·rw [hfp] at hc
    exact .inr (by simpa using hc)
   ·rw [hfp];cases og <;> simp
  ·obtain ⟨rfl,_⟩:=hl1 p o hp
   obtain ⟨rfl,_⟩:=hl1 q u hq
   exact absurd rfl hpq
 refine h _ og cap ⟨w,fun c => og = some c⟩ A σ _ w _ ⟨rfl,hnon.symm⟩ hS (fun e s' hE σ' a' w' hS' => ?_)
 obtain ⟨he,rs,ks,xs',hr,hks,hk0,hlk,hrl,hQ⟩:=hE
 obtain ⟨us',G,X,k1,k2,k3,k4,k5,k6⟩:=xN0 C hS' hr hks
 have hres:(results fn a'.tmps).run P w' = .ok (outV us') w':=by
  let pk:ResultVar→Value:=fun rv => match rv with|.tmp t => a'.tmps.getD t undef|.cell _ _ => undef
  have k1':fn.results.toList.map pk = us':=k1
  have hm:∀ (F:ResultVar→Sem Value),(∀ t,F (.tmp t) = pure (a'.tmps.getD t undef))→∀ {rvs:List ResultVar},(∀ rv ∈ rvs,∃ t,rv = ResultVar.tmp t)→(rvs.mapM F).run P w' =
    .ok (rvs.map pk) w':=by
   intro F hF rvs
   induction rvs with
   | nil => intro _;rfl
   | cons rv rvs ih =>
    intro hh
    obtain ⟨t,rfl⟩:=hh rv (by simp)
    simp only [List.mapM_cons,Sem.run_bind,Sem.run_pure,Result.andThen_ok,hF,ih (fun rv hrv => hh rv (by simp [hrv])),List.map_cons]
    rfl
  unfold results
  rw [Array.mapM_eq_mapM_toList]
  simp only [Sem.run_bind,Functor.map]
  change (Sem.run P (List.mapM _ _ >>= fun x => pure x.toArray) w').andThen _ = _
  rw [Sem.run_bind,hm _ (fun t => rfl) k2,k1']
  simp only [Sem.run_pure,Result.andThen_ok]
  match us' with
  | [] => rfl
  | [v] => rfl
  | u :: v :: us =>
   rw [dif_neg (by simp)]
   rfl
 have hRO:=hS'.rows 0 _ hlk
 obtain ⟨ds',hrow',_,hgb',hcb',hel'⟩:=hRO.row
 have hrow':Row w' (slv (σ'.g 0) xs'.length (σ'.cap 0)) k xs'.length ds' (σ'.g 0):=hrow'
 rw [hgb',hcb',hrl] at hrow'
 have hXk:∀ c ∈ X,∃ q o,look q s'.heap = some o∧σ'.g q = some c:=fun c hc => by
  obtain ⟨k,hk,hg⟩:=k5 c hc
  exact look_of hS' (yI0 hr k hk) hg
 have hG:∀ c ∈ G,w.heap.size ≤ c:=fun c hc => by
  obtain ⟨h1,k',hk',o,ho,hcf⟩:=k4 c hc
  rcases h1 with h1|h1
  ·exact h1
  ·have h1:og = some c:=h1
   exact (hS'.disj 0 _ k' o hlk ho (fun e => hk0 (e ▸ hk')) c (qI (hgb'.trans h1)) hcf).elim
 have hrel:=(k6 (og.toList ++ X) (fun c hc => by
  rcases List.mem_append.1 hc with hc|hc
  ·exact ⟨0,_,hlk,hgb'.trans (by simpa using hc)⟩
  ·exact hXk c hc)).narrow (M':=fun c => w.heap.size ≤ c) (X':=X) (fun c hc _ => by
  have hne:og ≠ some c:=fun e => hc.2 (List.mem_append_left _ (by rw [e];simp))
  refine ⟨?_,fun hx => hc.2 (List.mem_append_right _ hx)⟩
  rcases hc.1 with h1|h1|h1
  ·exact .inl h1
  ·exact .inr h1
  ·exact absurd h1 hne)
 have hfin:a'.defers = []∧∃ v,(results fn a'.tmps).run P w' = .ok v w'∧∃ v' rs xs' ds' us' G X,Ending.returned v = .returned v'∧Q0 rs xs'∧Bel ⟨w,fun c => og = some c⟩ w'∧v' = outV us'∧G.Nodup∧(∀ b ∈ G,w.heap.size ≤ b) ∧
   yO A (fun b => w.heap.size ≤ b) w' X rs us' G X∧xs'.length = xs.length∧Row w' (slv og xs.length cap) k xs.length ds' og∧rdR k (fun c => (A c ∨ w.heap.size ≤ c)∧c ∉ X∧og ≠ some c) w' ds' xs' :=
  ⟨hS'.defers,_,hres,_,rs,xs',ds',us',G,X,rfl,hQ,hS'.below,rfl,k3,hG,hrel,hrl,hrow',hel'.mono (fun c hc _ => by
   have hne:og ≠ some c:=fun e => hc.2.2 0 _ hlk (by rw [hgb',e])
   refine ⟨?_,fun hx => ?_,hne⟩
   ·rcases hS'.ok2 c hc.2.1 with h1|h1|h1
    ·exact .inl h1
    ·exact .inr h1
    ·exact absurd h1 hne
   ·obtain ⟨q,o,h1,h2⟩:=hXk c hx
    exact hc.2.2 q o h1 h2)⟩
 rcases he with rfl|rfl <;> exact hfin
end
end
end Go.Proofs.YtedgfkpfhonlpaaGreat

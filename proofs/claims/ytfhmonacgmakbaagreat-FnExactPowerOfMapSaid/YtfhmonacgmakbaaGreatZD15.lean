/- Lemmas (15). -/
import Derived.Test.YtfhmonacgmakbaaGreatZD5
import Derived.Test.YtfhmonacgmakbaaGreatZD6
import Derived.Test.YtfhmonacgmakbaaGreatZD14
set_option linter.unusedSimpArgs false
set_option linter.unusedVariables false
namespace Go.Proofs.YtfhmonacgmakbaaGreat
theorem mP_neg_cg {x y:Int} (h:mP x = mP y):mP (-x) = mP (-y):=by unfold mP at *;omega
theorem mP_add_cg {x y u v:Int} (h:mP x = mP y) (g:mP u = mP v):mP (x + u) = mP (y + v):=by unfold mP at *;omega
theorem mP_mul_cg {x y u v:Int} (h:mP x = mP y) (g:mP u = mP v):mP (x * u) = mP (y * v):=by
 rw [← mP_mul x u,h,mP_mul,← mP_mul_r y u,g,mP_mul_r]
theorem mP_id (x:Int):mP (mP x) = mP x:=by unfold mP;omega
abbrev Mon:=List Nat
abbrev Pol:=List (Int × Mon)
def monV (a:List Int):Mon→Int
 | [] => 1
 | p :: m => a.getD p 0 * monV a m
def polV (a:List Int):Pol→Int
 | [] => 0
 | x :: p => x.1 * monV a x.2 + polV a p
def insMo (q:Nat):Mon→Mon
 | [] => [q]
 | p :: m => bif Nat.ble q p then q :: p :: m else p :: insMo q m
theorem insMo_v (a:List Int) (q:Nat):∀ m,monV a (insMo q m) = a.getD q 0 * monV a m
 | [] => rfl
 | p :: m => by
  show monV a (bif Nat.ble q p then q :: p :: m else p :: insMo q m) = _
  cases Nat.ble q p
  ·show a.getD p 0 * monV a (insMo q m) = a.getD q 0 * (a.getD p 0 * monV a m)
   rw [insMo_v a q m,Int.mul_left_comm]
  ·rfl
def mulMo:Mon→Mon→Mon
 | [],n => n
 | q :: m,n => insMo q (mulMo m n)
theorem mulMo_v (a:List Int):∀ m n,monV a (mulMo m n) = monV a m * monV a n
 | [],n => by show monV a n = 1 * monV a n;rw [Int.one_mul]
 | q :: m,n => by
  show monV a (insMo q (mulMo m n)) = a.getD q 0 * monV a m * monV a n
  rw [insMo_v,mulMo_v a m n,Int.mul_assoc]
def eqMo:Mon→Mon→Bool
 | [],[] => true
 | p :: m,q :: n => Nat.beq p q && eqMo m n
 | _,_ => false
theorem eqMo_eq:∀ {m n:Mon},eqMo m n = true→m = n
 | [],[],_ => rfl
 | p :: m,q :: n,h => by
  have h:(Nat.beq p q && eqMo m n) = true:=h
  rw [Bool.and_eq_true] at h
  rw [Nat.eq_of_beq_eq_true h.1,eqMo_eq h.2]
 | [],_ :: _,h => nomatch h
 | _ :: _,[],h => nomatch h
def ltMo:Mon→Mon→Bool
 | [],[] => false
 | [],_ :: _ => true
 | _ :: _,[] => false
 | p :: m,q :: n => bif Nat.blt p q then true else bif Nat.beq p q then ltMo m n else false
def insPo (c:Int) (m:Mon):Pol→Pol
 | [] => bif c == 0 then [] else [(c,m)]
 | x :: p => bif eqMo m x.2 then (bif c + x.1 == 0 then p else (c + x.1,x.2) :: p) else bif ltMo m x.2 then (c,m) :: x :: p else x :: insPo c m p
theorem insPo_v (a:List Int) (c:Int) (m:Mon):∀ p,polV a (insPo c m p) = c * monV a m + polV a p
 | [] => by
  show polV a (bif c == 0 then [] else [(c,m)]) = _
  cases h:c == 0
  ·rfl
  ·rw [beq_iff_eq.1 h];show (0:Int) = 0 * monV a m + 0;rw [Int.zero_mul];rfl
 | x :: p => by
  show polV a (bif eqMo m x.2 then (bif c + x.1 == 0 then p else (c + x.1,x.2) :: p) else bif ltMo m x.2 then (c,m) :: x :: p else x :: insPo c m p) = c * monV a m + (x.1 * monV a x.2 + polV a p)
  cases he:eqMo m x.2
  ·cases ltMo m x.2
   ·show x.1 * monV a x.2 + polV a (insPo c m p) = _
    rw [insPo_v a c m p,Int.add_left_comm]
   ·rfl
  ·have e:=eqMo_eq he
   have k:c * monV a m + (x.1 * monV a x.2 + polV a p) = (c + x.1) * monV a x.2 + polV a p:=by rw [e,Int.add_mul,Int.add_assoc]
   rw [k]
   cases h:c + x.1 == 0
   ·rfl
   ·rw [beq_iff_eq.1 h,Int.zero_mul,Int.zero_add];rfl
def addPo:Pol→Pol→Pol
 | [],q => q
 | x :: p,q => insPo x.1 x.2 (addPo p q)
theorem addPo_v (a:List Int):∀ p q,polV a (addPo p q) = polV a p + polV a q
 | [],q => by show polV a q = 0 + polV a q;rw [Int.zero_add]
 | x :: p,q => by
  show polV a (insPo x.1 x.2 (addPo p q)) = x.1 * monV a x.2 + polV a p + polV a q
  rw [insPo_v,addPo_v a p q,Int.add_assoc]
def sclPo (c:Int) (m:Mon):Pol→Pol→Pol
 | [],r => r
 | x :: p,r => insPo (c * x.1) (mulMo m x.2) (sclPo c m p r)
theorem sclPo_v (a:List Int) (c:Int) (m:Mon):∀ p r,polV a (sclPo c m p r) = c * monV a m * polV a p + polV a r
 | [],r => by show polV a r = c * monV a m * 0 + polV a r;rw [Int.mul_zero,Int.zero_add]
 | x :: p,r => by
  show polV a (insPo (c * x.1) (mulMo m x.2) (sclPo c m p r)) = c * monV a m * (x.1 * monV a x.2 + polV a p) + polV a r
  rw [insPo_v,sclPo_v a c m p r,mulMo_v,Int.mul_add,← Int.add_assoc]
  congr 2
  rw [Int.mul_assoc,Int.mul_assoc,Int.mul_left_comm x.1]
def mulPo:Pol→Pol→Pol
 | [],_ => []
 | x :: p,q => sclPo x.1 x.2 q (mulPo p q)
theorem mulPo_v (a:List Int):∀ p q,polV a (mulPo p q) = polV a p * polV a q
 | [],q => by show (0:Int) = 0 * polV a q;rw [Int.zero_mul]
 | x :: p,q => by
  show polV a (sclPo x.1 x.2 q (mulPo p q)) = (x.1 * monV a x.2 + polV a p) * polV a q
  rw [sclPo_v,mulPo_v a p q,Int.add_mul]
def prodV (a:List Int):List Int→Int
 | [] => 1
 | p :: ps => a.getD p.toNat 0 * prodV a ps
theorem valM_go (a:List Int):∀ (ps:List Int) (o:Int),mP o = o→ps.foldl (fun o p => mP (o * a.getD p.toNat 0)) o = mP (o * prodV a ps)
 | [],o,h => by show o = mP (o * 1);rw [Int.mul_one,h]
 | p :: ps,o,h => by
  show ps.foldl (fun o p => mP (o * a.getD p.toNat 0)) (mP (o * a.getD p.toNat 0)) = mP (o * (a.getD p.toNat 0 * prodV a ps))
  rw [valM_go a ps _ (mP_id _),mP_mul,Int.mul_assoc]
theorem valM_prod (a ps:List Int):valM a ps = mP (prodV a ps):=by
 have:=valM_go a ps 1 (by decide)
 rw [Int.one_mul] at this
 exact this
def RelP (a L:List Int) (P:List Pol):Prop:=L.length = P.length∧∀ i,mP (L.getD i 0) = mP (polV a (P.getD i []))
theorem RelP.snoc {a L:List Int} {P:List Pol} (h:RelP a L P) {x:Int} {p:Pol} (hx:mP x = mP (polV a p)):RelP a (L ++ [x]) (P ++ [p]):=by
 obtain ⟨h1,h2⟩:=h
 refine ⟨by rw [List.length_append,List.length_append,h1];rfl,fun i => ?_⟩
 rw [List.getD_eq_getElem?_getD,List.getD_eq_getElem?_getD]
 by_cases hi:i < L.length
 ·rw [List.getElem?_append_left hi,List.getElem?_append_left (by omega),← List.getD_eq_getElem?_getD,← List.getD_eq_getElem?_getD]
  exact h2 i
 ·by_cases he:i = L.length
  ·subst he
   rw [List.getElem?_append_right (Nat.le_refl _),List.getElem?_append_right (by omega),h1,Nat.sub_self]
   exact hx
  ·rw [List.getElem?_eq_none (by rw [List.length_append];show L.length + 1 ≤ i;omega),List.getElem?_eq_none (by rw [List.length_append];show P.length + 1 ≤ i;omega)]
   rfl
def crP (P:List Pol):List Int→Pol
 | [] => [(1,[])]
 | p :: ps => mulPo (P.getD p.toNat []) (crP P ps)
theorem crP_v {a L:List Int} {P:List Pol} (h:RelP a L P):∀ ps,mP (prodV L ps) = mP (polV a (crP P ps))
 | [] => by show mP 1 = mP (1 * 1 + 0);rfl
 | p :: ps => by
  show mP (L.getD p.toNat 0 * prodV L ps) = mP (polV a (mulPo (P.getD p.toNat []) (crP P ps)))
  rw [mulPo_v]
  exact mP_mul_cg (h.2 _) (crP_v h ps)
def crMo:List Int→Mon
 | [] => []
 | p :: ps => insMo p.toNat (crMo ps)
theorem crMo_v (a:List Int):∀ ps,monV a (crMo ps) = prodV a ps
 | [] => rfl
 | p :: ps => by
  show monV a (insMo p.toNat (crMo ps)) = a.getD p.toNat 0 * prodV a ps
  rw [insMo_v,crMo_v a ps]
def cutI (a L:List Int) (m:MC):Int:=if m.2.2 = 0 then 0 else mP (m.1 * mP (valM L m.2.1 * a.getD m.2.2.toNat 0))
def rowI (a L:List Int) (cs:List MC):Int:=mP (-((cs.map (cutI a L)).sum))
def invI (a:List Int) (C:List (List MC)):List Int:=C.foldl (fun L cs => L ++ [rowI a L cs]) [1]
def invJ (a:List Int) (C:List (List MC)):List Int:=C.foldl (fun L cs => L ++ [mP (0 - rowV a L cs)]) [1]
def rowPI (P:List Pol):List MC→Pol
 | [] => []
 | m :: cs => bif m.2.2 == 0 then rowPI P cs else addPo (mulPo [(-m.1,[m.2.2.toNat])] (crP P m.2.1)) (rowPI P cs)
def rowPJ (P:List Pol):List MC→Pol
 | [] => []
 | m :: cs => sclPo (-m.1) (crMo m.2.1) (P.getD m.2.2.toNat []) (rowPJ P cs)
theorem rowPI_v {a L:List Int} {P:List Pol} (h:RelP a L P):∀ cs:List MC,mP (-((cs.map (cutI a L)).sum)) = mP (polV a (rowPI P cs))
 | [] => rfl
 | m :: cs => by
  have ih:=rowPI_v h cs
  rw [List.map_cons,List.sum_cons,Int.neg_add]
  show _ = mP (polV a (bif m.2.2 == 0 then rowPI P cs else addPo (mulPo [(-m.1,[m.2.2.toNat])] (crP P m.2.1)) (rowPI P cs)))
  cases hz:m.2.2 == 0
  ·have hz:¬ m.2.2 = 0:=by simpa using hz
   have hc:cutI a L m = mP (m.1 * mP (valM L m.2.1 * a.getD m.2.2.toNat 0)):=if_neg hz
   show mP (-cutI a L m + -((cs.map (cutI a L)).sum)) = mP (polV a (addPo (mulPo [(-m.1,[m.2.2.toNat])] (crP P m.2.1)) (rowPI P cs)))
   rw [addPo_v,mulPo_v]
   refine mP_add_cg ?_ ih
   have e1:polV a [(-m.1,[m.2.2.toNat])] = -(m.1 * a.getD m.2.2.toNat 0):=by
    show -m.1 * (a.getD m.2.2.toNat 0 * 1) + 0 = _
    rw [Int.mul_one,Int.add_zero,Int.neg_mul]
   rw [e1,Int.neg_mul]
   refine mP_neg_cg ?_
   rw [hc,mP_id,mP_mul_r,Int.mul_assoc]
   refine mP_mul_cg rfl ?_
   rw [Int.mul_comm]
   exact mP_mul_cg rfl (by rw [valM_prod,mP_id];exact crP_v h _)
  ·have hz:m.2.2 = 0:=by simpa using hz
   have hc:cutI a L m = 0:=if_pos hz
   rw [hc]
   show mP (-0 + _) = mP (polV a (rowPI P cs))
   rw [Int.neg_zero,Int.zero_add];exact ih
theorem rowPJ_v {a L:List Int} {P:List Pol} (h:RelP a L P):∀ cs:List MC,mP (-((cs.map (cutV a L)).sum)) = mP (polV a (rowPJ P cs))
 | [] => rfl
 | m :: cs => by
  have ih:=rowPJ_v h cs
  rw [List.map_cons,List.sum_cons,Int.neg_add]
  show _ = mP (polV a (sclPo (-m.1) (crMo m.2.1) (P.getD m.2.2.toNat []) (rowPJ P cs)))
  rw [sclPo_v]
  refine mP_add_cg ?_ ih
  rw [crMo_v,Int.neg_mul,Int.neg_mul]
  refine mP_neg_cg ?_
  show mP (mP (m.1 * mP (valM a m.2.1 * L.getD m.2.2.toNat 0))) = _
  rw [mP_id,mP_mul_r,Int.mul_assoc]
  refine mP_mul_cg rfl ?_
  exact mP_mul_cg (by rw [valM_prod,mP_id]) (h.2 _)
def polI (C:List (List MC)):List Pol:=C.foldl (fun P cs => P ++ [rowPI P cs]) [[(1,[])]]
def polJ (C:List (List MC)):List Pol:=C.foldl (fun P cs => P ++ [rowPJ P cs]) [[(1,[])]]
theorem relP_one (a:List Int):RelP a [1] [[(1,[])]]:=⟨rfl,fun i => by
 match i with
 | 0 => show mP 1 = mP (1 * 1 + 0);rfl
 | i + 1 => rfl⟩
theorem relI_go (a:List Int):∀ (C:List (List MC)) (L:List Int) (P:List Pol),RelP a L P→RelP a (C.foldl (fun L cs => L ++ [rowI a L cs]) L) (C.foldl (fun P cs => P ++ [rowPI P cs]) P)
 | [],_,_,h => h
 | cs :: C,L,P,h => relI_go a C _ _ (h.snoc (by rw [← rowPI_v h cs];exact mP_id _))
theorem relJ_go (a:List Int):∀ (C:List (List MC)) (L:List Int) (P:List Pol),RelP a L P→RelP a (C.foldl (fun L cs => L ++ [mP (0 - rowV a L cs)]) L) (C.foldl (fun P cs => P ++ [rowPJ P cs]) P)
 | [],_,_,h => h
 | cs :: C,L,P,h => relJ_go a C _ _ (h.snoc (by
   rw [← rowPJ_v h cs,mP_id,Int.zero_sub]
   exact mP_neg_cg (mP_id _)))
theorem relI (a:List Int) (C:List (List MC)):RelP a (invI a C) (polI C):=relI_go a C _ _ (relP_one a)
theorem relJ (a:List Int) (C:List (List MC)):RelP a (invJ a C) (polJ C):=relJ_go a C _ _ (relP_one a)
theorem small_go (f:List Int→List MC→Int) (hf:∀ L cs,mP (f L cs) = f L cs):∀ (C:List (List MC)) (L:List Int),(∀ x ∈ L,mP x = x)→∀ x ∈ C.foldl (fun L cs => L ++ [f L cs]) L,mP x = x
 | [],_,h => h
 | cs :: C,L,h => small_go f hf C _ (fun x hx => by
   rcases List.mem_append.1 hx with hx|hx
   ·exact h x hx
   ·rw [List.mem_singleton.1 hx];exact hf _ _)
theorem invI_small (a:List Int) (C:List (List MC)):∀ x ∈ invI a C,mP x = x:=small_go (rowI a) (fun _ _ => mP_id _) C _ (by intro x hx;rw [List.mem_singleton.1 hx];rfl)
theorem invJ_small (a:List Int) (C:List (List MC)):∀ x ∈ invJ a C,mP x = x:=small_go (fun L cs => mP (0 - rowV a L cs)) (fun _ _ => mP_id _) C _ (by intro x hx;rw [List.mem_singleton.1 hx];rfl)
theorem inv_same (a:List Int) (C:List (List MC)) (h:polI C = polJ C):invI a C = invJ a C:=by
 obtain ⟨i1,i2⟩:=relI a C
 obtain ⟨j1,j2⟩:=relJ a C
 rw [h] at i1 i2
 refine List.ext_getElem (by omega) fun i h1 h2 => ?_
 have e:=(i2 i).trans (j2 i).symm
 rw [getD_at h1,getD_at h2,invI_small a C _ (List.getElem_mem _),invJ_small a C _ (List.getElem_mem _)] at e
 exact e
set_option maxRecDepth 100000 in
theorem pol6:polI (T6.map cutsM) = polJ (T6.map cutsM):=by decide +kernel
theorem inv6 (a:List Int):invI a (T6.map cutsM) = invJ a (T6.map cutsM):=inv_same a _ pol6
end Go.Proofs.YtfhmonacgmakbaaGreat
namespace Go.Proofs.YtfhmonacgmakbaaGreat
open Go.RowKit
theorem a_valueOfB (a ps:List Int) (hab:∀ i,0 ≤ a.getD i 0∧a.getD i 0 < 10007) (hp:∀ p ∈ ps,0 ≤ p∧p < a.length) (hl:ps.length ≤ 1000000):AFn Tryz.prog 56 [eL a,eL ps] (· = [.val (.int (valM a ps))]):=by
 refine AFn.of_runs (cfg_ok 23) Tryz.func56 rfl rfl rfl (by simp only [List.length_cons,List.length_nil];decide) ?_
 have hres:Tryz.f56.results.toList = [.tmp 4]:=rfl
 have hrts:Tryz.f56.resultTypes.toList = [2]:=rfl
 simp only [argRegs,argAV1,eL,eI,eLL,eB,Nat.zero_add,Nat.reduceAdd]
 intro M
 refine RunK.of ?_
 repeat' (first|with_reducible (first|refine Q1 ?_|refine Q2 ?_|refine Q3 ?_|refine Q4 ?_|refine Q5 ?_|refine Q6 ?_|refine Q7 ?_|refine Q8 ?_|refine Q9 ?_|refine Qa ?_|refine Qb ?_|refine Qc ?_|refine Qd ?_|refine Qe ?_|refine Qf ?_)|((with_reducible refine Qo ?_ ?_);focus rfl)|((with_reducible first|refine QT 11 (l:=?_) ?_ ?_|refine QF 11 (l:=?_) ?_ ?_);rotate_left 1;focus (simp only [Zu,Nat.reduceSub,Nat.reduceBEq];with_reducible rfl))|((with_reducible first|refine QS (cfg_ok 23) Tab.none (s':=?_) ?_ ?_|refine QC (b:=?_) ?_ ?_);rotate_left 1;focus ((with_reducible refine QW ?_);simp only [Zg,seval,if_true,if_false,reduceCtorEq,Nat.reduceEqDiff,List.length_map];with_reducible rfl)))
 refine RunK.loop (β:=Nat) (γ:=Unit) (fun k => ⟨[(0,.c (.val (.sl 1 (a.map eI)))),(5,.c (.val (.int (valM a (ps.take k))))),(8,.c (.val (.sl 1 (ps.map eI)))),(9,.c (.val (.int ps.length))),(10,.c (.val (.int k)))],[]⟩) (fun k => k ≤ ps.length) (fun k => ps.length - k)
  (fun _ => ⟨[(5,.c (.val (.int (valM a ps))))],[]⟩) (fun _ => True) 0 (Nat.zero_le _) ?_ ?_ ?_
 ·(repeat' (first|with_reducible refine Qn|((with_reducible refine Qr ?_ ?_);focus (first|with_reducible rfl|(simp only [Zz,Nat.reduceBEq,List.take_zero,show valM a [] = 1 from rfl,Int.natCast_zero];done)|rfl))|((with_reducible refine Qj (o':=?_) ?_ ?_ ?_);rotate_left 1;focus rfl)|((with_reducible refine Qw ?_ ?_);(focus (first|with_reducible rfl|(simp only [Zv,List.take_zero,show valM a [] = 1 from rfl,Int.natCast_zero];done)));focus (first|exact id|exact (fun h => nomatch h)|exact (fun _ => rfl)))))
 ·intro k hk
  have hk:k ≤ ps.length:=hk
  have hw:=w64_succ (n:=k) (by omega)
  by_cases h:k < ps.length
  ·have i1:((k:Int) < (ps.length:Int)) = True:=eq_true (by omega)
   have i2:((0:Int) ≤ (k:Int)) = True:=eq_true (by omega)
   obtain ⟨p,hpe⟩:∃ p,p = ps[k]:=⟨_,rfl⟩
   obtain ⟨p1,p2⟩:=hp ps[k] (List.getElem_mem _)
   rw [← hpe] at p1 p2
   obtain ⟨m,rfl⟩:∃ m:Nat,p = m:=⟨p.toNat,by omega⟩
   have hm:m < a.length:=by omega
   have hle1:(ps.map eI).length = ps.length:=List.length_map _
   have hle2:(a.map eI).length = a.length:=List.length_map _
   have hg1:(ps.map eI)[k]? = some [.int (m:Int)]:=by rw [map_get h,← hpe];rfl
   have hg2:(a.map eI)[m]? = some [.int (a.getD m 0)]:=by rw [map_get hm,getD_at hm];rfl
   have hst:valM a (ps.take (k + 1)) = mP (valM a (ps.take k) * a.getD m 0):=by rw [List.take_succ_eq_append_getElem h,valM_snoc,← hpe];rfl
   have i3:((m:Int) < (a.length:Int)) = True:=eq_true (by omega)
   have i4:((0:Int) ≤ (m:Int)) = True:=eq_true (by omega)
   have hmb:=mul_bdM (valM_bd a (ps.take k)) (hab m)
   have hw2:w64 (valM a (ps.take k) * a.getD m 0) = valM a (ps.take k) * a.getD m 0:=w64_eq (by omega)
   have hnum:=a_num (valM a (ps.take k) * a.getD m 0)
   simp only [eI] at hnum
   repeat' (first|with_reducible (first|refine Q1 ?_|refine Q2 ?_|refine Q3 ?_|refine Q4 ?_|refine Q5 ?_|refine Q6 ?_|refine Q7 ?_|refine Q8 ?_|refine Q9 ?_|refine Qa ?_|refine Qb ?_|refine Qc ?_|refine Qd ?_|refine Qe ?_|refine Qf ?_)|((with_reducible refine Qo ?_ ?_);focus rfl)|((with_reducible first|refine QT 11 (l:=?_) ?_ ?_|refine QF 11 (l:=?_) ?_ ?_);rotate_left 1;focus (simp only [Zu,Nat.reduceSub,Nat.reduceBEq];with_reducible rfl))|((with_reducible first|refine QS (cfg_ok 23) (Tab.none.at' 77 hnum) (s':=?_) ?_ ?_|refine QC (b:=?_) ?_ ?_);rotate_left 1;focus ((with_reducible refine QW ?_);simp only [Zg,seval,if_true,if_false,reduceCtorEq,Nat.reduceEqDiff,i1,i2,i3,i4,hle1,hle2,hg1,hg2,hw,hw2,Int.toNat_natCast];with_reducible rfl)))
   refine roundK.on (k + 1) ⟨h,by omega⟩ ?_
   rw [hst]
   (repeat' (first|with_reducible refine Qn|((with_reducible refine Qr ?_ ?_);focus (first|with_reducible rfl|(simp only [Zz,Nat.reduceBEq];done)|rfl))|((with_reducible refine Qj (o':=?_) ?_ ?_ ?_);rotate_left 1;focus rfl)|((with_reducible refine Qw ?_ ?_);(focus (first|with_reducible rfl|(simp only [Zv];done)));focus (first|exact id|exact (fun h => nomatch h)|exact (fun _ => rfl)))))
  ·have i1:((k:Int) < (ps.length:Int)) = False:=eq_false (by omega)
   repeat' (first|with_reducible (first|refine Q1 ?_|refine Q2 ?_|refine Q3 ?_|refine Q4 ?_|refine Q5 ?_|refine Q6 ?_|refine Q7 ?_|refine Q8 ?_|refine Q9 ?_|refine Qa ?_|refine Qb ?_|refine Qc ?_|refine Qd ?_|refine Qe ?_|refine Qf ?_)|((with_reducible refine Qo ?_ ?_);focus rfl)|((with_reducible first|refine QT 11 (l:=?_) ?_ ?_|refine QF 11 (l:=?_) ?_ ?_);rotate_left 1;focus (simp only [Zu,Nat.reduceSub,Nat.reduceBEq];with_reducible rfl))|((with_reducible first|refine QS (cfg_ok 23) Tab.none (s':=?_) ?_ ?_|refine QC (b:=?_) ?_ ?_);rotate_left 1;focus ((with_reducible refine QW ?_);simp only [Zg,seval,if_true,if_false,reduceCtorEq,Nat.reduceEqDiff,i1];with_reducible rfl)))
   refine roundK.out () trivial ?_
   rw [List.take_of_length_le (by omega)]
   (repeat' (first|with_reducible refine Qn|((with_reducible refine Qr ?_ ?_);focus (first|with_reducible rfl|(simp only [Zz,Nat.reduceBEq];done)|rfl))|((with_reducible refine Qj (o':=?_) ?_ ?_ ?_);rotate_left 1;focus rfl)|((with_reducible refine Qw ?_ ?_);(focus (first|with_reducible rfl|(simp only [Zv];done)));focus (first|exact id|exact (fun h => nomatch h)|exact (fun _ => rfl)))))
 ·rintro _ _
  repeat' (first|with_reducible (first|refine Q1 ?_|refine Q2 ?_|refine Q3 ?_|refine Q4 ?_|refine Q5 ?_|refine Q6 ?_|refine Q7 ?_|refine Q8 ?_|refine Q9 ?_|refine Qa ?_|refine Qb ?_|refine Qc ?_|refine Qd ?_|refine Qe ?_|refine Qf ?_)|((with_reducible refine Qo ?_ ?_);focus rfl)|((with_reducible first|refine QT 11 (l:=?_) ?_ ?_|refine QF 11 (l:=?_) ?_ ?_);rotate_left 1;focus (simp only [Zu,Nat.reduceSub,Nat.reduceBEq];with_reducible rfl))|((with_reducible first|refine QS (cfg_ok 23) Tab.none (s':=?_) ?_ ?_|refine QC (b:=?_) ?_ ?_);rotate_left 1;focus ((with_reducible refine QW ?_);simp only [Zg,seval,if_true,if_false,reduceCtorEq,Nat.reduceEqDiff];with_reducible rfl)))
  (refine Ends.mk (by simp) (rs:=?_) (ks:=?_) hres hrts ?_ ?_ ?_;rotate_left 2;(focus (simp only [Ze,Zg,seval,if_true,if_false,reduceCtorEq,Nat.reduceEqDiff];with_reducible rfl));(focus simp);focus (first|with_reducible rfl|(simp only [Zv];done)))
theorem cuts_low:(T6.zipIdx.all fun x => (cutsM x.1).all fun m => decide (m.2.2 = 0) || (m.2.1.all fun p => decide (p ≤ x.2))) = true:=by decide +kernel
theorem cuts_before {i:Nat} (h:i < T6.length):∀ m ∈ cutsM T6[i],m.2.2 ≠ 0→∀ p ∈ m.2.1,p ≤ i:=by
 intro m hm hz p hp
 have h1:=List.all_eq_true.1 cuts_low (T6[i],i) (by rw [List.mem_iff_getElem];exact ⟨i,by rw [List.length_zipIdx];exact h,by rw [List.getElem_zipIdx,Nat.zero_add]⟩)
 have h2:=List.all_eq_true.1 h1 m hm
 simp only [Bool.or_eq_true,decide_eq_true_eq,List.all_eq_true] at h2
 exact (h2.resolve_left hz) p hp
theorem cutI_bd (a L:List Int) (m:MC):0 ≤ cutI a L m∧cutI a L m < 10007:=by
 unfold cutI
 split
 ·omega
 ·exact mP_bd _
theorem sumI_bd (a L:List Int):∀ (C:List MC),0 ≤ (C.map (cutI a L)).sum∧(C.map (cutI a L)).sum ≤ 10007 * C.length
 | [] => by simp
 | m :: C => by
  have h1:=cutI_bd a L m
  have h2:=sumI_bd a L C
  rw [List.map_cons,List.sum_cons,List.length_cons];omega
theorem sumI_snoc (a L:List Int) (C:List MC) (m:MC):((C ++ [m]).map (cutI a L)).sum = (C.map (cutI a L)).sum + cutI a L m:=by
 rw [List.map_append,List.sum_append];simp
theorem invI_len (a:List Int):∀ (C:List (List MC)),(invI a C).length = C.length + 1:=by
 have key:∀ (C:List (List MC)) (L:List Int),(C.foldl (fun L cs => L ++ [rowI a L cs]) L).length = L.length + C.length:=by
  intro C
  induction C with
  | nil => intro L;rfl
  | cons cs C ih => intro L;show (C.foldl (fun L cs => L ++ [rowI a L cs]) (L ++ [rowI a L cs])).length = _;rw [ih,List.length_append,List.length_cons,List.length_cons,List.length_nil];omega
 intro C
 show (C.foldl (fun L cs => L ++ [rowI a L cs]) [1]).length = _
 rw [key];show 1 + C.length = _;omega
theorem invI_snoc (a:List Int) (C:List (List MC)) (cs:List MC):invI a (C ++ [cs]) = invI a C ++ [rowI a (invI a C) cs]:=by
 unfold invI
 rw [List.foldl_append];rfl
theorem invJ_snoc (a:List Int) (C:List (List MC)) (cs:List MC):invJ a (C ++ [cs]) = invJ a C ++ [mP (0 - rowV a (invJ a C) cs)]:=by
 unfold invJ
 rw [List.foldl_append];rfl
theorem invI_bd (a:List Int) (C:List (List MC)):∀ i,0 ≤ (invI a C).getD i 0∧(invI a C).getD i 0 < 10007:=by
 intro i
 by_cases hi:i < (invI a C).length
 ·rw [getD_at hi,← invI_small a C _ (List.getElem_mem hi)];exact mP_bd _
 ·rw [List.getD_eq_getElem?_getD,List.getElem?_eq_none (by omega)];decide
theorem take_cuts {i:Nat} (h:i < T6.length):(T6.take (i + 1)).map cutsM = (T6.take i).map cutsM ++ [cutsM T6[i]]:=by
 rw [List.take_succ_eq_append_getElem h,List.map_append];rfl
set_option maxRecDepth 20000 in
set_option maxHeartbeats 16000000 in
theorem a_inverseMap (X:List (List D)) (a:List Int) (ha:isMap a = true):AFn Tryz.prog 63 [[.sl 1 X,.sl 1 ((T6.map cutsM).map eMs)],eL a] (· = [.own 1 ((invI a (T6.map cutsM)).map eI) true]):=by
 obtain ⟨hal,hab⟩:=isMap_bd ha
 obtain ⟨Y,hY⟩:∃ Y,Y = (T6.map cutsM).map eMs:=⟨_,rfl⟩
 have hYl:Y.length = 37:=by rw [hY,List.length_map,List.length_map,T6_len]
 have ham:(a.map eI).length = 38:=by rw [List.length_map,hal]
 rw [← hY]
 refine AFn.of_runs (cfg_ok 54) Tryz.func63 rfl rfl rfl (by simp only [List.length_cons,List.length_nil];decide) ?_
 have hres:Tryz.f63.results.toList = [.tmp 4]:=rfl
 have hrts:Tryz.f63.resultTypes.toList = [22]:=rfl
 simp only [argRegs,argAV1,eL,eI,eLL,eB,Nat.zero_add,Nat.reduceAdd]
 intro M
 refine RunK.of ?_
 repeat' (first|with_reducible (first|refine Q1 ?_|refine Q2 ?_|refine Q3 ?_|refine Q4 ?_|refine Q5 ?_|refine Q6 ?_|refine Q7 ?_|refine Q8 ?_|refine Q9 ?_|refine Qa ?_|refine Qb ?_|refine Qc ?_|refine Qd ?_|refine Qe ?_|refine Qf ?_)|((with_reducible refine Qo ?_ ?_);focus rfl)|((with_reducible first|refine QT 22 (l:=?_) ?_ ?_|refine QF 22 (l:=?_) ?_ ?_);rotate_left 1;focus (simp only [Zu,Nat.reduceSub,Nat.reduceBEq];with_reducible rfl))|((with_reducible first|refine QS (cfg_ok 54) Tab.none (s':=?_) ?_ ?_|refine QC (b:=?_) ?_ ?_);rotate_left 1;focus ((with_reducible refine QW ?_);simp only [Zg,seval,if_true,if_false,reduceCtorEq,Nat.reduceEqDiff,hYl];with_reducible rfl))|((with_reducible refine QD (cfg_ok 54) Tab.none mixed_ok (tr:=?_) (s':=?_) ?_ ?_ ?_);rotate_left 2;(focus ((with_reducible refine QW ?_);simp only [Zg,Zd,seval,if_true,if_false,reduceCtorEq,Nat.reduceEqDiff,hYl];with_reducible rfl));focus ((with_reducible refine QK ?_);simp only [Zk];kernel_rfl)))
 refine RunK.loop (β:=Nat) (γ:=Unit) (fun i => ⟨[(1,.c (.val (.sl 1 (a.map eI)))),(5,.c (.own 5 (i + 1))),(13,.c (.val (.sl 1 Y))),(14,.c (.val (.int 37))),(15,.c (.val (.int i)))],[(5,.row 1 ((invI a ((T6.take i).map cutsM)).map eI) true)]⟩) (fun i => i ≤ 37) (fun i => 37 - i)
  (fun _ => ⟨[(5,.c (.own 5 38))],[(5,.row 1 ((invI a (T6.map cutsM)).map eI) true)]⟩) (fun _ => True) 0 (Nat.zero_le _) ?_ ?_ ?_
 ·(repeat' (first|with_reducible refine Qn|((with_reducible refine Qr ?_ ?_);focus (first|with_reducible rfl|(simp only [Zz,Nat.reduceBEq,List.take_zero,List.map_nil,Int.natCast_zero,List.map_cons,eI,show invI a [] = [1] from rfl];done)|rfl))|((with_reducible refine Qj (o':=?_) ?_ ?_ ?_);rotate_left 1;focus rfl)|((with_reducible refine Qw ?_ ?_);(focus (first|with_reducible rfl|(simp only [Zv,List.take_zero,List.map_nil,Int.natCast_zero,List.map_cons,eI,show invI a [] = [1] from rfl];done)));focus (first|exact id|exact (fun h => nomatch h)|exact (fun _ => rfl)))))
 ·intro i hi
  have hi:i ≤ 37:=hi
  have hw:=w64_succ (n:=i) (by omega)
  by_cases hi37:i < 37
  ·have i1:((i:Int) < 37) = True:=eq_true (by omega)
   have i2:((0:Int) ≤ (i:Int)) = True:=eq_true (by omega)
   have hiT:i < T6.length:=by rw [T6_len];exact hi37
   have hbef:=cuts_before hiT
   have hat:=invI_snoc a ((T6.take i).map cutsM) (cutsM T6[i])
   rw [← take_cuts hiT] at hat
   have hRl:=invI_len a ((T6.take i).map cutsM)
   rw [List.length_map,List.length_take,Nat.min_eq_left (by omega)] at hRl
   have hRb:=invI_bd a ((T6.take i).map cutsM)
   obtain ⟨t,ht⟩:∃ t,t = T6[i]:=⟨_,rfl⟩
   have htm:t ∈ T6:=by rw [ht];exact List.getElem_mem _
   have hg:Y[i]? = some [.sl 3 ((cutsM t).map eM)]:=by rw [hY,List.map_map,map_get hiT,← ht];rfl
   obtain ⟨R,hR⟩:∃ R,R = invI a ((T6.take i).map cutsM):=⟨_,rfl⟩
   rw [← ht] at hbef hat
   rw [← hR] at hat hRl hRb ⊢
   have hRm:(R.map eI).length = i + 1:=by rw [List.length_map,hRl]
   obtain ⟨hLn,hLok⟩:=cutsM_ok htm
   obtain ⟨L,hL⟩:∃ L,L = cutsM t:=⟨_,rfl⟩
   rw [← hL] at hg hat hLn hLok hbef
   have hLm:(L.map eM).length = L.length:=List.length_map _
   repeat' (first|with_reducible (first|refine Q1 ?_|refine Q2 ?_|refine Q3 ?_|refine Q4 ?_|refine Q5 ?_|refine Q6 ?_|refine Q7 ?_|refine Q8 ?_|refine Q9 ?_|refine Qa ?_|refine Qb ?_|refine Qc ?_|refine Qd ?_|refine Qe ?_|refine Qf ?_)|((with_reducible refine Qo ?_ ?_);focus rfl)|((with_reducible first|refine QT 22 (l:=?_) ?_ ?_|refine QF 22 (l:=?_) ?_ ?_);rotate_left 1;focus (simp only [Zu,Nat.reduceSub,Nat.reduceBEq];with_reducible rfl))|((with_reducible first|refine QS (cfg_ok 54) Tab.none (s':=?_) ?_ ?_|refine QC (b:=?_) ?_ ?_);rotate_left 1;focus ((with_reducible refine QW ?_);simp only [Zg,seval,if_true,if_false,reduceCtorEq,Nat.reduceEqDiff,i1,i2,hg,hYl,hLm,Int.toNat_natCast];with_reducible rfl))|((with_reducible refine QD (cfg_ok 54) Tab.none mixed_ok (tr:=?_) (s':=?_) ?_ ?_ ?_);rotate_left 2;(focus ((with_reducible refine QW ?_);simp only [Zg,Zd,seval,if_true,if_false,reduceCtorEq,Nat.reduceEqDiff,i1,i2,hg,hYl,hLm,Int.toNat_natCast];with_reducible rfl));focus ((with_reducible refine QK ?_);simp only [Zk];kernel_rfl)))
   refine RunK.loop (β:=Nat) (γ:=Unit) (fun j => ⟨[(1,.c (.val (.sl 1 (a.map eI)))),(5,.c (.own 5 (i + 1))),(8,.c (.val (.int ((L.take j).map (cutI a R)).sum))),(13,.c (.val (.sl 1 Y))),(14,.c (.val (.int 37))),(15,.c (.val (.int i))),(19,.c (.val (.sl 3 (L.map eM)))),(20,.c (.val (.int L.length))),(21,.c (.val (.int j)))],[(5,.row 1 (R.map eI) true)]⟩) (fun j => j ≤ L.length) (fun j => L.length - j)
    (fun _ => ⟨[(1,.c (.val (.sl 1 (a.map eI)))),(5,.c (.own 5 (i + 1))),(8,.c (.val (.int (L.map (cutI a R)).sum))),(13,.c (.val (.sl 1 Y))),(14,.c (.val (.int 37))),(15,.c (.val (.int i)))],[(5,.row 1 (R.map eI) true)]⟩) (fun _ => True) 0 (Nat.zero_le _) ?_ ?_ ?_
   ·(repeat' (first|with_reducible refine Qn|((with_reducible refine Qr ?_ ?_);focus (first|with_reducible rfl|(simp only [Zz,Nat.reduceBEq,List.take_zero,List.map_nil,Int.natCast_zero,List.sum_nil];done)|rfl))|((with_reducible refine Qj (o':=?_) ?_ ?_ ?_);rotate_left 1;focus rfl)|((with_reducible refine Qw ?_ ?_);(focus (first|with_reducible rfl|(simp only [Zv,List.take_zero,List.map_nil,Int.natCast_zero,List.sum_nil];done)));focus (first|exact id|exact (fun h => nomatch h)|exact (fun _ => rfl)))))
   ·intro j hj
    have hj:j ≤ L.length:=hj
    have hwj:=w64_succ (n:=j) (by omega)
    by_cases hjL:j < L.length
    ·have j1:((j:Int) < (L.length:Int)) = True:=eq_true (by omega)
     have j2:((0:Int) ≤ (j:Int)) = True:=eq_true (by omega)
     obtain ⟨m,hm⟩:∃ m,m = L[j]:=⟨_,rfl⟩
     have hmg:(L.map eM)[j]? = some [.int m.1,.sl 1 (m.2.1.map eI),.int m.2.2]:=by rw [map_get hjL,hm];rfl
     obtain ⟨m1,m2,m3,m4,m5⟩:=hLok L[j] (List.getElem_mem _)
     have hbm:=hbef L[j] (List.getElem_mem _)
     rw [← hm] at m1 m2 m3 m4 m5 hbm
     have hst:((L.take (j + 1)).map (cutI a R)).sum = ((L.take j).map (cutI a R)).sum + cutI a R m:=by
      rw [List.take_succ_eq_append_getElem hjL,sumI_snoc,← hm]
     have hsb:=sumI_bd a R (L.take j)
     have htl:(L.take j).length ≤ 256:=by rw [List.length_take];omega
     have hcb:=cutI_bd a R m
     obtain ⟨n,ps,z⟩:=m
     simp only at hmg m1 m2 m3 m4 m5 hbm
     by_cases hz:z = 0
     ·subst hz
      have hcv:cutI a R (n,ps,0) = 0:=if_pos rfl
      rw [hcv,Int.add_zero] at hst
      have z1:((0:Int) > 0) = False:=eq_false (by omega)
      repeat' (first|with_reducible (first|refine Q1 ?_|refine Q2 ?_|refine Q3 ?_|refine Q4 ?_|refine Q5 ?_|refine Q6 ?_|refine Q7 ?_|refine Q8 ?_|refine Q9 ?_|refine Qa ?_|refine Qb ?_|refine Qc ?_|refine Qd ?_|refine Qe ?_|refine Qf ?_)|((with_reducible refine Qo ?_ ?_);focus rfl)|((with_reducible first|refine QT 22 (l:=?_) ?_ ?_|refine QF 22 (l:=?_) ?_ ?_);rotate_left 1;focus (simp only [Zu,Nat.reduceSub,Nat.reduceBEq];with_reducible rfl))|((with_reducible first|refine QS (cfg_ok 54) Tab.none (s':=?_) ?_ ?_|refine QC (b:=?_) ?_ ?_);rotate_left 1;focus ((with_reducible refine QW ?_);simp only [Zg,seval,if_true,if_false,reduceCtorEq,Nat.reduceEqDiff,j1,j2,hmg,hLm,z1,hwj,Int.toNat_natCast];with_reducible rfl))|((with_reducible refine QD (cfg_ok 54) Tab.none mixed_ok (tr:=?_) (s':=?_) ?_ ?_ ?_);rotate_left 2;(focus ((with_reducible refine QW ?_);simp only [Zg,Zd,seval,if_true,if_false,reduceCtorEq,Nat.reduceEqDiff,j1,j2,hmg,hLm,z1,hwj,Int.toNat_natCast];with_reducible rfl));focus ((with_reducible refine QK ?_);simp only [Zk];kernel_rfl)))
      refine roundK.on (j + 1) ⟨hjL,by omega⟩ ?_
      rw [hst]
      (repeat' (first|with_reducible refine Qn|((with_reducible refine Qr ?_ ?_);focus (first|with_reducible rfl|(simp only [Zz,Nat.reduceBEq];done)|rfl))|((with_reducible refine Qj (o':=?_) ?_ ?_ ?_);rotate_left 1;focus rfl)|((with_reducible refine Qw ?_ ?_);(focus (first|with_reducible rfl|(simp only [Zv];done)));focus (first|exact id|exact (fun h => nomatch h)|exact (fun _ => rfl)))))
     ·have hcv:cutI a R (n,ps,z) = mP (n * mP (valM R ps * a.getD z.toNat 0)):=if_neg hz
      obtain ⟨q,rfl⟩:∃ q:Nat,z = q:=⟨z.toNat,by omega⟩
      rw [Int.toNat_natCast] at hcv
      have hq:q < a.length:=by omega
      have z1:((q:Int) > 0) = True:=eq_true (by omega)
      have k1:((q:Int) < 38) = True:=eq_true (by omega)
      have k2:((0:Int) ≤ (q:Int)) = True:=eq_true (by omega)
      have hbg:(a.map eI)[q]? = some [.int (a.getD q 0)]:=by rw [map_get hq,getD_at hq];rfl
      have hv:=a_valueOfB R ps hRb (fun p hp => by have h1:=m2 p hp;have h2:=hbm hz p hp;omega) (by omega)
      simp only [eL] at hv
      have hvb:=valM_bd R ps
      have hm1:=mul_bdM hvb (hab q)
      have hw1:w64 (valM R ps * a.getD q 0) = valM R ps * a.getD q 0:=w64_eq (by omega)
      have hm2:=mul_bdM (a:=n) (by omega) (mP_bd (valM R ps * a.getD q 0))
      have hw2:w64 (n * mP (valM R ps * a.getD q 0)) = n * mP (valM R ps * a.getD q 0):=w64_eq (by omega)
      have hw3:w64 (((L.take j).map (cutI a R)).sum + mP (n * mP (valM R ps * a.getD q 0))) = ((L.take j).map (cutI a R)).sum + mP (n * mP (valM R ps * a.getD q 0)):=w64_eq (by rw [← hcv];omega)
      rw [hcv] at hst
      repeat' (first|with_reducible (first|refine Q1 ?_|refine Q2 ?_|refine Q3 ?_|refine Q4 ?_|refine Q5 ?_|refine Q6 ?_|refine Q7 ?_|refine Q8 ?_|refine Q9 ?_|refine Qa ?_|refine Qb ?_|refine Qc ?_|refine Qd ?_|refine Qe ?_|refine Qf ?_)|((with_reducible refine Qo ?_ ?_);focus rfl)|((with_reducible first|refine QT 22 (l:=?_) ?_ ?_|refine QF 22 (l:=?_) ?_ ?_);rotate_left 1;focus (simp only [Zu,Nat.reduceSub,Nat.reduceBEq];with_reducible rfl))|((with_reducible first|refine QS (cfg_ok 54) ((TNm.at' 56 hv)) (s':=?_) ?_ ?_|refine QC (b:=?_) ?_ ?_);rotate_left 1;focus ((with_reducible refine QW ?_);simp only [Zg,seval,if_true,if_false,reduceCtorEq,Nat.reduceEqDiff,TNm,j1,j2,hmg,hLm,ham,hbg,k1,k2,z1,hw1,hw2,hw3,hwj,Int.toNat_natCast];with_reducible rfl))|((with_reducible refine QD (cfg_ok 54) ((TNm.at' 56 hv)) mixed_ok (tr:=?_) (s':=?_) ?_ ?_ ?_);rotate_left 2;(focus ((with_reducible refine QW ?_);simp only [Zg,Zd,seval,if_true,if_false,reduceCtorEq,Nat.reduceEqDiff,TNm,j1,j2,hmg,hLm,ham,hbg,k1,k2,z1,hw1,hw2,hw3,hwj,Int.toNat_natCast];with_reducible rfl));focus ((with_reducible refine QK ?_);simp only [Zk];kernel_rfl)))
      refine roundK.on (j + 1) ⟨hjL,by omega⟩ ?_
      rw [hst]
      (repeat' (first|with_reducible refine Qn|((with_reducible refine Qr ?_ ?_);focus (first|with_reducible rfl|(simp only [Zz,Nat.reduceBEq];done)|rfl))|((with_reducible refine Qj (o':=?_) ?_ ?_ ?_);rotate_left 1;focus rfl)|((with_reducible refine Qw ?_ ?_);(focus (first|with_reducible rfl|(simp only [Zv];done)));focus (first|exact id|exact (fun h => nomatch h)|exact (fun _ => rfl)))))
    ·have j1:((j:Int) < (L.length:Int)) = False:=eq_false (by omega)
     obtain rfl:j = L.length:=by omega
     repeat' (first|with_reducible (first|refine Q1 ?_|refine Q2 ?_|refine Q3 ?_|refine Q4 ?_|refine Q5 ?_|refine Q6 ?_|refine Q7 ?_|refine Q8 ?_|refine Q9 ?_|refine Qa ?_|refine Qb ?_|refine Qc ?_|refine Qd ?_|refine Qe ?_|refine Qf ?_)|((with_reducible refine Qo ?_ ?_);focus rfl)|((with_reducible first|refine QT 22 (l:=?_) ?_ ?_|refine QF 22 (l:=?_) ?_ ?_);rotate_left 1;focus (simp only [Zu,Nat.reduceSub,Nat.reduceBEq];with_reducible rfl))|((with_reducible first|refine QS (cfg_ok 54) Tab.none (s':=?_) ?_ ?_|refine QC (b:=?_) ?_ ?_);rotate_left 1;focus ((with_reducible refine QW ?_);simp only [Zg,seval,if_true,if_false,reduceCtorEq,Nat.reduceEqDiff,j1];with_reducible rfl))|((with_reducible refine QD (cfg_ok 54) Tab.none mixed_ok (tr:=?_) (s':=?_) ?_ ?_ ?_);rotate_left 2;(focus ((with_reducible refine QW ?_);simp only [Zg,Zd,seval,if_true,if_false,reduceCtorEq,Nat.reduceEqDiff,j1];with_reducible rfl));focus ((with_reducible refine QK ?_);simp only [Zk];kernel_rfl)))
     refine roundK.out () trivial ?_
     rw [List.take_length]
     (repeat' (first|with_reducible refine Qn|((with_reducible refine Qr ?_ ?_);focus (first|with_reducible rfl|(simp only [Zz,Nat.reduceBEq];done)|rfl))|((with_reducible refine Qj (o':=?_) ?_ ?_ ?_);rotate_left 1;focus rfl)|((with_reducible refine Qw ?_ ?_);(focus (first|with_reducible rfl|(simp only [Zv];done)));focus (first|exact id|exact (fun h => nomatch h)|exact (fun _ => rfl)))))
   ·rintro _ _
    have q1:=big_le (n:=i + 1 + 1) (by omega)
    have q2:=big_mul (n:=i + 1 + 1) (c:=8) (by omega) (by omega)
    have q3:(i ≤ 140737488355326) = True:=eq_true (by omega)
    have hsb:=sumI_bd a R L
    have hwn:w64 (0 - (L.map (cutI a R)).sum) = -(L.map (cutI a R)).sum:=by rw [w64_eq (by omega)];omega
    repeat' (first|with_reducible (first|refine Q1 ?_|refine Q2 ?_|refine Q3 ?_|refine Q4 ?_|refine Q5 ?_|refine Q6 ?_|refine Q7 ?_|refine Q8 ?_|refine Q9 ?_|refine Qa ?_|refine Qb ?_|refine Qc ?_|refine Qd ?_|refine Qe ?_|refine Qf ?_)|((with_reducible refine Qo ?_ ?_);focus rfl)|((with_reducible first|refine QT 22 (l:=?_) ?_ ?_|refine QF 22 (l:=?_) ?_ ?_);rotate_left 1;focus (simp only [Zu,Nat.reduceSub,Nat.reduceBEq];with_reducible rfl))|((with_reducible first|refine QS (cfg_ok 54) TNm (s':=?_) ?_ ?_|refine QC (b:=?_) ?_ ?_);rotate_left 1;focus ((with_reducible refine QW ?_);simp only [Zg,seval,if_true,if_false,reduceCtorEq,Nat.reduceEqDiff,TNm,TNm,hRm,q1,q2,q3,hw,hwn];with_reducible rfl))|((with_reducible refine QD (cfg_ok 54) TNm mixed_ok (tr:=?_) (s':=?_) ?_ ?_ ?_);rotate_left 2;(focus ((with_reducible refine QW ?_);simp only [Zg,Zd,seval,if_true,if_false,reduceCtorEq,Nat.reduceEqDiff,TNm,TNm,hRm,q1,q2,q3,hw,hwn];with_reducible rfl));focus ((with_reducible refine QK ?_);simp only [Zk];kernel_rfl)))
    refine roundK.on (i + 1) ⟨by omega,by omega⟩ ?_
    rw [hat,List.map_append]
    (repeat' (first|with_reducible refine Qn|((with_reducible refine Qr ?_ ?_);focus (first|with_reducible rfl|(simp only [Zz,Nat.reduceBEq,List.map_cons,List.map_nil,eI,rowI];done)|rfl))|((with_reducible refine Qj (o':=?_) ?_ ?_ ?_);rotate_left 1;focus rfl)|((with_reducible refine Qw ?_ ?_);(focus (first|with_reducible rfl|(simp only [Zv,List.map_cons,List.map_nil,eI,rowI];done)));focus (first|exact id|exact (fun h => nomatch h)|exact (fun _ => rfl)))))
  ·have i1:((i:Int) < 37) = False:=eq_false (by omega)
   obtain rfl:i = 37:=by omega
   repeat' (first|with_reducible (first|refine Q1 ?_|refine Q2 ?_|refine Q3 ?_|refine Q4 ?_|refine Q5 ?_|refine Q6 ?_|refine Q7 ?_|refine Q8 ?_|refine Q9 ?_|refine Qa ?_|refine Qb ?_|refine Qc ?_|refine Qd ?_|refine Qe ?_|refine Qf ?_)|((with_reducible refine Qo ?_ ?_);focus rfl)|((with_reducible first|refine QT 22 (l:=?_) ?_ ?_|refine QF 22 (l:=?_) ?_ ?_);rotate_left 1;focus (simp only [Zu,Nat.reduceSub,Nat.reduceBEq];with_reducible rfl))|((with_reducible first|refine QS (cfg_ok 54) Tab.none (s':=?_) ?_ ?_|refine QC (b:=?_) ?_ ?_);rotate_left 1;focus ((with_reducible refine QW ?_);simp only [Zg,seval,if_true,if_false,reduceCtorEq,Nat.reduceEqDiff,i1];with_reducible rfl))|((with_reducible refine QD (cfg_ok 54) Tab.none mixed_ok (tr:=?_) (s':=?_) ?_ ?_ ?_);rotate_left 2;(focus ((with_reducible refine QW ?_);simp only [Zg,Zd,seval,if_true,if_false,reduceCtorEq,Nat.reduceEqDiff,i1];with_reducible rfl));focus ((with_reducible refine QK ?_);simp only [Zk];kernel_rfl)))
   refine roundK.out () trivial ?_
   rw [List.take_of_length_le (by rw [T6_len];omega)]
   (repeat' (first|with_reducible refine Qn|((with_reducible refine Qr ?_ ?_);focus (first|with_reducible rfl|(simp only [Zz,Nat.reduceBEq];done)|rfl))|((with_reducible refine Qj (o':=?_) ?_ ?_ ?_);rotate_left 1;focus rfl)|((with_reducible refine Qw ?_ ?_);(focus (first|with_reducible rfl|(simp only [Zv];done)));focus (first|exact id|exact (fun h => nomatch h)|exact (fun _ => rfl)))))
 ·rintro _ _
  repeat' (first|with_reducible (first|refine Q1 ?_|refine Q2 ?_|refine Q3 ?_|refine Q4 ?_|refine Q5 ?_|refine Q6 ?_|refine Q7 ?_|refine Q8 ?_|refine Q9 ?_|refine Qa ?_|refine Qb ?_|refine Qc ?_|refine Qd ?_|refine Qe ?_|refine Qf ?_)|((with_reducible refine Qo ?_ ?_);focus rfl)|((with_reducible first|refine QT 22 (l:=?_) ?_ ?_|refine QF 22 (l:=?_) ?_ ?_);rotate_left 1;focus (simp only [Zu,Nat.reduceSub,Nat.reduceBEq];with_reducible rfl))|((with_reducible first|refine QS (cfg_ok 54) Tab.none (s':=?_) ?_ ?_|refine QC (b:=?_) ?_ ?_);rotate_left 1;focus ((with_reducible refine QW ?_);simp only [Zg,seval,if_true,if_false,reduceCtorEq,Nat.reduceEqDiff];with_reducible rfl))|((with_reducible refine QD (cfg_ok 54) Tab.none mixed_ok (tr:=?_) (s':=?_) ?_ ?_ ?_);rotate_left 2;(focus ((with_reducible refine QW ?_);simp only [Zg,Zd,seval,if_true,if_false,reduceCtorEq,Nat.reduceEqDiff];with_reducible rfl));focus ((with_reducible refine QK ?_);simp only [Zk];kernel_rfl)))
  (refine Ends.mk (by simp) (rs:=?_) (ks:=?_) hres hrts ?_ ?_ ?_;rotate_left 2;(focus (simp only [Ze,Zg,seval,if_true,if_false,reduceCtorEq,Nat.reduceEqDiff];with_reducible rfl));(focus simp);focus (first|with_reducible rfl|(simp only [Zv];done)))
end Go.Proofs.YtfhmonacgmakbaaGreat
namespace Go.Proofs.YtfhmonacgmakbaaGreat
open Go.RowKit
def unitMap:List Int:=1 :: List.replicate 37 0
set_option maxRecDepth 100000 in
set_option maxHeartbeats 400000 in
theorem k_impl_UnitMap (w:World):Calls Tryz.prog 67 #[] w (RetO (RS RI) w unitMap):=by
 go_enter Tryz.func67,Tryz.ntmps67
 go_wp2_with (at_make;refine wpList_makeI rfl _ _ 22 rfl 2 tI64 _ _ _ _ 38 rfl rfl rfl rfl (by omega) ?_;intro w1 hrow hb;have hc:=hrow.cells 0 (.int .i64 0) rfl;have hfz:=hrow.frozen 0;have hst:=(hrow.store 0 (.int .i64 1)).1;have hb':Below w.heap.size w (w1.setCell ⟨w.heap.size,0,none⟩ (.int .i64 1)):=hb.setCell (Nat.le_refl _) _;rw [map_set_int] at hst;clear hrow hb)
 go_ret
 exact ⟨_,rfl,Row.OwnI (xs:=unitMap) hst (by decide) (fun g hg => by cases hg;exact Nat.le_refl _),hb'⟩
set_option maxRecDepth 100000 in
set_option maxHeartbeats 400000 in
theorem c_spec_l07Unit (w:World):Calls Tryz.prog 111 #[] w (RetO (RS RI) w unitMap):=by
 go_enter Tryz.func111,Tryz.ntmps111
 go_wp2_with (at_make;refine wpList_makeI rfl _ _ 22 rfl 2 tI64 _ _ _ _ 38 rfl rfl rfl rfl (by omega) ?_;intro w1 hrow hb;have hc:=hrow.cells 0 (.int .i64 0) rfl;have hfz:=hrow.frozen 0;have hst:=(hrow.store 0 (.int .i64 1)).1;have hb':Below w.heap.size w (w1.setCell ⟨w.heap.size,0,none⟩ (.int .i64 1)):=hb.setCell (Nat.le_refl _) _;rw [map_set_int] at hst;clear hrow hb)
 go_ret
 exact ⟨_,rfl,Row.OwnI (xs:=unitMap) hst (by decide) (fun g hg => by cases hg;exact Nat.le_refl _),hb'⟩
end Go.Proofs.YtfhmonacgmakbaaGreat
namespace Go.Proofs.YtfhmonacgmakbaaGreat
open Go.RowKit
theorem getD_pad (R:List Int) (n p:Nat):(R ++ List.replicate n 0).getD p 0 = R.getD p 0:=by
 rw [List.getD_eq_getElem?_getD,List.getD_eq_getElem?_getD]
 by_cases h:p < R.length
 ·rw [List.getElem?_append_left h]
 ·rw [List.getElem?_append_right (by omega),List.getElem?_eq_none (l:=R) (by omega)]
  by_cases h2:p - R.length < n
  ·rw [List.getElem?_eq_getElem (by rw [List.length_replicate];exact h2),List.getElem_replicate];rfl
  ·rw [List.getElem?_eq_none (by rw [List.length_replicate];omega)]
theorem rowV_pad (a R:List Int) (n:Nat) (L:List MC):rowV a (R ++ List.replicate n 0) L = rowV a R L:=by
 unfold rowV
 congr 2
 refine List.map_congr_left fun m _ => ?_
 unfold cutV
 rw [getD_pad]
theorem invJ_len (a:List Int) (C:List (List MC)):(invJ a C).length = C.length + 1:=by
 have key:∀ (C:List (List MC)) (L:List Int),(C.foldl (fun L cs => L ++ [mP (0 - rowV a L cs)]) L).length = L.length + C.length:=by
  intro C
  induction C with
  | nil => intro L;rfl
  | cons cs C ih => intro L;show (C.foldl (fun L cs => L ++ [mP (0 - rowV a L cs)]) (L ++ [mP (0 - rowV a L cs)])).length = _;rw [ih,List.length_append,List.length_cons,List.length_cons,List.length_nil];omega
 show (C.foldl (fun L cs => L ++ [mP (0 - rowV a L cs)]) [1]).length = _
 rw [key];show 1 + C.length = _;omega
def outJ (a:List Int) (i:Nat):List Int:=invJ a ((T6.take i).map cutsM) ++ List.replicate (37 - i) 0
theorem invJ_at (a:List Int) (i:Nat) (h:i ≤ 37):(invJ a ((T6.take i).map cutsM)).length = i + 1:=by
 rw [invJ_len,List.length_map,List.length_take,T6_len,Nat.min_eq_left h]
theorem outJ_len (a:List Int) (i:Nat) (h:i ≤ 37):(outJ a i).length = 38:=by
 unfold outJ
 rw [List.length_append,invJ_at a i h,List.length_replicate];omega
theorem isMap_of {b:List Int} (h:b.length = 38) (h2:∀ x ∈ b,0 ≤ x∧x < 10007):isMap b = true:=by
 unfold isMap
 rw [Bool.and_eq_true]
 refine ⟨decide_eq_true h,List.all_eq_true.2 fun x hx => ?_⟩
 have:=h2 x hx
 unfold isNum inR
 simp
 omega
theorem mem_bd {L:List Int} (h:∀ x ∈ L,mP x = x):∀ x ∈ L,0 ≤ x∧x < 10007:=fun x hx => by
 have h1:=h x hx
 have:=mP_bd x
 omega
theorem outJ_map (a:List Int) (i:Nat) (h:i ≤ 37):isMap (outJ a i) = true:=by
 refine isMap_of (outJ_len a i h) fun x hx => ?_
 rcases List.mem_append.1 hx with hx|hx
 ·exact mem_bd (invJ_small a _) x hx
 ·rw [List.eq_of_mem_replicate hx];decide
theorem outJ_set (a:List Int) (i:Nat) (h:i < T6.length):(outJ a i).set (i + 1) (mP (0 - rowV a (outJ a i) (cutsM T6[i]))) = outJ a (i + 1):=by
 have h37:i < 37:=by rw [T6_len] at h;exact h
 have hl:=invJ_at a i (by omega)
 have hr:List.replicate (37 - i) (0:Int) = 0 :: List.replicate (37 - (i + 1)) 0:=by rw [← List.replicate_succ];congr 1;omega
 have e:rowV a (outJ a i) (cutsM T6[i]) = rowV a (invJ a ((T6.take i).map cutsM)) (cutsM T6[i]):=rowV_pad a _ _ _
 refine (congrArg (fun z => (outJ a i).set (i + 1) (mP (0 - z))) e).trans ?_
 show (outJ a i).set (i + 1) (mP (0 - rowV a (invJ a ((T6.take i).map cutsM)) (cutsM T6[i]))) = _
 unfold outJ
 rw [take_cuts h,invJ_snoc,hr,List.set_append_right _ _ (by omega),hl,Nat.sub_self,List.set_cons_zero,List.append_assoc]
 rfl
theorem a_l01Sub (a b:Int) (h:-9223372036854775808 ≤ a - b∧a - b ≤ 9223372036854775807):AFn Tryz.prog 112 [eI a,eI b] (· = [.val (.int (mP (a - b)))]):=by
 have hw:=w64_eq h
 refine AFn.of_runs (cfg_ok 9) Tryz.func112 rfl rfl rfl (by simp only [List.length_cons,List.length_nil];decide) ?_
 have hres:Tryz.f112.results.toList = [.tmp 4]:=rfl
 have hrts:Tryz.f112.resultTypes.toList = [2]:=rfl
 simp only [argRegs,argAV1,eL,eI,eLL,eB,Nat.zero_add,Nat.reduceAdd]
 intro M
 refine RunK.of ?_
 repeat' (first|with_reducible (first|refine Q1 ?_|refine Q2 ?_|refine Q3 ?_|refine Q4 ?_|refine Q5 ?_|refine Q6 ?_|refine Q7 ?_|refine Q8 ?_|refine Q9 ?_|refine Qa ?_|refine Qb ?_|refine Qc ?_|refine Qd ?_|refine Qe ?_|refine Qf ?_)|((with_reducible refine Qo ?_ ?_);focus rfl)|((with_reducible first|refine QT 5 (l:=?_) ?_ ?_|refine QF 5 (l:=?_) ?_ ?_);rotate_left 1;focus (simp only [Zu,Nat.reduceSub,Nat.reduceBEq];with_reducible rfl))|((with_reducible first|refine QS (cfg_ok 9) TMod (s':=?_) ?_ ?_|refine QC (b:=?_) ?_ ?_);rotate_left 1;focus ((with_reducible refine QW ?_);simp only [Zg,seval,if_true,if_false,reduceCtorEq,Nat.reduceEqDiff,TMod,hw];with_reducible rfl)))
 (refine Ends.mk (by simp) (rs:=?_) (ks:=?_) hres hrts ?_ ?_ ?_;rotate_left 2;(focus (simp only [Ze,Zg,seval,if_true,if_false,reduceCtorEq,Nat.reduceEqDiff];with_reducible rfl));(focus simp);focus (first|with_reducible rfl|(simp only [Zv];done)))
theorem a_l07Unit:AFn Tryz.prog 111 [] (· = [.own 1 (unitMap.map eI) true]) :=
 AFn.of_o encI (enters_of Tryz.func111 rfl rfl) (fun w A vs h => by subst h;exact c_spec_l07Unit w)
theorem a_UnitMap:AFn Tryz.prog 67 [] (· = [.own 1 (unitMap.map eI) true]) :=
 AFn.of_o encI (enters_of Tryz.func67 rfl rfl) (fun w A vs h => by subst h;exact k_impl_UnitMap w)
theorem unit_out (a:List Int):unitMap = outJ a 0:=rfl
set_option maxRecDepth 20000 in
set_option maxHeartbeats 16000000 in
theorem a_l07Inverse (a:List Int) (ha:isMap a = true):AFn Tryz.prog 61 [[.sl 1 ([.sl 3 []] :: (T6.map cutsM).map eMs)],eL a] (· = [.own 1 ((invJ a (T6.map cutsM)).map eI) true]):=by
 obtain ⟨Y,hY⟩:∃ Y,Y = [D.sl 3 []] :: (T6.map cutsM).map eMs:=⟨_,rfl⟩
 have hYl:Y.length = 38:=by rw [hY,List.length_cons,List.length_map,List.length_map,T6_len]
 have hu:=a_l07Unit
 rw [unit_out a] at hu
 have hul:((outJ a 0).map eI).length = 38:=by rw [List.length_map,outJ_len a 0 (by omega)]
 rw [← hY]
 refine AFn.of_runs (cfg_ok 29) Tryz.func61 rfl rfl rfl (by simp only [List.length_cons,List.length_nil];decide) ?_
 have hres:Tryz.f61.results.toList = [.tmp 4]:=rfl
 have hrts:Tryz.f61.resultTypes.toList = [22]:=rfl
 simp only [argRegs,argAV1,eL,eI,eLL,eB,Nat.zero_add,Nat.reduceAdd]
 intro M
 refine RunK.of ?_
 repeat' (first|with_reducible (first|refine Q1 ?_|refine Q2 ?_|refine Q3 ?_|refine Q4 ?_|refine Q5 ?_|refine Q6 ?_|refine Q7 ?_|refine Q8 ?_|refine Q9 ?_|refine Qa ?_|refine Qb ?_|refine Qc ?_|refine Qd ?_|refine Qe ?_|refine Qf ?_)|((with_reducible refine Qo ?_ ?_);focus rfl)|((with_reducible first|refine QT 7 (l:=?_) ?_ ?_|refine QF 7 (l:=?_) ?_ ?_);rotate_left 1;focus (simp only [Zu,Nat.reduceSub,Nat.reduceBEq];with_reducible rfl))|((with_reducible first|refine QS (cfg_ok 29) (Tab.none.at' 111 hu) (s':=?_) ?_ ?_|refine QC (b:=?_) ?_ ?_);rotate_left 1;focus ((with_reducible refine QW ?_);simp only [Zg,seval,if_true,if_false,reduceCtorEq,Nat.reduceEqDiff,hul];with_reducible rfl)))
 refine RunK.loop (β:=Nat) (γ:=Unit) (fun i => ⟨[(0,.c (.val (.sl 1 Y))),(1,.c (.val (.sl 1 (a.map eI)))),(5,.c (.own 5 38)),(6,.c (.val (.int ((i + 1:Nat):Int))))],[(5,.row 1 ((outJ a i).map eI) true)]⟩) (fun i => i ≤ 37) (fun i => 37 - i)
  (fun _ => ⟨[(5,.c (.own 5 38))],[(5,.row 1 ((invJ a (T6.map cutsM)).map eI) true)]⟩) (fun _ => True) 0 (Nat.zero_le _) ?_ ?_ ?_
 ·(repeat' (first|with_reducible refine Qn|((with_reducible refine Qr ?_ ?_);focus (first|with_reducible rfl|(simp only [Zz,Nat.reduceBEq,Int.natCast_one];done)|rfl))|((with_reducible refine Qj (o':=?_) ?_ ?_ ?_);rotate_left 1;focus rfl)|((with_reducible refine Qw ?_ ?_);(focus (first|with_reducible rfl|(simp only [Zv,Int.natCast_one];done)));focus (first|exact id|exact (fun h => nomatch h)|exact (fun _ => rfl)))))
 ·intro i hi
  have hi:i ≤ 37:=hi
  have hw:=w64_succ (n:=i + 1) (by omega)
  by_cases hi37:i < 37
  ·have i1:(((i + 1:Nat):Int) < 38) = True:=eq_true (by omega)
   have i2:((0:Int) ≤ ((i + 1:Nat):Int)) = True:=eq_true (by omega)
   have hiT:i < T6.length:=by rw [T6_len];exact hi37
   have hb:=outJ_map a i hi
   have hbl:=outJ_len a i hi
   have hst:=outJ_set a i hiT
   obtain ⟨b,hbe⟩:∃ b,b = outJ a i:=⟨_,rfl⟩
   rw [← hbe] at hb hbl hst ⊢
   have hbm:(b.map eI).length = 38:=by rw [List.length_map,hbl]
   have hr:=a_l07Conv (i + 1) (by omega) a b ha hb
   have hYt:Y.take (i + 1 + 1) = [.sl 3 []] :: ((T6.take (i + 1)).map cutsM).map eMs:=by
    rw [hY,List.take_succ_cons,List.map_take,List.map_take]
   rw [← hYt] at hr
   obtain ⟨Z,hZ⟩:∃ Z,Z = (mP (a.getD 0 0 * b.getD 0 0) :: (T6.take (i + 1)).map fun t => rowV a b (cutsM t)):=⟨_,rfl⟩
   have hZl:Z.length = i + 1 + 1:=by rw [hZ,List.length_cons,List.length_map,List.length_take,T6_len];omega
   have hZm:(Z.map eI).length = i + 1 + 1:=by rw [List.length_map,hZl]
   have hZg:(Z.map eI)[i + 1]? = some [.int (rowV a b (cutsM T6[i]))]:=by
    rw [List.getElem?_map,hZ,List.getElem?_cons_succ,List.getElem?_map,List.getElem?_take_of_lt (by omega),List.getElem?_eq_getElem hiT];rfl
   rw [← hZ] at hr
   simp only [eL] at hr
   obtain ⟨v,hv⟩:∃ v,v = rowV a b (cutsM T6[i]):=⟨_,rfl⟩
   have hvb:0 ≤ v∧v < 10007:=by rw [hv];exact mP_bd _
   rw [← hv] at hZg hst
   have hsu:=a_l01Sub 0 v (by omega)
   simp only [eI] at hsu
   have i3:(((i + 1:Nat):Int) < ((i + 1 + 1:Nat):Int)) = True:=eq_true (by omega)
   have i4:((0:Int) ≤ ((i + 1 + 1:Nat):Int)) = True:=eq_true (by omega)
   have i5:(((i + 1 + 1:Nat):Int) ≤ 38) = True:=eq_true (by omega)
   have hbg:(b.map eI)[i + 1]? = some [.int (b.getD (i + 1) 0)]:=by rw [map_get (by omega),getD_at (by omega)];rfl
   repeat' (first|with_reducible (first|refine Q1 ?_|refine Q2 ?_|refine Q3 ?_|refine Q4 ?_|refine Q5 ?_|refine Q6 ?_|refine Q7 ?_|refine Q8 ?_|refine Q9 ?_|refine Qa ?_|refine Qb ?_|refine Qc ?_|refine Qd ?_|refine Qe ?_|refine Qf ?_)|((with_reducible refine Qo ?_ ?_);focus rfl)|((with_reducible first|refine QT 7 (l:=?_) ?_ ?_|refine QF 7 (l:=?_) ?_ ?_);rotate_left 1;focus (simp only [Zu,Nat.reduceSub,Nat.reduceBEq];with_reducible rfl))|((with_reducible first|refine QS (cfg_ok 29) ((Tab.none.at' 58 hr).at' 112 hsu) (s':=?_) ?_ ?_|refine QC (b:=?_) ?_ ?_);rotate_left 1;focus ((with_reducible refine QW ?_);simp only [Zg,seval,if_true,if_false,reduceCtorEq,Nat.reduceEqDiff,i1,i2,i3,i4,i5,hYl,hw,hZm,hZg,hbm,hbg,Int.toNat_natCast];with_reducible rfl)))
   refine roundK.on (i + 1) ⟨by omega,by omega⟩ ?_
   rw [← hst,List.map_set]
   (repeat' (first|with_reducible refine Qn|((with_reducible refine Qr ?_ ?_);focus (first|with_reducible rfl|(simp only [Zz,Nat.reduceBEq,eI];done)|rfl))|((with_reducible refine Qj (o':=?_) ?_ ?_ ?_);rotate_left 1;focus rfl)|((with_reducible refine Qw ?_ ?_);(focus (first|with_reducible rfl|(simp only [Zv,eI];done)));focus (first|exact id|exact (fun h => nomatch h)|exact (fun _ => rfl)))))
  ·have i1:(((i + 1:Nat):Int) < 38) = False:=eq_false (by omega)
   obtain rfl:i = 37:=by omega
   repeat' (first|with_reducible (first|refine Q1 ?_|refine Q2 ?_|refine Q3 ?_|refine Q4 ?_|refine Q5 ?_|refine Q6 ?_|refine Q7 ?_|refine Q8 ?_|refine Q9 ?_|refine Qa ?_|refine Qb ?_|refine Qc ?_|refine Qd ?_|refine Qe ?_|refine Qf ?_)|((with_reducible refine Qo ?_ ?_);focus rfl)|((with_reducible first|refine QT 7 (l:=?_) ?_ ?_|refine QF 7 (l:=?_) ?_ ?_);rotate_left 1;focus (simp only [Zu,Nat.reduceSub,Nat.reduceBEq];with_reducible rfl))|((with_reducible first|refine QS (cfg_ok 29) Tab.none (s':=?_) ?_ ?_|refine QC (b:=?_) ?_ ?_);rotate_left 1;focus ((with_reducible refine QW ?_);simp only [Zg,seval,if_true,if_false,reduceCtorEq,Nat.reduceEqDiff,i1,hYl];with_reducible rfl)))
   refine roundK.out () trivial ?_
   have e:outJ a 37 = invJ a (T6.map cutsM):=by
    unfold outJ
    rw [List.take_of_length_le (by rw [T6_len];omega),Nat.sub_self,List.replicate_zero,List.append_nil]
   rw [e]
   (repeat' (first|with_reducible refine Qn|((with_reducible refine Qr ?_ ?_);focus (first|with_reducible rfl|(simp only [Zz,Nat.reduceBEq];done)|rfl))|((with_reducible refine Qj (o':=?_) ?_ ?_ ?_);rotate_left 1;focus rfl)|((with_reducible refine Qw ?_ ?_);(focus (first|with_reducible rfl|(simp only [Zv];done)));focus (first|exact id|exact (fun h => nomatch h)|exact (fun _ => rfl)))))
 ·rintro _ _
  repeat' (first|with_reducible (first|refine Q1 ?_|refine Q2 ?_|refine Q3 ?_|refine Q4 ?_|refine Q5 ?_|refine Q6 ?_|refine Q7 ?_|refine Q8 ?_|refine Q9 ?_|refine Qa ?_|refine Qb ?_|refine Qc ?_|refine Qd ?_|refine Qe ?_|refine Qf ?_)|((with_reducible refine Qo ?_ ?_);focus rfl)|((with_reducible first|refine QT 7 (l:=?_) ?_ ?_|refine QF 7 (l:=?_) ?_ ?_);rotate_left 1;focus (simp only [Zu,Nat.reduceSub,Nat.reduceBEq];with_reducible rfl))|((with_reducible first|refine QS (cfg_ok 29) Tab.none (s':=?_) ?_ ?_|refine QC (b:=?_) ?_ ?_);rotate_left 1;focus ((with_reducible refine QW ?_);simp only [Zg,seval,if_true,if_false,reduceCtorEq,Nat.reduceEqDiff];with_reducible rfl)))
  (refine Ends.mk (by simp) (rs:=?_) (ks:=?_) hres hrts ?_ ?_ ?_;rotate_left 2;(focus (simp only [Ze,Zg,seval,if_true,if_false,reduceCtorEq,Nat.reduceEqDiff];with_reducible rfl));(focus simp);focus (first|with_reducible rfl|(simp only [Zv];done)))
end Go.Proofs.YtfhmonacgmakbaaGreat
namespace Go.Proofs.YtfhmonacgmakbaaGreat
open Go.RowKit
def invM (a:List Int):List Int:=invI a (T6.map cutsM)
theorem invM_J (a:List Int):invJ a (T6.map cutsM) = invM a:=(inv6 a).symm
theorem invM_map (a:List Int):isMap (invM a) = true:=by
 refine isMap_of ?_ (mem_bd (invI_small a _))
 unfold invM
 rw [invI_len,List.length_map,T6_len]
theorem foldl_head (f:List Int→List MC→Int):∀ (C:List (List MC)) (L:List Int),0 < L.length→(C.foldl (fun L cs => L ++ [f L cs]) L).getD 0 0 = L.getD 0 0
 | [],_,_ => rfl
 | cs :: C,L,h => by
  show (C.foldl (fun L cs => L ++ [f L cs]) (L ++ [f L cs])).getD 0 0 = _
  rw [foldl_head f C _ (by rw [List.length_append];omega)]
  cases L with
  | nil => cases h
  | cons x L => rfl
theorem invM_one (a:List Int):(invM a).getD 0 0 = 1:=foldl_head (rowI a) _ _ (by decide)
def invOf (a:List Int):List Int × Int:=if isMap a = true then (if a.getD 0 0 = 1 then (invM a,0) else ([],5)) else ([],1)
theorem invOf_cnt (a:List Int):cnt_I (invOf a).1 ≤ 1048576:=by
 unfold invOf
 split
 ·split
  ·unfold cnt_I
   rw [(isMap_bd (invM_map a)).1];decide
  ·simp [cnt_I]
 ·simp [cnt_I]
theorem cdM_self (a:List Int):cdM a a = if isMap a = true then (if a.getD 0 0 = 1 then 0 else 5) else 1:=by
 unfold cdM
 simp only [and_self]
theorem a_checkCharacter (a:List Int):AFn Tryz.prog 62 [eL a] (· = [.val (.int (cdM a a))]):=by
 have hm:=a_impl_IsMap a
 simp only [eL] at hm
 rw [cdM_self]
 by_cases h1:isMap a = true
 rotate_left
 ·have h1':isMap a = false:=by simpa using h1
  rw [h1'] at hm
  rw [if_neg h1]
  refine AFn.of_runs (cfg_ok 12) Tryz.func62 rfl rfl rfl (by simp only [List.length_cons,List.length_nil];decide) ?_
  have hres:Tryz.f62.results.toList = [.tmp 2]:=rfl
  have hrts:Tryz.f62.resultTypes.toList = [2]:=rfl
  simp only [argRegs,argAV1,eL,eI,eLL,eB,Nat.zero_add,Nat.reduceAdd]
  intro M
  refine RunK.of ?_
  repeat' (first|with_reducible (first|refine Q1 ?_|refine Q2 ?_|refine Q3 ?_|refine Q4 ?_|refine Q5 ?_|refine Q6 ?_|refine Q7 ?_|refine Q8 ?_|refine Q9 ?_|refine Qa ?_|refine Qb ?_|refine Qc ?_|refine Qd ?_|refine Qe ?_|refine Qf ?_)|((with_reducible refine Qo ?_ ?_);focus rfl)|((with_reducible first|refine QT 3 (l:=?_) ?_ ?_|refine QF 3 (l:=?_) ?_ ?_);rotate_left 1;focus (simp only [Zu,Nat.reduceSub,Nat.reduceBEq];with_reducible rfl))|((with_reducible first|refine QS (cfg_ok 12) (Tab.none.at' 44 hm) (s':=?_) ?_ ?_|refine QC (b:=?_) ?_ ?_);rotate_left 1;focus ((with_reducible refine QW ?_);simp only [Zg,seval,if_true,if_false,reduceCtorEq,Nat.reduceEqDiff];with_reducible rfl)))
  (refine Ends.mk (by simp) (rs:=?_) (ks:=?_) hres hrts ?_ ?_ ?_;rotate_left 2;(focus (simp only [Ze,Zg,seval,if_true,if_false,reduceCtorEq,Nat.reduceEqDiff];with_reducible rfl));(focus simp);focus (first|with_reducible rfl|(simp only [Zv];done)))
 rw [h1] at hm
 rw [if_pos h1]
 obtain ⟨g1,g2⟩:=isMap_get0 h1
 by_cases h3:a.getD 0 0 = 1
 ·have i1:(a.getD 0 0 != 1) = false:=by simpa using h3
  rw [if_pos h3]
  refine AFn.of_runs (cfg_ok 12) Tryz.func62 rfl rfl rfl (by simp only [List.length_cons,List.length_nil];decide) ?_
  have hres:Tryz.f62.results.toList = [.tmp 2]:=rfl
  have hrts:Tryz.f62.resultTypes.toList = [2]:=rfl
  simp only [argRegs,argAV1,eL,eI,eLL,eB,Nat.zero_add,Nat.reduceAdd]
  intro M
  refine RunK.of ?_
  repeat' (first|with_reducible (first|refine Q1 ?_|refine Q2 ?_|refine Q3 ?_|refine Q4 ?_|refine Q5 ?_|refine Q6 ?_|refine Q7 ?_|refine Q8 ?_|refine Q9 ?_|refine Qa ?_|refine Qb ?_|refine Qc ?_|refine Qd ?_|refine Qe ?_|refine Qf ?_)|((with_reducible refine Qo ?_ ?_);focus rfl)|((with_reducible first|refine QT 3 (l:=?_) ?_ ?_|refine QF 3 (l:=?_) ?_ ?_);rotate_left 1;focus (simp only [Zu,Nat.reduceSub,Nat.reduceBEq];with_reducible rfl))|((with_reducible first|refine QS (cfg_ok 12) (Tab.none.at' 44 hm) (s':=?_) ?_ ?_|refine QC (b:=?_) ?_ ?_);rotate_left 1;focus ((with_reducible refine QW ?_);simp only [Zg,seval,if_true,if_false,reduceCtorEq,Nat.reduceEqDiff,g1,g2,i1,Int.toNat_zero];with_reducible rfl)))
  (refine Ends.mk (by simp) (rs:=?_) (ks:=?_) hres hrts ?_ ?_ ?_;rotate_left 2;(focus (simp only [Ze,Zg,seval,if_true,if_false,reduceCtorEq,Nat.reduceEqDiff];with_reducible rfl));(focus simp);focus (first|with_reducible rfl|(simp only [Zv];done)))
 ·have i1:(a.getD 0 0 != 1) = true:=by simpa using h3
  rw [if_neg h3]
  refine AFn.of_runs (cfg_ok 12) Tryz.func62 rfl rfl rfl (by simp only [List.length_cons,List.length_nil];decide) ?_
  have hres:Tryz.f62.results.toList = [.tmp 2]:=rfl
  have hrts:Tryz.f62.resultTypes.toList = [2]:=rfl
  simp only [argRegs,argAV1,eL,eI,eLL,eB,Nat.zero_add,Nat.reduceAdd]
  intro M
  refine RunK.of ?_
  repeat' (first|with_reducible (first|refine Q1 ?_|refine Q2 ?_|refine Q3 ?_|refine Q4 ?_|refine Q5 ?_|refine Q6 ?_|refine Q7 ?_|refine Q8 ?_|refine Q9 ?_|refine Qa ?_|refine Qb ?_|refine Qc ?_|refine Qd ?_|refine Qe ?_|refine Qf ?_)|((with_reducible refine Qo ?_ ?_);focus rfl)|((with_reducible first|refine QT 3 (l:=?_) ?_ ?_|refine QF 3 (l:=?_) ?_ ?_);rotate_left 1;focus (simp only [Zu,Nat.reduceSub,Nat.reduceBEq];with_reducible rfl))|((with_reducible first|refine QS (cfg_ok 12) (Tab.none.at' 44 hm) (s':=?_) ?_ ?_|refine QC (b:=?_) ?_ ?_);rotate_left 1;focus ((with_reducible refine QW ?_);simp only [Zg,seval,if_true,if_false,reduceCtorEq,Nat.reduceEqDiff,g1,g2,i1,Int.toNat_zero];with_reducible rfl)))
  (refine Ends.mk (by simp) (rs:=?_) (ks:=?_) hres hrts ?_ ?_ ?_;rotate_left 2;(focus (simp only [Ze,Zg,seval,if_true,if_false,reduceCtorEq,Nat.reduceEqDiff];with_reducible rfl));(focus simp);focus (first|with_reducible rfl|(simp only [Zv];done)))
theorem invOf_bad {a:List Int} (h:¬ (isMap a = true∧a.getD 0 0 = 1)):cdM a a ≠ 0∧invOf a = ([],cdM a a):=by
 rw [cdM_self]
 unfold invOf
 by_cases h1:isMap a = true
 ·have h3:¬ a.getD 0 0 = 1:=fun e => h ⟨h1,e⟩
  rw [if_pos h1,if_pos h1,if_neg h3,if_neg h3]
  exact ⟨by decide,rfl⟩
 ·rw [if_neg h1,if_neg h1]
  exact ⟨by decide,rfl⟩
theorem invOf_ok {a:List Int} (h:isMap a = true∧a.getD 0 0 = 1):cdM a a = 0∧invOf a = (invM a,0):=by
 rw [cdM_self]
 unfold invOf
 rw [if_pos h.1,if_pos h.1,if_pos h.2,if_pos h.2]
 exact ⟨rfl,rfl⟩
set_option maxHeartbeats 4000000 in
theorem a_impl_InverseMap (a:List Int):AFn Tryz.prog 24 [eL a] (· = [.own 1 ((invOf a).1.map eI) true,.val (.int (invOf a).2)]):=by
 have hc:=a_checkCharacter a
 simp only [eL] at hc
 by_cases h:isMap a = true∧a.getD 0 0 = 1
 ·obtain ⟨h1,h2⟩:=invOf_ok h
  rw [h1] at hc
  rw [h2]
  have hr:=a_inverseMap (T6.map eL) a h.1
  simp only [eL] at hr
  have hr:AFn Tryz.prog 63 [[.sl 1 (T6.map eL),.sl 1 ((T6.map cutsM).map eMs)],[.sl 1 (a.map eI)]] (· = [.own 1 ((invM a).map eI) true]):=hr
  refine AFn.of_runs (cfg_ok 13) Tryz.func24 rfl rfl rfl (by simp only [List.length_cons,List.length_nil];decide) ?_
  have hres:Tryz.f24.results.toList = [.tmp 2,.tmp 3]:=rfl
  have hrts:Tryz.f24.resultTypes.toList = [22,2]:=rfl
  simp only [argRegs,argAV1,eL,eI,eLL,eB,Nat.zero_add,Nat.reduceAdd]
  intro M
  refine RunK.of ?_
  ((repeat' (first|with_reducible (first|refine Q1 ?_|refine Q2 ?_|refine Q3 ?_|refine Q4 ?_|refine Q5 ?_|refine Q6 ?_|refine Q7 ?_|refine Q8 ?_|refine Q9 ?_|refine Qa ?_|refine Qb ?_|refine Qc ?_|refine Qd ?_|refine Qe ?_|refine Qf ?_)|((with_reducible refine Qo ?_ ?_);focus rfl)|((with_reducible first|refine QT 5 (l:=?_) ?_ ?_|refine QF 5 (l:=?_) ?_ ?_);rotate_left 1;focus (simp only [Zu,Nat.reduceSub,Nat.reduceBEq];with_reducible rfl))|((with_reducible refine QC (b:=?_) ?_ ?_);rotate_left 1;focus ((with_reducible refine QW ?_);simp only [Zg,seval,if_true,if_false,reduceCtorEq,Nat.reduceEqDiff];with_reducible rfl))));((with_reducible refine QS (cfg_ok 13) Tab.none (s':=?_) ?_ ?_);rotate_left 1;focus ((with_reducible refine QW ?_);simp only [Zg,seval,if_true,if_false,reduceCtorEq,Nat.reduceEqDiff];with_reducible rfl));(repeat' (first|with_reducible (first|refine Q1 ?_|refine Q2 ?_|refine Q3 ?_|refine Q4 ?_|refine Q5 ?_|refine Q6 ?_|refine Q7 ?_|refine Q8 ?_|refine Q9 ?_|refine Qa ?_|refine Qb ?_|refine Qc ?_|refine Qd ?_|refine Qe ?_|refine Qf ?_)|((with_reducible refine Qo ?_ ?_);focus rfl)|((with_reducible first|refine QT 5 (l:=?_) ?_ ?_|refine QF 5 (l:=?_) ?_ ?_);rotate_left 1;focus (simp only [Zu,Nat.reduceSub,Nat.reduceBEq];with_reducible rfl))|((with_reducible refine QC (b:=?_) ?_ ?_);rotate_left 1;focus ((with_reducible refine QW ?_);simp only [Zg,seval,if_true,if_false,reduceCtorEq,Nat.reduceEqDiff];with_reducible rfl)))))
  ((repeat' (first|with_reducible (first|refine Q1 ?_|refine Q2 ?_|refine Q3 ?_|refine Q4 ?_|refine Q5 ?_|refine Q6 ?_|refine Q7 ?_|refine Q8 ?_|refine Q9 ?_|refine Qa ?_|refine Qb ?_|refine Qc ?_|refine Qd ?_|refine Qe ?_|refine Qf ?_)|((with_reducible refine Qo ?_ ?_);focus rfl)|((with_reducible first|refine QT 5 (l:=?_) ?_ ?_|refine QF 5 (l:=?_) ?_ ?_);rotate_left 1;focus (simp only [Zu,Nat.reduceSub,Nat.reduceBEq];with_reducible rfl))|((with_reducible refine QC (b:=?_) ?_ ?_);rotate_left 1;focus ((with_reducible refine QW ?_);simp only [Zg,seval,if_true,if_false,reduceCtorEq,Nat.reduceEqDiff];with_reducible rfl))));((with_reducible refine QS (cfg_ok 13) (Tab.none.at' 62 hc) (s':=?_) ?_ ?_);rotate_left 1;focus ((with_reducible refine QW ?_);simp only [Zg,seval,if_true,if_false,reduceCtorEq,Nat.reduceEqDiff];with_reducible rfl));(repeat' (first|with_reducible (first|refine Q1 ?_|refine Q2 ?_|refine Q3 ?_|refine Q4 ?_|refine Q5 ?_|refine Q6 ?_|refine Q7 ?_|refine Q8 ?_|refine Q9 ?_|refine Qa ?_|refine Qb ?_|refine Qc ?_|refine Qd ?_|refine Qe ?_|refine Qf ?_)|((with_reducible refine Qo ?_ ?_);focus rfl)|((with_reducible first|refine QT 5 (l:=?_) ?_ ?_|refine QF 5 (l:=?_) ?_ ?_);rotate_left 1;focus (simp only [Zu,Nat.reduceSub,Nat.reduceBEq];with_reducible rfl))|((with_reducible refine QC (b:=?_) ?_ ?_);rotate_left 1;focus ((with_reducible refine QW ?_);simp only [Zg,seval,if_true,if_false,reduceCtorEq,Nat.reduceEqDiff];with_reducible rfl)))))
  ((repeat' (first|with_reducible (first|refine Q1 ?_|refine Q2 ?_|refine Q3 ?_|refine Q4 ?_|refine Q5 ?_|refine Q6 ?_|refine Q7 ?_|refine Q8 ?_|refine Q9 ?_|refine Qa ?_|refine Qb ?_|refine Qc ?_|refine Qd ?_|refine Qe ?_|refine Qf ?_)|((with_reducible refine Qo ?_ ?_);focus rfl)|((with_reducible first|refine QT 5 (l:=?_) ?_ ?_|refine QF 5 (l:=?_) ?_ ?_);rotate_left 1;focus (simp only [Zu,Nat.reduceSub,Nat.reduceBEq];with_reducible rfl))|((with_reducible refine QC (b:=?_) ?_ ?_);rotate_left 1;focus ((with_reducible refine QW ?_);simp only [Zg,seval,if_true,if_false,reduceCtorEq,Nat.reduceEqDiff];with_reducible rfl))));((with_reducible refine QS (cfg_ok 13) Tab.none (s':=?_) ?_ ?_);rotate_left 1;focus ((with_reducible refine QW ?_);simp only [Zg,seval,if_true,if_false,reduceCtorEq,Nat.reduceEqDiff];with_reducible rfl));(repeat' (first|with_reducible (first|refine Q1 ?_|refine Q2 ?_|refine Q3 ?_|refine Q4 ?_|refine Q5 ?_|refine Q6 ?_|refine Q7 ?_|refine Q8 ?_|refine Q9 ?_|refine Qa ?_|refine Qb ?_|refine Qc ?_|refine Qd ?_|refine Qe ?_|refine Qf ?_)|((with_reducible refine Qo ?_ ?_);focus rfl)|((with_reducible first|refine QT 5 (l:=?_) ?_ ?_|refine QF 5 (l:=?_) ?_ ?_);rotate_left 1;focus (simp only [Zu,Nat.reduceSub,Nat.reduceBEq];with_reducible rfl))|((with_reducible refine QC (b:=?_) ?_ ?_);rotate_left 1;focus ((with_reducible refine QW ?_);simp only [Zg,seval,if_true,if_false,reduceCtorEq,Nat.reduceEqDiff];with_reducible rfl)))))
  ((repeat' (first|with_reducible (first|refine Q1 ?_|refine Q2 ?_|refine Q3 ?_|refine Q4 ?_|refine Q5 ?_|refine Q6 ?_|refine Q7 ?_|refine Q8 ?_|refine Q9 ?_|refine Qa ?_|refine Qb ?_|refine Qc ?_|refine Qd ?_|refine Qe ?_|refine Qf ?_)|((with_reducible refine Qo ?_ ?_);focus rfl)|((with_reducible first|refine QT 5 (l:=?_) ?_ ?_|refine QF 5 (l:=?_) ?_ ?_);rotate_left 1;focus (simp only [Zu,Nat.reduceSub,Nat.reduceBEq];with_reducible rfl))|((with_reducible refine QC (b:=?_) ?_ ?_);rotate_left 1;focus ((with_reducible refine QW ?_);simp only [Zg,seval,if_true,if_false,reduceCtorEq,Nat.reduceEqDiff];with_reducible rfl))));(with_reducible refine RunK.regCut (cfg_ok 13) Tab.none 0 (s1:=?_) ?_ ?_);rotate_left 1;(focus ((with_reducible refine QW ?_);simp only [Zg,seval,if_true,if_false,reduceCtorEq,Nat.reduceEqDiff];with_reducible rfl));simp only [List.toList_toArray,List.drop_succ_cons,List.drop_zero])
  refine ROps.callS (cfg_ok 13) rfl (d:=10) rfl (by decide) rfl rfl rfl rfl s_newForms ?_
  (refine ROps.opsT (cfg_ok 13) (T:=Tab.none.at' 63 hr) (s':=?_) ?_ ?_;rotate_left 1;focus (simp only [Zg,seval,if_true,if_false,reduceCtorEq,Nat.reduceEqDiff,frmD,List.map_cons,List.map_nil];with_reducible rfl))
  repeat' (first|with_reducible (first|refine Q1 ?_|refine Q2 ?_|refine Q3 ?_|refine Q4 ?_|refine Q5 ?_|refine Q6 ?_|refine Q7 ?_|refine Q8 ?_|refine Q9 ?_|refine Qa ?_|refine Qb ?_|refine Qc ?_|refine Qd ?_|refine Qe ?_|refine Qf ?_)|((with_reducible refine Qo ?_ ?_);focus rfl)|((with_reducible first|refine QT 5 (l:=?_) ?_ ?_|refine QF 5 (l:=?_) ?_ ?_);rotate_left 1;focus (simp only [Zu,Nat.reduceSub,Nat.reduceBEq];with_reducible rfl))|((with_reducible first|refine QS (cfg_ok 13) Tab.none (s':=?_) ?_ ?_|refine QC (b:=?_) ?_ ?_);rotate_left 1;focus ((with_reducible refine QW ?_);simp only [Zg,seval,if_true,if_false,reduceCtorEq,Nat.reduceEqDiff];with_reducible rfl)))
  (refine Ends.mk (by simp) (rs:=?_) (ks:=?_) hres hrts ?_ ?_ ?_;rotate_left 2;(focus (simp only [Ze,Zg,seval,if_true,if_false,reduceCtorEq,Nat.reduceEqDiff];with_reducible rfl));(focus simp);focus (first|with_reducible rfl|(simp only [Zv];done)))
 ·obtain ⟨h1,h2⟩:=invOf_bad h
  obtain ⟨z,hz⟩:∃ z,z = cdM a a:=⟨_,rfl⟩
  rw [h2]
  rw [← hz] at hc h1 ⊢
  have i1:(z != 0) = true:=by simpa using h1
  refine AFn.of_runs (cfg_ok 13) Tryz.func24 rfl rfl rfl (by simp only [List.length_cons,List.length_nil];decide) ?_
  have hres:Tryz.f24.results.toList = [.tmp 2,.tmp 3]:=rfl
  have hrts:Tryz.f24.resultTypes.toList = [22,2]:=rfl
  simp only [argRegs,argAV1,eL,eI,eLL,eB,Nat.zero_add,Nat.reduceAdd]
  intro M
  refine RunK.of ?_
  repeat' (first|with_reducible (first|refine Q1 ?_|refine Q2 ?_|refine Q3 ?_|refine Q4 ?_|refine Q5 ?_|refine Q6 ?_|refine Q7 ?_|refine Q8 ?_|refine Q9 ?_|refine Qa ?_|refine Qb ?_|refine Qc ?_|refine Qd ?_|refine Qe ?_|refine Qf ?_)|((with_reducible refine Qo ?_ ?_);focus rfl)|((with_reducible first|refine QT 5 (l:=?_) ?_ ?_|refine QF 5 (l:=?_) ?_ ?_);rotate_left 1;focus (simp only [Zu,Nat.reduceSub,Nat.reduceBEq];with_reducible rfl))|((with_reducible first|refine QS (cfg_ok 13) (Tab.none.at' 62 hc) (s':=?_) ?_ ?_|refine QC (b:=?_) ?_ ?_);rotate_left 1;focus ((with_reducible refine QW ?_);simp only [Zg,seval,if_true,if_false,reduceCtorEq,Nat.reduceEqDiff,i1];with_reducible rfl)))
  (refine Ends.mk (by simp) (rs:=?_) (ks:=?_) hres hrts ?_ ?_ ?_;rotate_left 2;(focus (simp only [Ze,Zg,seval,if_true,if_false,reduceCtorEq,Nat.reduceEqDiff];with_reducible rfl));(focus simp);focus (first|with_reducible rfl|(simp only [Zv];done)))
theorem k_impl_InverseMap (v:Value) (a:List Int) (w:World) (h:Rd (RS RI) w [v] a):Calls Tryz.prog 24 #[v] w (RetOC (RS RI) w (invOf a).1 (invOf a).2) :=
 AFn.oi encI (a_impl_InverseMap a) (args1 (arg_L h))
set_option maxHeartbeats 4000000 in
theorem a_spec_InverseMap (a:List Int):AFn Tryz.prog 23 [eL a] (· = [.own 1 ((invOf a).1.map eI) true,.val (.int (invOf a).2)]):=by
 have hc:=a_l07Code a a
 simp only [eL] at hc
 by_cases h:isMap a = true∧a.getD 0 0 = 1
 ·obtain ⟨h1,h2⟩:=invOf_ok h
  rw [h1] at hc
  rw [h2]
  have hr:=a_l07Inverse a h.1
  rw [invM_J] at hr
  simp only [eL] at hr
  have hcu:=AFn.val1 a_l07Cuts
  refine AFn.of_runs (cfg_ok 14) Tryz.func23 rfl rfl rfl (by simp only [List.length_cons,List.length_nil];decide) ?_
  have hres:Tryz.f23.results.toList = [.tmp 2,.tmp 3]:=rfl
  have hrts:Tryz.f23.resultTypes.toList = [22,2]:=rfl
  simp only [argRegs,argAV1,eL,eI,eLL,eB,Nat.zero_add,Nat.reduceAdd]
  intro M
  refine RunK.of ?_
  repeat' (first|with_reducible (first|refine Q1 ?_|refine Q2 ?_|refine Q3 ?_|refine Q4 ?_|refine Q5 ?_|refine Q6 ?_|refine Q7 ?_|refine Q8 ?_|refine Q9 ?_|refine Qa ?_|refine Qb ?_|refine Qc ?_|refine Qd ?_|refine Qe ?_|refine Qf ?_)|((with_reducible refine Qo ?_ ?_);focus rfl)|((with_reducible first|refine QT 5 (l:=?_) ?_ ?_|refine QF 5 (l:=?_) ?_ ?_);rotate_left 1;focus (simp only [Zu,Nat.reduceSub,Nat.reduceBEq];with_reducible rfl))|((with_reducible first|refine QS (cfg_ok 14) (((Tab.none.at' 57 hc).at' 59 hcu).at' 61 hr) (s':=?_) ?_ ?_|refine QC (b:=?_) ?_ ?_);rotate_left 1;focus ((with_reducible refine QW ?_);simp only [Zg,seval,if_true,if_false,reduceCtorEq,Nat.reduceEqDiff];with_reducible rfl)))
  (refine Ends.mk (by simp) (rs:=?_) (ks:=?_) hres hrts ?_ ?_ ?_;rotate_left 2;(focus (simp only [Ze,Zg,seval,if_true,if_false,reduceCtorEq,Nat.reduceEqDiff];with_reducible rfl));(focus simp);focus (first|with_reducible rfl|(simp only [Zv];done)))
 ·obtain ⟨h1,h2⟩:=invOf_bad h
  obtain ⟨z,hz⟩:∃ z,z = cdM a a:=⟨_,rfl⟩
  rw [h2]
  rw [← hz] at hc h1 ⊢
  have i1:(z != 0) = true:=by simpa using h1
  refine AFn.of_runs (cfg_ok 14) Tryz.func23 rfl rfl rfl (by simp only [List.length_cons,List.length_nil];decide) ?_
  have hres:Tryz.f23.results.toList = [.tmp 2,.tmp 3]:=rfl
  have hrts:Tryz.f23.resultTypes.toList = [22,2]:=rfl
  simp only [argRegs,argAV1,eL,eI,eLL,eB,Nat.zero_add,Nat.reduceAdd]
  intro M
  refine RunK.of ?_
  repeat' (first|with_reducible (first|refine Q1 ?_|refine Q2 ?_|refine Q3 ?_|refine Q4 ?_|refine Q5 ?_|refine Q6 ?_|refine Q7 ?_|refine Q8 ?_|refine Q9 ?_|refine Qa ?_|refine Qb ?_|refine Qc ?_|refine Qd ?_|refine Qe ?_|refine Qf ?_)|((with_reducible refine Qo ?_ ?_);focus rfl)|((with_reducible first|refine QT 5 (l:=?_) ?_ ?_|refine QF 5 (l:=?_) ?_ ?_);rotate_left 1;focus (simp only [Zu,Nat.reduceSub,Nat.reduceBEq];with_reducible rfl))|((with_reducible first|refine QS (cfg_ok 14) (Tab.none.at' 57 hc) (s':=?_) ?_ ?_|refine QC (b:=?_) ?_ ?_);rotate_left 1;focus ((with_reducible refine QW ?_);simp only [Zg,seval,if_true,if_false,reduceCtorEq,Nat.reduceEqDiff,i1];with_reducible rfl)))
  (refine Ends.mk (by simp) (rs:=?_) (ks:=?_) hres hrts ?_ ?_ ?_;rotate_left 2;(focus (simp only [Ze,Zg,seval,if_true,if_false,reduceCtorEq,Nat.reduceEqDiff];with_reducible rfl));(focus simp);focus (first|with_reducible rfl|(simp only [Zv];done)))
theorem k_spec_InverseMap (v:Value) (a:List Int) (w:World) (h:Rd (RS RI) w [v] a):Calls Tryz.prog 23 #[v] w (RetGI (RS RI) w (invOf a).1 (invOf a).2) :=
 AFn.gi encI (.inl rfl) (a_spec_InverseMap a) (args1 (arg_L h))
end Go.Proofs.YtfhmonacgmakbaaGreat
namespace Go.Proofs.YtfhmonacgmakbaaGreat
open Go.RowKit
set_option maxHeartbeats 1000000 in
theorem walk_FnExactInverseMap (v0:Value) (x0:List Int) (w:World) (h0:Rd (RS RI) w [v0] x0):Calls Tryz.prog 6 #[v0] w (RetV w (.bool true)):=by
 obtain ⟨a0,c0,hv0,hl0,hm0⟩:=h0.val
 unfold maxLen at hm0
 by_cases z0:x0.length ≤ 1048576
 rotate_left
 ·subst hv0
  go_enter Tryz.func6,Tryz.ntmps6
  go_wp2_with fail
  go_ret
  exact ⟨rfl,Below.refl _ _⟩
 subst hv0
 go_enter Tryz.func6,Tryz.ntmps6
 go_wp2_with fail
 refine (to_I _ x0 _ h0 z0).mono ?_
 rintro e w1 ⟨u1,rfl,o1,B1⟩
 have s1:=B1.size
 have BB:=B1.mono (B':=w.heap.size) (by omega)
 go_wp2_with fail
 refine (k_spec_InverseMap _ x0 _ o1.rd).mono ?_
 rintro e w2 ⟨u2,rfl,o2,B2⟩
 have s2:=B2.size
 replace o1:=o1.below B2 (by omega)
 replace BB:=BB.trans (B2.mono (B':=w.heap.size) (by omega))
 go_wp2_with fail
 refine (to_I _ x0 _ (h0.below BB (Nat.le_refl _)) z0).mono ?_
 rintro e w3 ⟨u3,rfl,o3,B3⟩
 have s3:=B3.size
 replace o1:=o1.below B3 (by omega)
 replace o2:=o2.below B3 (by omega)
 replace BB:=BB.trans (B3.mono (B':=w.heap.size) (by omega))
 go_wp2_with fail
 refine (k_impl_InverseMap _ x0 _ o3.rd).mono ?_
 rintro e w4 ⟨u4,rfl,o4,B4⟩
 have s4:=B4.size
 replace o1:=o1.below B4 (by omega)
 replace o2:=o2.below B4 (by omega)
 replace o3:=o3.below B4 (by omega)
 replace BB:=BB.trans (B4.mono (B':=w.heap.size) (by omega))
 go_wp2_with fail
 refine (eqv_I _ _ (invOf x0).1 _ o4.rd o2.rd).mono ?_
 rintro e w5 ⟨rfl,B5⟩
 have s5:=B5.size
 replace o1:=o1.below B5 (by omega)
 replace o2:=o2.below B5 (by omega)
 replace o3:=o3.below B5 (by omega)
 replace o4:=o4.below B5 (by omega)
 replace BB:=BB.trans (B5.mono (B':=w.heap.size) (by omega))
 go_wp2_with fail
 refine (to_I _ x0 _ (h0.below BB (Nat.le_refl _)) z0).mono ?_
 rintro e w6 ⟨u6,rfl,o6,B6⟩
 have s6:=B6.size
 replace o1:=o1.below B6 (by omega)
 replace o2:=o2.below B6 (by omega)
 replace o3:=o3.below B6 (by omega)
 replace o4:=o4.below B6 (by omega)
 replace BB:=BB.trans (B6.mono (B':=w.heap.size) (by omega))
 go_wp2_with fail
 refine (eqv_I _ _ x0 _ o3.rd o6.rd).mono ?_
 rintro e w7 ⟨rfl,B7⟩
 have s7:=B7.size
 replace o1:=o1.below B7 (by omega)
 replace o2:=o2.below B7 (by omega)
 replace o3:=o3.below B7 (by omega)
 replace o4:=o4.below B7 (by omega)
 replace o6:=o6.below B7 (by omega)
 replace BB:=BB.trans (B7.mono (B':=w.heap.size) (by omega))
 go_wp2_with fail
 have p8:=cntb_I x0 z0
 refine (mark_I _ x0 _ _ 1 _ o3 (by omega) (by omega)).mono ?_
 rintro e w8 ⟨rfl,o3n,B8⟩
 have s8:=B8.size
 replace o1:=o1.apart B8 (by omega)
 replace o2:=o2.apart B8 (by omega)
 replace o4:=o4.apart B8 (by omega)
 replace o6:=o6.apart B8 (by omega)
 replace o3:=o3n
 clear o3n
 replace BB:=BB.trans (B8.below (B:=w.heap.size) (by omega) (by omega))
 go_wp2_with fail
 refine (eqv_I _ _ (invOf x0).1 _ o4.rd o2.rd).mono ?_
 rintro e w9 ⟨rfl,B9⟩
 have s9:=B9.size
 replace o1:=o1.below B9 (by omega)
 replace o2:=o2.below B9 (by omega)
 replace o3:=o3.below B9 (by omega)
 replace o4:=o4.below B9 (by omega)
 replace o6:=o6.below B9 (by omega)
 replace BB:=BB.trans (B9.mono (B':=w.heap.size) (by omega))
 go_wp2_with fail
 have p10:=invOf_cnt x0
 refine (mark_I _ (invOf x0).1 _ _ 1 _ o4 (by omega) (by omega)).mono ?_
 rintro e w10 ⟨rfl,o4n,B10⟩
 have s10:=B10.size
 replace o1:=o1.apart B10 (by omega)
 replace o2:=o2.apart B10 (by omega)
 replace o3:=o3.apart B10 (by omega)
 replace o6:=o6.apart B10 (by omega)
 replace o4:=o4n
 clear o4n
 replace BB:=BB.trans (B10.below (B:=w.heap.size) (by omega) (by omega))
 go_wp2_with fail
 refine (held_I _ (invOf x0).1 1 _ o4.rd (by omega) (by omega)).mono ?_
 rintro e w11 ⟨rfl,rfl⟩
 go_wp2_with fail
 refine (to_I _ x0 _ (h0.below BB (Nat.le_refl _)) z0).mono ?_
 rintro e w12 ⟨u12,rfl,o12,B12⟩
 have s12:=B12.size
 replace o1:=o1.below B12 (by omega)
 replace o2:=o2.below B12 (by omega)
 replace o3:=o3.below B12 (by omega)
 replace o4:=o4.below B12 (by omega)
 replace o6:=o6.below B12 (by omega)
 replace BB:=BB.trans (B12.mono (B':=w.heap.size) (by omega))
 go_wp2_with fail
 refine (k_impl_InverseMap _ x0 _ o12.rd).mono ?_
 rintro e w13 ⟨u13,rfl,o13,B13⟩
 have s13:=B13.size
 replace o1:=o1.below B13 (by omega)
 replace o2:=o2.below B13 (by omega)
 replace o3:=o3.below B13 (by omega)
 replace o4:=o4.below B13 (by omega)
 replace o6:=o6.below B13 (by omega)
 replace o12:=o12.below B13 (by omega)
 replace BB:=BB.trans (B13.mono (B':=w.heap.size) (by omega))
 go_wp2_with fail
 refine (eqv_I _ _ (invOf x0).1 _ o13.rd o2.rd).mono ?_
 rintro e w14 ⟨rfl,B14⟩
 have s14:=B14.size
 replace o1:=o1.below B14 (by omega)
 replace o2:=o2.below B14 (by omega)
 replace o3:=o3.below B14 (by omega)
 replace o4:=o4.below B14 (by omega)
 replace o6:=o6.below B14 (by omega)
 replace o12:=o12.below B14 (by omega)
 replace o13:=o13.below B14 (by omega)
 replace BB:=BB.trans (B14.mono (B':=w.heap.size) (by omega))
 go_wp2_with fail
 refine (held_I _ (invOf x0).1 1 _ o4.rd (by omega) (by omega)).mono ?_
 rintro e w15 ⟨rfl,rfl⟩
 go_wp2_with fail
 go_ret
 exact ⟨rfl,BB⟩
end Go.Proofs.YtfhmonacgmakbaaGreat

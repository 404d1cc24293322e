/- Lemmas (15). -/
import Derived.Test.YtedgfkpfhonlpaaGreatZI0
import Derived.Test.YtedgfkpfhonlpaaGreatZI3
import Derived.Test.YtedgfkpfhonlpaaGreatZI5
import Derived.Test.YtedgfkpfhonlpaaGreatZI6
import Derived.Test.YtedgfkpfhonlpaaGreatZI8
import Derived.Test.YtedgfkpfhonlpaaGreatZI9
import Derived.Test.YtedgfkpfhonlpaaGreatZI10
import Derived.Test.YtedgfkpfhonlpaaGreatZI11
import Derived.Test.YtedgfkpfhonlpaaGreatZI13
import Derived.Test.YtedgfkpfhonlpaaGreatZI14
set_option maxHeartbeats 16000000
set_option maxRecDepth 100000
set_option linter.unusedSimpArgs false
set_option linter.unusedVariables false
namespace Go.Proofs.YtedgfkpfhonlpaaGreat
open Go.RowKit
section
theorem mP_neg_cg {x y:Int} (h:mP x = mP y):mP (-x) = mP (-y):=by unfold mP at *;omega
theorem mP_add_cg {x y u v:Int} (h:mP x = mP y) (g:mP u = mP v):mP (x + u) = mP (y + v):=by unfold mP at *;omega
theorem qH0 {x y u v:Int} (h:mP x = mP y) (g:mP u = mP v):mP (x * u) = mP (y * v):=by
 rw [← mP_mul x u,h,mP_mul,← wV y u,g,wV]
theorem mP_id (x:Int):mP (mP x) = mP x:=by unfold mP;omega
abbrev Mon:=List Nat
abbrev Pol:=List (Int × Mon)
def monV (a:List Int):Mon→Int
 | [] => 1
 | p :: m => a.getD p 0 * monV a m
def polV (a:List Int):Pol→Int
 | [] => 0
 | x :: p => x.1 * monV a x.2 + polV a p
def insMo (q:Nat):Mon→Mon
 | [] => [q]
 | p :: m => bif Nat.ble q p then q :: p :: m else p :: insMo q m
theorem insMo_v (a:List Int) (q:Nat):∀ m,monV a (insMo q m) = a.getD q 0 * monV a m
 | [] => rfl
 | p :: m => by
  show monV a (bif Nat.ble q p then q :: p :: m else p :: insMo q m) = _
  cases Nat.ble q p
  ·show a.getD p 0 * monV a (insMo q m) = a.getD q 0 * (a.getD p 0 * monV a m)
   rw [insMo_v a q m,Int.mul_left_comm]
  ·rfl
def mulMo:Mon→Mon→Mon
 | [],n => n
 | q :: m,n => insMo q (mulMo m n)
theorem mulMo_v (a:List Int):∀ m n,monV a (mulMo m n) = monV a m * monV a n
 | [],n => by show monV a n = 1 * monV a n;rw [Int.one_mul]
 | q :: m,n => by
  show monV a (insMo q (mulMo m n)) = a.getD q 0 * monV a m * monV a n
  rw [insMo_v,mulMo_v a m n,Int.mul_assoc]
def eqMo:Mon→Mon→Bool
 | [],[] => true
 | p :: m,q :: n => Nat.beq p q && eqMo m n
 | _,_ => false
theorem eqMo_eq:∀ {m n:Mon},eqMo m n = true→m = n
 | [],[],_ => rfl
 | p :: m,q :: n,h => by
  have h:(Nat.beq p q && eqMo m n) = true:=h
  rw [Bool.and_eq_true] at h
  rw [Nat.eq_of_beq_eq_true h.1,eqMo_eq h.2]
 | [],_ :: _,h => nomatch h
 | _ :: _,[],h => nomatch h
def ltMo:Mon→Mon→Bool
 | [],[] => false
 | [],_ :: _ => true
 | _ :: _,[] => false
 | p :: m,q :: n => bif Nat.blt p q then true else bif Nat.beq p q then ltMo m n else false
def insPo (c:Int) (m:Mon):Pol→Pol
 | [] => bif c == 0 then [] else [(c,m)]
 | x :: p => bif eqMo m x.2 then (bif c + x.1 == 0 then p else (c + x.1,x.2) :: p) else bif ltMo m x.2 then (c,m) :: x :: p else x :: insPo c m p
theorem insPo_v (a:List Int) (c:Int) (m:Mon):∀ p,polV a (insPo c m p) = c * monV a m + polV a p
 | [] => by
  show polV a (bif c == 0 then [] else [(c,m)]) = _
  cases h:c == 0
  ·rfl
  ·rw [beq_iff_eq.1 h];show (0:Int) = 0 * monV a m + 0;rw [Int.zero_mul];rfl
 | x :: p => by
  show polV a (bif eqMo m x.2 then (bif c + x.1 == 0 then p else (c + x.1,x.2) :: p) else bif ltMo m x.2 then (c,m) :: x :: p else x :: insPo c m p) = c * monV a m + (x.1 * monV a x.2 + polV a p)
  cases he:eqMo m x.2
  ·cases ltMo m x.2
   ·show x.1 * monV a x.2 + polV a (insPo c m p) = _
    rw [insPo_v a c m p,Int.add_left_comm]
   ·rfl
  ·have e:=eqMo_eq he
   have k:c * monV a m + (x.1 * monV a x.2 + polV a p) = (c + x.1) * monV a x.2 + polV a p:=by rw [e,Int.add_mul,Int.add_assoc]
   rw [k]
   cases h:c + x.1 == 0
   ·rfl
   ·rw [beq_iff_eq.1 h,Int.zero_mul,Int.zero_add];rfl
def addPo:Pol→Pol→Pol
 | [],q => q
 | x :: p,q => insPo x.1 x.2 (addPo p q)
theorem addPo_v (a:List Int):∀ p q,polV a (addPo p q) = polV a p + polV a q
 | [],q => by show polV a q = 0 + polV a q;rw [Int.zero_add]
 | x :: p,q => by
  show polV a (insPo x.1 x.2 (addPo p q)) = x.1 * monV a x.2 + polV a p + polV a q
  rw [insPo_v,addPo_v a p q,Int.add_assoc]
def sclPo (c:Int) (m:Mon):Pol→Pol→Pol
 | [],r => r
 | x :: p,r => insPo (c * x.1) (mulMo m x.2) (sclPo c m p r)
theorem sclPo_v (a:List Int) (c:Int) (m:Mon):∀ p r,polV a (sclPo c m p r) = c * monV a m * polV a p + polV a r
 | [],r => by show polV a r = c * monV a m * 0 + polV a r;rw [Int.mul_zero,Int.zero_add]
 | x :: p,r => by
  show polV a (insPo (c * x.1) (mulMo m x.2) (sclPo c m p r)) = c * monV a m * (x.1 * monV a x.2 + polV a p) + polV a r
  rw [insPo_v,sclPo_v a c m p r,mulMo_v,Int.mul_add,← Int.add_assoc]
  congr 2
  rw [Int.mul_assoc,Int.mul_assoc,Int.mul_left_comm x.1]
def mulPo:Pol→Pol→Pol
 | [],_ => []
 | x :: p,q => sclPo x.1 x.2 q (mulPo p q)
theorem mulPo_v (a:List Int):∀ p q,polV a (mulPo p q) = polV a p * polV a q
 | [],q => by show (0:Int) = 0 * polV a q;rw [Int.zero_mul]
 | x :: p,q => by
  show polV a (sclPo x.1 x.2 q (mulPo p q)) = (x.1 * monV a x.2 + polV a p) * polV a q
  rw [sclPo_v,mulPo_v a p q,Int.add_mul]
def prodV (a:List Int):List Int→Int
 | [] => 1
 | p :: ps => a.getD p.toNat 0 * prodV a ps
theorem valM_go (a:List Int):∀ (ps:List Int) (o:Int),mP o = o→ps.foldl (fun o p => mP (o * a.getD p.toNat 0)) o = mP (o * prodV a ps)
 | [],o,h => by show o = mP (o * 1);rw [Int.mul_one,h]
 | p :: ps,o,h => by
  show ps.foldl (fun o p => mP (o * a.getD p.toNat 0)) (mP (o * a.getD p.toNat 0)) = mP (o * (a.getD p.toNat 0 * prodV a ps))
  rw [valM_go a ps _ (mP_id _),mP_mul,Int.mul_assoc]
theorem valM_prod (a ps:List Int):valM a ps = mP (prodV a ps):=by
 have:=valM_go a ps 1 (by decide)
 rw [Int.one_mul] at this
 exact this
def RelP (a L:List Int) (P:List Pol):Prop:=L.length = P.length∧∀ i,mP (L.getD i 0) = mP (polV a (P.getD i []))
theorem RelP.snoc {a L:List Int} {P:List Pol} (h:RelP a L P) {x:Int} {p:Pol} (hx:mP x = mP (polV a p)):RelP a (L ++ [x]) (P ++ [p]):=by
 obtain ⟨h1,h2⟩:=h
 refine ⟨by rw [List.length_append,List.length_append,h1];rfl,fun i => ?_⟩
 rw [List.getD_eq_getElem?_getD,List.getD_eq_getElem?_getD]
 by_cases hi:i < L.length
 ·rw [List.getElem?_append_left hi,List.getElem?_append_left (by omega),← List.getD_eq_getElem?_getD,← List.getD_eq_getElem?_getD]
  exact h2 i
 ·by_cases he:i = L.length
  ·subst he
   rw [List.getElem?_append_right (Nat.le_refl _),List.getElem?_append_right (by omega),h1,Nat.sub_self]
   exact hx
  ·rw [List.getElem?_eq_none (by rw [List.length_append];show L.length + 1 ≤ i;omega),List.getElem?_eq_none (by rw [List.length_append];show P.length + 1 ≤ i;omega)]
   rfl
def crP (P:List Pol):List Int→Pol
 | [] => [(1,[])]
 | p :: ps => mulPo (P.getD p.toNat []) (crP P ps)
theorem crP_v {a L:List Int} {P:List Pol} (h:RelP a L P):∀ ps,mP (prodV L ps) = mP (polV a (crP P ps))
 | [] => by show mP 1 = mP (1 * 1 + 0);rfl
 | p :: ps => by
  show mP (L.getD p.toNat 0 * prodV L ps) = mP (polV a (mulPo (P.getD p.toNat []) (crP P ps)))
  rw [mulPo_v]
  exact qH0 (h.2 _) (crP_v h ps)
def crMo:List Int→Mon
 | [] => []
 | p :: ps => insMo p.toNat (crMo ps)
theorem crMo_v (a:List Int):∀ ps,monV a (crMo ps) = prodV a ps
 | [] => rfl
 | p :: ps => by
  show monV a (insMo p.toNat (crMo ps)) = a.getD p.toNat 0 * prodV a ps
  rw [insMo_v,crMo_v a ps]
def cutI (a L:List Int) (m:MC):Int:=if m.2.2 = 0 then 0 else mP (m.1 * mP (valM L m.2.1 * a.getD m.2.2.toNat 0))
def rowI (a L:List Int) (cs:List MC):Int:=mP (-((cs.map (cutI a L)).sum))
def invI (a:List Int) (C:List (List MC)):List Int:=C.foldl (fun L cs => L ++ [rowI a L cs]) [1]
def invJ (a:List Int) (C:List (List MC)):List Int:=C.foldl (fun L cs => L ++ [mP (0 - rowV a L cs)]) [1]
def rowPI (P:List Pol):List MC→Pol
 | [] => []
 | m :: cs => bif m.2.2 == 0 then rowPI P cs else addPo (mulPo [(-m.1,[m.2.2.toNat])] (crP P m.2.1)) (rowPI P cs)
def rowPJ (P:List Pol):List MC→Pol
 | [] => []
 | m :: cs => sclPo (-m.1) (crMo m.2.1) (P.getD m.2.2.toNat []) (rowPJ P cs)
theorem rowPI_v {a L:List Int} {P:List Pol} (h:RelP a L P):∀ cs:List MC,mP (-((cs.map (cutI a L)).sum)) = mP (polV a (rowPI P cs))
 | [] => rfl
 | m :: cs => by
  have ih:=rowPI_v h cs
  rw [List.map_cons,List.sum_cons,Int.neg_add]
  show _ = mP (polV a (bif m.2.2 == 0 then rowPI P cs else addPo (mulPo [(-m.1,[m.2.2.toNat])] (crP P m.2.1)) (rowPI P cs)))
  cases hz:m.2.2 == 0
  ·have hz:¬ m.2.2 = 0:=by simpa using hz
   have hc:cutI a L m = mP (m.1 * mP (valM L m.2.1 * a.getD m.2.2.toNat 0)):=if_neg hz
   show mP (-cutI a L m + -((cs.map (cutI a L)).sum)) = mP (polV a (addPo (mulPo [(-m.1,[m.2.2.toNat])] (crP P m.2.1)) (rowPI P cs)))
   rw [addPo_v,mulPo_v]
   refine mP_add_cg ?_ ih
   have e1:polV a [(-m.1,[m.2.2.toNat])] = -(m.1 * a.getD m.2.2.toNat 0):=by
    show -m.1 * (a.getD m.2.2.toNat 0 * 1) + 0 = _
    rw [Int.mul_one,Int.add_zero,Int.neg_mul]
   rw [e1,Int.neg_mul]
   refine mP_neg_cg ?_
   rw [hc,mP_id,wV,Int.mul_assoc]
   refine qH0 rfl ?_
   rw [Int.mul_comm]
   exact qH0 rfl (by rw [valM_prod,mP_id];exact crP_v h _)
  ·have hz:m.2.2 = 0:=by simpa using hz
   have hc:cutI a L m = 0:=if_pos hz
   rw [hc]
   show mP (-0 + _) = mP (polV a (rowPI P cs))
   rw [Int.neg_zero,Int.zero_add];exact ih
theorem rowPJ_v {a L:List Int} {P:List Pol} (h:RelP a L P):∀ cs:List MC,mP (-((cs.map (cutV a L)).sum)) = mP (polV a (rowPJ P cs))
 | [] => rfl
 | m :: cs => by
  have ih:=rowPJ_v h cs
  rw [List.map_cons,List.sum_cons,Int.neg_add]
  show _ = mP (polV a (sclPo (-m.1) (crMo m.2.1) (P.getD m.2.2.toNat []) (rowPJ P cs)))
  rw [sclPo_v]
  refine mP_add_cg ?_ ih
  rw [crMo_v,Int.neg_mul,Int.neg_mul]
  refine mP_neg_cg ?_
  show mP (mP (m.1 * mP (valM a m.2.1 * L.getD m.2.2.toNat 0))) = _
  rw [mP_id,wV,Int.mul_assoc]
  refine qH0 rfl ?_
  exact qH0 (by rw [valM_prod,mP_id]) (h.2 _)
def polI (C:List (List MC)):List Pol:=C.foldl (fun P cs => P ++ [rowPI P cs]) [[(1,[])]]
def polJ (C:List (List MC)):List Pol:=C.foldl (fun P cs => P ++ [rowPJ P cs]) [[(1,[])]]
theorem relP_one (a:List Int):RelP a [1] [[(1,[])]]:=⟨rfl,fun i => by
 match i with
 | 0 => show mP 1 = mP (1 * 1 + 0);rfl
 | i + 1 => rfl⟩
theorem relI_go (a:List Int):∀ (C:List (List MC)) (L:List Int) (P:List Pol),RelP a L P→RelP a (C.foldl (fun L cs => L ++ [rowI a L cs]) L) (C.foldl (fun P cs => P ++ [rowPI P cs]) P)
 | [],_,_,h => h
 | cs :: C,L,P,h => relI_go a C _ _ (h.snoc (by rw [← rowPI_v h cs];exact mP_id _))
theorem relJ_go (a:List Int):∀ (C:List (List MC)) (L:List Int) (P:List Pol),RelP a L P→RelP a (C.foldl (fun L cs => L ++ [mP (0 - rowV a L cs)]) L) (C.foldl (fun P cs => P ++ [rowPJ P cs]) P)
 | [],_,_,h => h
 | cs :: C,L,P,h => relJ_go a C _ _ (h.snoc (by
   rw [← rowPJ_v h cs,mP_id,Int.zero_sub]
   exact mP_neg_cg (mP_id _)))
theorem relI (a:List Int) (C:List (List MC)):RelP a (invI a C) (polI C):=relI_go a C _ _ (relP_one a)
theorem relJ (a:List Int) (C:List (List MC)):RelP a (invJ a C) (polJ C):=relJ_go a C _ _ (relP_one a)
theorem small_go (f:List Int→List MC→Int) (hf:∀ L cs,mP (f L cs) = f L cs):∀ (C:List (List MC)) (L:List Int),(∀ x ∈ L,mP x = x)→∀ x ∈ C.foldl (fun L cs => L ++ [f L cs]) L,mP x = x
 | [],_,h => h
 | cs :: C,L,h => small_go f hf C _ (fun x hx => by
   rcases List.mem_append.1 hx with hx|hx
   ·exact h x hx
   ·rw [List.mem_singleton.1 hx];exact hf _ _)
theorem jU0 (a:List Int) (C:List (List MC)):∀ x ∈ invI a C,mP x = x:=small_go (rowI a) (fun _ _ => mP_id _) C _ (by intro x hx;rw [List.mem_singleton.1 hx];rfl)
theorem invJ_small (a:List Int) (C:List (List MC)):∀ x ∈ invJ a C,mP x = x:=small_go (fun L cs => mP (0 - rowV a L cs)) (fun _ _ => mP_id _) C _ (by intro x hx;rw [List.mem_singleton.1 hx];rfl)
theorem inv_same (a:List Int) (C:List (List MC)) (h:polI C = polJ C):invI a C = invJ a C:=by
 obtain ⟨i1,i2⟩:=relI a C
 obtain ⟨j1,j2⟩:=relJ a C
 rw [h] at i1 i2
 refine List.ext_getElem (by omega) fun i h1 h2 => ?_
 have e:=(i2 i).trans (j2 i).symm
 rw [jU h1,jU h2,jU0 a C _ (List.getElem_mem _),invJ_small a C _ (List.getElem_mem _)] at e
 exact e
theorem pol6:polI (T6.map cutsM) = polJ (T6.map cutsM):=by decide +kernel
theorem inv6 (a:List Int):invI a (T6.map cutsM) = invJ a (T6.map cutsM):=inv_same a _ pol6
end
section
section
variable {F:Spl→Int} (hF:∀ s c,F (catS s c) = F s * F c)
include hF
def mulL:List Int→Int
 | [] => 1
 | x :: l => x * mulL l
end
def v9 (a b:List Int):List (Int × Spl)→Int→Int
 | [],out => out
 | q :: L,out => if (vatOf a q.2.1).2 = 0∧(vatOf b q.2.2).2 = 0 then v9 a b L (mP (out + mP (q.1 * mP ((vatOf a q.2.1).1 * (vatOf b q.2.2).1)))) else -1
theorem okF_forB {f:List (List Int)} (h:OkF f) (h8:qX f ≤ 8):forB f = true:=forB_of h8 (fun t ht => by
  unfold canT
  rw [Bool.and_eq_true]
  exact ⟨lev8_mk (h.1 t ht).1 (by have:=jN ht;omega),decide_eq_true (h.1 t ht).2⟩) h.2
end
section
theorem okF_one {T:List Int} (h:qW T) (hc:canon T = T):OkF [T]:=⟨fun x hx => by obtain rfl:=List.mem_singleton.1 hx;exact ⟨h,hc⟩,List.pairwise_singleton _ _⟩
def OkA (L:Elt):Prop:=∀ q ∈ L,OkF q.2
theorem OkA.prod {d e:Elt} (hd:OkA d) (he:OkA e):OkA (prodL d e):=fun q hq => by
 unfold prodL at hq
 obtain ⟨p,hp,hq⟩:=List.mem_flatMap.1 hq
 obtain ⟨r,hr,rfl⟩:=List.mem_map.1 hq
 exact okF_mul (hd p hp) (he r hr)
theorem OkA.sum {L:Elt} (h:OkA L):OkA (sumS cmpF L):=fun q hq => by
 obtain ⟨p,hp,e⟩:=sumS_mem hq
 rw [← e];exact h p hp
theorem OkA.fold {g:List Int→Elt}:∀ {f:List (List Int)} {out:Elt},(∀ t ∈ f,OkA (g t))→OkA out→OkA (f.foldl (stepA g) out)
 | [],_,_,h => h
 | t :: f,out,hg,h => by
  rw [List.foldl_cons]
  exact OkA.fold (fun x hx => hg x (by simp [hx])) (OkA.sum (h.prod (hg t (by simp))))
theorem okA_one:OkA [(1,[])]:=fun q hq => by
 obtain rfl:=List.mem_singleton.1 hq
 exact okF_nil
theorem okA_antT:∀ (n:Nat) {t:List Int},qW t→t.length ≤ n→OkA (antT n t)
 | 0,t,_,_ => fun q hq => nomatch hq
 | n + 1,t,h,hn => by
  unfold antT
  refine OkA.sum fun q hq => ?_
  obtain ⟨c,hc,hq⟩:=List.mem_flatMap.1 hq
  obtain ⟨z,hz,rfl,hg,_,h1⟩:=wP h hc
  unfold cutE at hq
  rcases h1 with ⟨_,h1⟩|⟨h1,h2⟩
  ·rw [if_pos h1] at hq;cases hq
  ·rw [if_neg h1] at hq
   have a2:=hg.2
   have a3:qX z.1.2 = (cutS z).1.2.length:=by rw [h2];simp [qX]
   have a4:=hg.1 (cutS z).1.2 (by rw [h2];simp)
   have a5:=a4.1.pos
   have b1:OkA (antF (antT n) z.1.1):=OkA.fold (fun x hx => okA_antT n (hg.1 x (by simp [hx])).1 (by have:=jN hx;omega)) okA_one
   have b2:OkA [(mP (-(cutS z).2),[(cutS z).1.2])]:=fun q hq => by
    obtain rfl:=List.mem_singleton.1 hq
    exact okF_one a4.1 a4.2
   exact OkA.sum (b1.prod b2) q hq
theorem okA_ant {f:List (List Int)} (h:OkF f):OkA (ant f):=OkA.fold (fun t ht => okA_antT t.length (h.1 t ht).1 (Nat.le_refl _)) okA_one
theorem gd_ant {f:List (List Int)} (h:OkF f):GdA (qX f) (ant f):=by
 have:=GdA.fold (g:=ant1) (f:=f) (out:=[(1,[])]) (m:=0) (fun x hx => vR x.length (h.1 x hx).1 (Nat.le_refl _)) gd_one
 rw [Nat.zero_add] at this
 exact this
theorem ant_len {f:List (List Int)} (h:OkF f) (h8:qX f ≤ 8):(ant f).length ≤ 256:=by
 have h1:=vO (g:=ant1) f [(1,[])] (fun x hx => wJ x.length x (h.1 x hx).1 (h.1 x hx).2 (Nat.le_refl _))
 have h2:=eF_le f
 have h3:2 ^ eF f ≤ 2 ^ 8:=Nat.pow_le_pow_right (by decide) (by omega)
 rw [List.length_singleton,Nat.one_mul] at h1
 exact Nat.le_trans h1 h3
theorem antM_range (e:Elt):∀ q ∈ antM e,0 ≤ q.1∧q.1 < 10007:=fun q hq => by
 unfold antM at hq
 obtain ⟨p,_,hq⟩:=List.mem_flatMap.1 hq
 obtain ⟨x,_,rfl⟩:=List.mem_map.1 hq
 exact xU _
theorem antM_mem {e:Elt} {q:Int × List (List Int)} (hq:q ∈ antM e):∃ p ∈ e,∃ x ∈ ant p.2,x.2 = q.2:=by
 unfold antM at hq
 obtain ⟨p,hp,hq⟩:=List.mem_flatMap.1 hq
 obtain ⟨x,hx,rfl⟩:=List.mem_map.1 hq
 exact ⟨p,hp,x,hx,rfl⟩
theorem elB_p {e:Elt} (h:elB e = true) {p:Int × List (List Int)} (hp:p ∈ e):OkF p.2∧qX p.2 ≤ 8:=by
 have hb:=(vY h).2.2.2 p hp
 exact ⟨okF_of hb,(kQ hb).1⟩
theorem ant_forB {e:Elt} (h:elB e = true):∀ q ∈ sumS cmpF (antM e),forB q.2 = true∧qX q.2 ≤ 8:=fun q hq => by
 obtain ⟨p,hp,e1⟩:=sumS_mem hq
 obtain ⟨r,hr,x,hx,e2⟩:=antM_mem hp
 obtain ⟨a1,a2⟩:=elB_p h hr
 have b1:=okA_ant a1 x hx
 have b2:=(gd_ant a1 x hx).2.2
 rw [← e1,← e2]
 exact ⟨okF_forB b1 (by omega),by omega⟩
theorem ant_case {e:Elt} (h:elB e = true):(antOf e = (sumS cmpF (antM e),0)∧elB (sumS cmpF (antM e)) = true) ∨ antOf e = ([],3):=by
 unfold antOf
 rw [if_pos h]
 rcases limS_code (sumS cmpF (antM e)) with h1|h1
 ·refine .inl ⟨h1,?_⟩
  have h2:=(limS_ok (by rw [h1])).2.1
  exact elB_of h2 (sumS_nf xL (antM_range e)) fun q hq => (ant_forB h q hq).1
 ·exact .inr h1
theorem elB_one {k:Int} {f:List (List Int)} (hk:1 ≤ k∧k < 10007) (hf:OkF f) (h8:qX f ≤ 8):elB [(k,f)] = true :=
 elB_of (by simp) ⟨List.pairwise_singleton _ _,fun q hq => by obtain rfl:=List.mem_singleton.1 hq;exact hk⟩ fun q hq => by obtain rfl:=List.mem_singleton.1 hq;exact okF_forB hf h8
theorem ten_left {q:Int × Spl} (hk:1 ≤ q.1∧q.1 < 10007) (h1:OkF q.2.1) (h8:qX q.2.1 ≤ 8):antOf [(q.1,q.2.1)] = (sumS cmpF (antM [(q.1,q.2.1)]),0)∧elB (sumS cmpF (antM [(q.1,q.2.1)])) = true∧(sumS cmpF (antM [(q.1,q.2.1)])).length ≤ 256∧∀ p ∈ sumS cmpF (antM [(q.1,q.2.1)]),qX p.2 = qX q.2.1:=by
 have he:=elB_one hk h1 h8
 have hl:(sumS cmpF (antM [(q.1,q.2.1)])).length ≤ 256:=by
  refine Nat.le_trans (qG0 _) ?_
  have e1:antM [(q.1,q.2.1)] = (ant q.2.1).map (fun x => (mP (x.1 * q.1),x.2)) ++ []:=rfl
  rw [e1,List.append_nil,List.length_map]
  exact ant_len h1 h8
 have hs:∀ p ∈ sumS cmpF (antM [(q.1,q.2.1)]),qX p.2 = qX q.2.1:=fun p hp => by
  obtain ⟨r,hr,e1⟩:=sumS_mem hp
  obtain ⟨u,hu,x,hx,e2⟩:=antM_mem hr
  obtain rfl:=List.mem_singleton.1 hu
  rw [← e1,← e2]
  exact (gd_ant h1 x hx).2.2
 have hc:antOf [(q.1,q.2.1)] = (sumS cmpF (antM [(q.1,q.2.1)]),0):=by
  unfold antOf
  rw [if_pos he]
  exact limS_of (by omega) fun p hp => by rw [hs p hp];exact h8
 refine ⟨hc,?_,hl,hs⟩
 rcases ant_case he with ⟨_,k⟩|k
 ·exact k
 ·rw [hc] at k;injection k with _ k;exact absurd k (by decide)
end
section
theorem isMap_get0 {a:List Int} (h:isMap a = true):(a.map eI).length = 38∧(a.map eI)[0]? = some [.int (a.getD 0 0)]:=by
 obtain ⟨h1,_⟩:=kR h
 exact ⟨by rw [List.length_map,h1],by rw [qD (by omega),jU (by omega)];rfl⟩
def cdM (a b:List Int):Int:=if isMap a = true∧isMap b = true then (if a.getD 0 0 = 1 then 0 else 5) else 1
noncomputable def TSmM:Tab Tryz.prog:=Tab.none.add 170 (tab1 codL fun x => some [.val (.bool (isMap x))]) (xD fun x rs h => by cases h;exact a_spec_l07Is x)
theorem a_l07Code (a b:List Int):AFn Tryz.prog 109 [eL a,eL b] (· = [.val (.int (cdM a b))]):=by
 unfold cdM
 by_cases h1:isMap a = true
 rotate_left
 ·have h1':isMap a = false:=by simpa using h1
  rw [if_neg (fun h => h1 h.1)]
  refine AFn.of_runs (qJ 19) Tryz.func109 rfl rfl rfl gz ?_
  have hres:Tryz.f109.results.toList = [.tmp 4]:=rfl
  have hrts:Tryz.f109.resultTypes.toList = [2]:=rfl
  simp only [qU,qT,eL,eI,eLL,eB,Nat.zero_add,Nat.reduceAdd]
  intro M
  refine qQ.of ?_
  refine gw150 (kk 5) h1' ?_
  exact gw8
 by_cases h2:isMap b = true
 rotate_left
 ·have h2':isMap b = false:=by simpa using h2
  rw [if_neg (fun h => h2 h.2)]
  refine AFn.of_runs (qJ 19) Tryz.func109 rfl rfl rfl gz ?_
  have hres:Tryz.f109.results.toList = [.tmp 4]:=rfl
  have hrts:Tryz.f109.resultTypes.toList = [2]:=rfl
  simp only [qU,qT,eL,eI,eLL,eB,Nat.zero_add,Nat.reduceAdd]
  intro M
  refine qQ.of ?_
  refine gw150 (kk 5) (Yp h1 h2') ?_
  exact gw8
 rw [if_pos ⟨h1,h2⟩]
 obtain ⟨g1,g2⟩:=isMap_get0 h1
 by_cases h3:a.getD 0 0 = 1
 ·have i1:(a.getD 0 0 != 1) = false:=by simpa using h3
  rw [if_pos h3]
  refine AFn.of_runs (qJ 19) Tryz.func109 rfl rfl rfl gz ?_
  have hres:Tryz.f109.results.toList = [.tmp 4]:=rfl
  have hrts:Tryz.f109.resultTypes.toList = [2]:=rfl
  simp only [qU,qT,eL,eI,eLL,eB,Nat.zero_add,Nat.reduceAdd]
  intro M
  refine qQ.of ?_
  refine gw151 (kk 5) (Y5 h1 h2 g1 g2 i1) ?_
  exact gw8
 ·have i1:(a.getD 0 0 != 1) = true:=by simpa using h3
  rw [if_neg h3]
  refine AFn.of_runs (qJ 19) Tryz.func109 rfl rfl rfl gz ?_
  have hres:Tryz.f109.results.toList = [.tmp 4]:=rfl
  have hrts:Tryz.f109.resultTypes.toList = [2]:=rfl
  simp only [qU,qT,eL,eI,eLL,eB,Nat.zero_add,Nat.reduceAdd]
  intro M
  refine qQ.of ?_
  refine gw151 (kk 5) (Y5 h1 h2 g1 g2 i1) ?_
  exact gw8
end
section
theorem a_valueOfB (a ps:List Int) (hab:∀ i,0 ≤ a.getD i 0∧a.getD i 0 < 10007) (hp:∀ p ∈ ps,0 ≤ p∧p < a.length) (hl:ps.length ≤ 1000000):AFn Tryz.prog 168 [eL a,eL ps] (· = [.val (.int (valM a ps))]):=by
 refine AFn.of_runs (qJ 23) Tryz.func168 rfl rfl rfl gz ?_
 have hres:Tryz.f168.results.toList = [.tmp 4]:=rfl
 have hrts:Tryz.f168.resultTypes.toList = [2]:=rfl
 simp only [qU,qT,eL,eI,eLL,eB,Nat.zero_add,Nat.reduceAdd]
 intro M
 refine qQ.of ?_
 refine gw5 (kk 11) Y0 ?_
 refine qQ.loop (β:=Nat) (γ:=Unit) (fun k => ⟨[(0,.c (.val (.sl 1 (a.map eI)))),(5,.c (.val (.int (valM a (ps.take k))))),(8,.c (.val (.sl 1 (ps.map eI)))),(9,.c (.val (.int ps.length))),(10,.c (.val (.int k)))],[]⟩) (fun k => k ≤ ps.length) (fun k => ps.length - k)
  (fun _ => ⟨[(5,.c (.val (.int (valM a ps))))],[]⟩) (fun _ => True) 0 (Nat.zero_le _) ?_ ?_ ?_
 ·exact gw152 (show valM a [] = 1 from rfl)
 ·intro k hk
  have hk:k ≤ ps.length:=hk
  have hw:=qH (n:=k) (by omega)
  by_cases h:k < ps.length
  ·have i1:((k:Int) < (ps.length:Int)) = True:=eq_true (by omega)
   have i2:((0:Int) ≤ (k:Int)) = True:=eq_true (by omega)
   obtain ⟨p,hpe⟩:∃ p,p = ps[k]:=⟨_,rfl⟩
   obtain ⟨p1,p2⟩:=hp ps[k] (List.getElem_mem _)
   rw [← hpe] at p1 p2
   obtain ⟨m,rfl⟩:∃ m:Nat,p = m:=⟨p.toNat,by omega⟩
   have hm:m < a.length:=by omega
   have hle1:(ps.map eI).length = ps.length:=List.length_map _
   have hle2:(a.map eI).length = a.length:=List.length_map _
   have hg1:(ps.map eI)[k]? = some [.int (m:Int)]:=by rw [qD h,← hpe];rfl
   have hg2:(a.map eI)[m]? = some [.int (a.getD m 0)]:=by rw [qD hm,jU hm];rfl
   have hst:valM a (ps.take (k + 1)) = mP (valM a (ps.take k) * a.getD m 0):=by rw [List.take_succ_eq_append_getElem h,valM_snoc,← hpe];rfl
   have i3:((m:Int) < (a.length:Int)) = True:=eq_true (by omega)
   have i4:((0:Int) ≤ (m:Int)) = True:=eq_true (by omega)
   have hmb:=mul_bdM (valM_bd a (ps.take k)) (hab m)
   have hw2:w64 (valM a (ps.take k) * a.getD m 0) = valM a (ps.take k) * a.getD m 0:=qN (by omega)
   have hnum:=a_num (valM a (ps.take k) * a.getD m 0)
   simp only [eI] at hnum
   refine gw153 (kk 11) (Y10 i1 i2 i3 i4 hle1 hle2 hg1 hg2 hw hw2) ?_
   refine qZ.on (k + 1) ⟨h,by omega⟩ ?_
   rw [hst]
   exact gw6 Y0
  ·have i1:((k:Int) < (ps.length:Int)) = False:=eq_false (by omega)
   refine gw7 (kk 11) i1 ?_
   refine qZ.out () trivial ?_
   rw [List.take_of_length_le (by omega)]
   exact gw6 Y0
 ·rintro _ _
  refine gw7 (kk 11) Y0 ?_
  exact gw8
theorem cuts_low:(T6.zipIdx.all fun x => (cutsM x.1).all fun m => decide (m.2.2 = 0) || (m.2.1.all fun p => decide (p ≤ x.2))) = true:=by decide +kernel
theorem cuts_before {i:Nat} (h:i < T6.length):∀ m ∈ cutsM T6[i],m.2.2 ≠ 0→∀ p ∈ m.2.1,p ≤ i:=by
 intro m hm hz p hp
 have h1:=List.all_eq_true.1 cuts_low (T6[i],i) (by rw [List.mem_iff_getElem];exact ⟨i,by rw [List.length_zipIdx];exact h,by rw [List.getElem_zipIdx,Nat.zero_add]⟩)
 have h2:=List.all_eq_true.1 h1 m hm
 simp only [Bool.or_eq_true,decide_eq_true_eq,List.all_eq_true] at h2
 exact (h2.resolve_left hz) p hp
theorem cutI_bd (a L:List Int) (m:MC):0 ≤ cutI a L m∧cutI a L m < 10007:=by
 unfold cutI
 split
 ·omega
 ·exact mP_bd _
theorem sumI_bd (a L:List Int):∀ (C:List MC),0 ≤ (C.map (cutI a L)).sum∧(C.map (cutI a L)).sum ≤ 10007 * C.length
 | [] => by simp
 | m :: C => by
  have h1:=cutI_bd a L m
  have h2:=sumI_bd a L C
  rw [List.map_cons,List.sum_cons,List.length_cons];omega
theorem sumI_snoc (a L:List Int) (C:List MC) (m:MC):((C ++ [m]).map (cutI a L)).sum = (C.map (cutI a L)).sum + cutI a L m:=by
 rw [List.map_append,List.sum_append];simp
theorem invI_len (a:List Int):∀ (C:List (List MC)),(invI a C).length = C.length + 1:=by
 have key:∀ (C:List (List MC)) (L:List Int),(C.foldl (fun L cs => L ++ [rowI a L cs]) L).length = L.length + C.length:=by
  intro C
  induction C with
  | nil => intro L;rfl
  | cons cs C ih => intro L;show (C.foldl (fun L cs => L ++ [rowI a L cs]) (L ++ [rowI a L cs])).length = _;rw [ih,List.length_append,List.length_cons,List.length_cons,List.length_nil];omega
 intro C
 show (C.foldl (fun L cs => L ++ [rowI a L cs]) [1]).length = _
 rw [key];show 1 + C.length = _;omega
theorem invI_snoc (a:List Int) (C:List (List MC)) (cs:List MC):invI a (C ++ [cs]) = invI a C ++ [rowI a (invI a C) cs]:=by
 unfold invI
 rw [List.foldl_append];rfl
theorem invJ_snoc (a:List Int) (C:List (List MC)) (cs:List MC):invJ a (C ++ [cs]) = invJ a C ++ [mP (0 - rowV a (invJ a C) cs)]:=by
 unfold invJ
 rw [List.foldl_append];rfl
theorem invI_bd (a:List Int) (C:List (List MC)):∀ i,0 ≤ (invI a C).getD i 0∧(invI a C).getD i 0 < 10007:=by
 intro i
 by_cases hi:i < (invI a C).length
 ·rw [jU hi,← jU0 a C _ (List.getElem_mem hi)];exact mP_bd _
 ·rw [List.getD_eq_getElem?_getD,List.getElem?_eq_none (by omega)];decide
theorem take_cuts {i:Nat} (h:i < T6.length):(T6.take (i + 1)).map cutsM = (T6.take i).map cutsM ++ [cutsM T6[i]]:=by
 rw [List.take_succ_eq_append_getElem h,List.map_append];rfl
theorem a_inverseMap (X:List (List D)) (a:List Int) (ha:isMap a = true):AFn Tryz.prog 107 [[.sl 1 X,.sl 1 ((T6.map cutsM).map eMs)],eL a] (· = [.own 1 ((invI a (T6.map cutsM)).map eI) true]):=by
 obtain ⟨hal,hab⟩:=kR ha
 obtain ⟨Y,hY⟩:∃ Y,Y = (T6.map cutsM).map eMs:=⟨_,rfl⟩
 have hYl:Y.length = 37:=by rw [hY,List.length_map,List.length_map,jA]
 have ham:(a.map eI).length = 38:=by rw [List.length_map,hal]
 rw [← hY]
 refine AFn.of_runs (qJ 54) Tryz.func107 rfl rfl rfl gz ?_
 have hres:Tryz.f107.results.toList = [.tmp 4]:=rfl
 have hrts:Tryz.f107.resultTypes.toList = [24]:=rfl
 simp only [qU,qT,eL,eI,eLL,eB,Nat.zero_add,Nat.reduceAdd]
 intro M
 refine qQ.of ?_
 refine gw27 (kk 22) hYl ?_
 refine qQ.loop (β:=Nat) (γ:=Unit) (fun i => ⟨[(1,.c (.val (.sl 1 (a.map eI)))),(5,.c (.own 5 (i + 1))),(13,.c (.val (.sl 1 Y))),(14,.c (.val (.int 37))),(15,.c (.val (.int i)))],[(5,.row 1 ((invI a ((T6.take i).map cutsM)).map eI) true)]⟩) (fun i => i ≤ 37) (fun i => 37 - i)
  (fun _ => ⟨[(5,.c (.own 5 38))],[(5,.row 1 ((invI a (T6.map cutsM)).map eI) true)]⟩) (fun _ => True) 0 (Nat.zero_le _) ?_ ?_ ?_
 ·exact gw154 (show invI a [] = [1] from rfl)
 ·intro i hi
  have hi:i ≤ 37:=hi
  have hw:=qH (n:=i) (by omega)
  by_cases hi37:i < 37
  ·have i1:((i:Int) < 37) = True:=eq_true (by omega)
   have i2:((0:Int) ≤ (i:Int)) = True:=eq_true (by omega)
   have hiT:i < T6.length:=by rw [jA];exact hi37
   have hbef:=cuts_before hiT
   have hat:=invI_snoc a ((T6.take i).map cutsM) (cutsM T6[i])
   rw [← take_cuts hiT] at hat
   have hRl:=invI_len a ((T6.take i).map cutsM)
   rw [List.length_map,List.length_take,Nat.min_eq_left (by omega)] at hRl
   have hRb:=invI_bd a ((T6.take i).map cutsM)
   obtain ⟨t,ht⟩:∃ t,t = T6[i]:=⟨_,rfl⟩
   have htm:t ∈ T6:=by rw [ht];exact List.getElem_mem _
   have hg:Y[i]? = some [.sl 3 ((cutsM t).map eM)]:=by rw [hY,List.map_map,qD hiT,← ht];rfl
   obtain ⟨R,hR⟩:∃ R,R = invI a ((T6.take i).map cutsM):=⟨_,rfl⟩
   rw [← ht] at hbef hat
   rw [← hR] at hat hRl hRb ⊢
   have hRm:(R.map eI).length = i + 1:=by rw [List.length_map,hRl]
   obtain ⟨hLn,hLok⟩:=cutsM_ok htm
   obtain ⟨L,hL⟩:∃ L,L = cutsM t:=⟨_,rfl⟩
   rw [← hL] at hg hat hLn hLok hbef
   have hLm:(L.map eM).length = L.length:=List.length_map _
   refine gw36 (kk 22) (Y5 i1 i2 hg hYl hLm) ?_
   refine qQ.loop (β:=Nat) (γ:=Unit) (fun j => ⟨[(1,.c (.val (.sl 1 (a.map eI)))),(5,.c (.own 5 (i + 1))),(8,.c (.val (.int ((L.take j).map (cutI a R)).sum))),(13,.c (.val (.sl 1 Y))),(14,.c (.val (.int 37))),(15,.c (.val (.int i))),(19,.c (.val (.sl 3 (L.map eM)))),(20,.c (.val (.int L.length))),(21,.c (.val (.int j)))],[(5,.row 1 (R.map eI) true)]⟩) (fun j => j ≤ L.length) (fun j => L.length - j)
    (fun _ => ⟨[(1,.c (.val (.sl 1 (a.map eI)))),(5,.c (.own 5 (i + 1))),(8,.c (.val (.int (L.map (cutI a R)).sum))),(13,.c (.val (.sl 1 Y))),(14,.c (.val (.int 37))),(15,.c (.val (.int i)))],[(5,.row 1 (R.map eI) true)]⟩) (fun _ => True) 0 (Nat.zero_le _) ?_ ?_ ?_
   ·exact gw144 Y0
   ·intro j hj
    have hj:j ≤ L.length:=hj
    have hwj:=qH (n:=j) (by omega)
    by_cases hjL:j < L.length
    ·have j1:((j:Int) < (L.length:Int)) = True:=eq_true (by omega)
     have j2:((0:Int) ≤ (j:Int)) = True:=eq_true (by omega)
     obtain ⟨m,hm⟩:∃ m,m = L[j]:=⟨_,rfl⟩
     have hmg:(L.map eM)[j]? = some [.int m.1,.sl 1 (m.2.1.map eI),.int m.2.2]:=by rw [qD hjL,hm];rfl
     obtain ⟨m1,m2,m3,m4,m5⟩:=hLok L[j] (List.getElem_mem _)
     have hbm:=hbef L[j] (List.getElem_mem _)
     rw [← hm] at m1 m2 m3 m4 m5 hbm
     have hst:((L.take (j + 1)).map (cutI a R)).sum = ((L.take j).map (cutI a R)).sum + cutI a R m:=by
      rw [List.take_succ_eq_append_getElem hjL,sumI_snoc,← hm]
     have hsb:=sumI_bd a R (L.take j)
     have htl:(L.take j).length ≤ 256:=by rw [List.length_take];omega
     have hcb:=cutI_bd a R m
     obtain ⟨n,ps,z⟩:=m
     simp only at hmg m1 m2 m3 m4 m5 hbm
     by_cases hz:z = 0
     ·subst hz
      have hcv:cutI a R (n,ps,0) = 0:=if_pos rfl
      rw [hcv,Int.add_zero] at hst
      have z1:((0:Int) > 0) = False:=eq_false (by omega)
      refine gw36 (kk 22) (Y6 j1 j2 hmg hLm z1 hwj) ?_
      refine qZ.on (j + 1) ⟨hjL,by omega⟩ ?_
      rw [hst]
      exact gw6 Y0
     ·have hcv:cutI a R (n,ps,z) = mP (n * mP (valM R ps * a.getD z.toNat 0)):=if_neg hz
      obtain ⟨q,rfl⟩:∃ q:Nat,z = q:=⟨z.toNat,by omega⟩
      rw [Int.toNat_natCast] at hcv
      have hq:q < a.length:=by omega
      have z1:((q:Int) > 0) = True:=eq_true (by omega)
      have k1:((q:Int) < 38) = True:=eq_true (by omega)
      have k2:((0:Int) ≤ (q:Int)) = True:=eq_true (by omega)
      have hbg:(a.map eI)[q]? = some [.int (a.getD q 0)]:=by rw [qD hq,jU hq];rfl
      have hv:=a_valueOfB R ps hRb (fun p hp => by have h1:=m2 p hp;have h2:=hbm hz p hp;omega) (by omega)
      simp only [eL] at hv
      have hvb:=valM_bd R ps
      have hm1:=mul_bdM hvb (hab q)
      have hw1:w64 (valM R ps * a.getD q 0) = valM R ps * a.getD q 0:=qN (by omega)
      have hm2:=mul_bdM (a:=n) (by omega) (mP_bd (valM R ps * a.getD q 0))
      have hw2:w64 (n * mP (valM R ps * a.getD q 0)) = n * mP (valM R ps * a.getD q 0):=qN (by omega)
      have hw3:w64 (((L.take j).map (cutI a R)).sum + mP (n * mP (valM R ps * a.getD q 0))) = ((L.take j).map (cutI a R)).sum + mP (n * mP (valM R ps * a.getD q 0)):=qN (by rw [← hcv];omega)
      rw [hcv] at hst
      refine gw155 (kk 22) (Y12 j1 j2 hmg hLm ham hbg k1 k2 z1 hw1 hw2 (Yp hw3 hwj)) ?_
      refine qZ.on (j + 1) ⟨hjL,by omega⟩ ?_
      rw [hst]
      exact gw6 Y0
    ·have j1:((j:Int) < (L.length:Int)) = False:=eq_false (by omega)
     obtain rfl:j = L.length:=by omega
     refine gw27 (kk 22) j1 ?_
     refine qZ.out () trivial ?_
     rw [List.take_length]
     exact gw6 Y0
   ·rintro _ _
    have q1:=jV (n:=i + 1 + 1) (by omega)
    have q2:=jW (n:=i + 1 + 1) (c:=8) (by omega) (by omega)
    have q3:(i ≤ 140737488355326) = True:=eq_true (by omega)
    have hsb:=sumI_bd a R L
    have hwn:w64 (0 - (L.map (cutI a R)).sum) = -(L.map (cutI a R)).sum:=by rw [qN (by omega)];omega
    refine gw156 (kk 22) (Y6 hRm q1 q2 q3 hw hwn) ?_
    refine qZ.on (i + 1) ⟨by omega,by omega⟩ ?_
    rw [hat,List.map_append]
    exact gw157
  ·have i1:((i:Int) < 37) = False:=eq_false (by omega)
   obtain rfl:i = 37:=by omega
   refine gw27 (kk 22) i1 ?_
   refine qZ.out () trivial ?_
   rw [List.take_of_length_le (by rw [jA];omega)]
   exact gw6 Y0
 ·rintro _ _
  refine gw27 (kk 22) Y0 ?_
  exact gw8
end
section
def unitMap:List Int:=1 :: List.replicate 37 0
theorem c_spec_l07Unit (w:World):Calls Tryz.prog 171 #[] w (RetO (RS RI) w unitMap):=by
 go_enter Tryz.func171,Tryz.ntmps171
 go_wp2_with (at_make;refine wpList_makeI rfl _ _ 24 rfl 2 tI64 _ _ _ _ 38 rfl rfl rfl rfl (by omega) ?_;intro w1 hrow hb;have hc:=hrow.cells 0 (.int .i64 0) rfl;have hfz:=hrow.frozen 0;have hst:=(hrow.store 0 (.int .i64 1)).1;have hb':Below w.heap.size w (w1.setCell ⟨w.heap.size,0,none⟩ (.int .i64 1)):=hb.setCell (Nat.le_refl _) _;rw [map_set_int] at hst;clear hrow hb)
 go_ret
 exact ⟨_,rfl,Row.OwnI (xs:=unitMap) hst (by decide) (fun g hg => by cases hg;exact Nat.le_refl _),hb'⟩
end
section
theorem getD_pad (R:List Int) (n p:Nat):(R ++ List.replicate n 0).getD p 0 = R.getD p 0:=by
 rw [List.getD_eq_getElem?_getD,List.getD_eq_getElem?_getD]
 by_cases h:p < R.length
 ·rw [List.getElem?_append_left h]
 ·rw [List.getElem?_append_right (by omega),List.getElem?_eq_none (l:=R) (by omega)]
  by_cases h2:p - R.length < n
  ·rw [List.getElem?_eq_getElem (by rw [List.length_replicate];exact h2),List.getElem_replicate];rfl
  ·rw [List.getElem?_eq_none (by rw [List.length_replicate];omega)]
theorem rowV_pad (a R:List Int) (n:Nat) (L:List MC):rowV a (R ++ List.replicate n 0) L = rowV a R L:=by
 unfold rowV
 congr 2
 refine List.map_congr_left fun m _ => ?_
 unfold cutV
 rw [getD_pad]
theorem invJ_len (a:List Int) (C:List (List MC)):(invJ a C).length = C.length + 1:=by
 have key:∀ (C:List (List MC)) (L:List Int),(C.foldl (fun L cs => L ++ [mP (0 - rowV a L cs)]) L).length = L.length + C.length:=by
  intro C
  induction C with
  | nil => intro L;rfl
  | cons cs C ih => intro L;show (C.foldl (fun L cs => L ++ [mP (0 - rowV a L cs)]) (L ++ [mP (0 - rowV a L cs)])).length = _;rw [ih,List.length_append,List.length_cons,List.length_cons,List.length_nil];omega
 show (C.foldl (fun L cs => L ++ [mP (0 - rowV a L cs)]) [1]).length = _
 rw [key];show 1 + C.length = _;omega
def outJ (a:List Int) (i:Nat):List Int:=invJ a ((T6.take i).map cutsM) ++ List.replicate (37 - i) 0
theorem invJ_at (a:List Int) (i:Nat) (h:i ≤ 37):(invJ a ((T6.take i).map cutsM)).length = i + 1:=by
 rw [invJ_len,List.length_map,List.length_take,jA,Nat.min_eq_left h]
theorem outJ_len (a:List Int) (i:Nat) (h:i ≤ 37):(outJ a i).length = 38:=by
 unfold outJ
 rw [List.length_append,invJ_at a i h,List.length_replicate];omega
theorem isMap_of {b:List Int} (h:b.length = 38) (h2:∀ x ∈ b,0 ≤ x∧x < 10007):isMap b = true:=by
 unfold isMap
 rw [Bool.and_eq_true]
 refine ⟨decide_eq_true h,List.all_eq_true.2 fun x hx => ?_⟩
 have:=h2 x hx
 unfold isNum inR
 simp
 omega
theorem mem_bd {L:List Int} (h:∀ x ∈ L,mP x = x):∀ x ∈ L,0 ≤ x∧x < 10007:=fun x hx => by
 have h1:=h x hx
 have:=mP_bd x
 omega
theorem outJ_map (a:List Int) (i:Nat) (h:i ≤ 37):isMap (outJ a i) = true:=by
 refine isMap_of (outJ_len a i h) fun x hx => ?_
 rcases List.mem_append.1 hx with hx|hx
 ·exact mem_bd (invJ_small a _) x hx
 ·rw [List.eq_of_mem_replicate hx];decide
theorem outJ_set (a:List Int) (i:Nat) (h:i < T6.length):(outJ a i).set (i + 1) (mP (0 - rowV a (outJ a i) (cutsM T6[i]))) = outJ a (i + 1):=by
 have h37:i < 37:=by rw [jA] at h;exact h
 have hl:=invJ_at a i (by omega)
 have hr:List.replicate (37 - i) (0:Int) = 0 :: List.replicate (37 - (i + 1)) 0:=by rw [← List.replicate_succ];congr 1;omega
 have e:rowV a (outJ a i) (cutsM T6[i]) = rowV a (invJ a ((T6.take i).map cutsM)) (cutsM T6[i]):=rowV_pad a _ _ _
 refine (congrArg (fun z => (outJ a i).set (i + 1) (mP (0 - z))) e).trans ?_
 show (outJ a i).set (i + 1) (mP (0 - rowV a (invJ a ((T6.take i).map cutsM)) (cutsM T6[i]))) = _
 unfold outJ
 rw [take_cuts h,invJ_snoc,hr,List.set_append_right _ _ (by omega),hl,Nat.sub_self,List.set_cons_zero,List.append_assoc]
 rfl
theorem a_l01Sub (a b:Int) (h:-9223372036854775808 ≤ a - b∧a - b ≤ 9223372036854775807):AFn Tryz.prog 172 [eI a,eI b] (· = [.val (.int (mP (a - b)))]):=by
 have hw:=qN h
 refine AFn.of_runs (qJ 9) Tryz.func172 rfl rfl rfl gz ?_
 have hres:Tryz.f172.results.toList = [.tmp 4]:=rfl
 have hrts:Tryz.f172.resultTypes.toList = [2]:=rfl
 simp only [qU,qT,eL,eI,eLL,eB,Nat.zero_add,Nat.reduceAdd]
 intro M
 refine qQ.of ?_
 refine gw48 (kk 5) hw ?_
 exact gw8
theorem a_l07Unit:AFn Tryz.prog 171 [] (· = [.own 1 (unitMap.map eI) true]) :=
 AFn.of_o encI (enters_of Tryz.func171 rfl rfl) (fun w A vs h => by subst h;exact c_spec_l07Unit w)
theorem unit_out (a:List Int):unitMap = outJ a 0:=rfl
theorem a_l07Inverse (a:List Int) (ha:isMap a = true):AFn Tryz.prog 110 [[.sl 1 ([.sl 3 []] :: (T6.map cutsM).map eMs)],eL a] (· = [.own 1 ((invJ a (T6.map cutsM)).map eI) true]):=by
 obtain ⟨Y,hY⟩:∃ Y,Y = [D.sl 3 []] :: (T6.map cutsM).map eMs:=⟨_,rfl⟩
 have hYl:Y.length = 38:=by rw [hY,List.length_cons,List.length_map,List.length_map,jA]
 have hu:=a_l07Unit
 rw [unit_out a] at hu
 have hul:((outJ a 0).map eI).length = 38:=by rw [List.length_map,outJ_len a 0 (by omega)]
 rw [← hY]
 refine AFn.of_runs (qJ 29) Tryz.func110 rfl rfl rfl gz ?_
 have hres:Tryz.f110.results.toList = [.tmp 4]:=rfl
 have hrts:Tryz.f110.resultTypes.toList = [24]:=rfl
 simp only [qU,qT,eL,eI,eLL,eB,Nat.zero_add,Nat.reduceAdd]
 intro M
 refine qQ.of ?_
 refine gw158 (kk 7) hul ?_
 refine qQ.loop (β:=Nat) (γ:=Unit) (fun i => ⟨[(0,.c (.val (.sl 1 Y))),(1,.c (.val (.sl 1 (a.map eI)))),(5,.c (.own 5 38)),(6,.c (.val (.int ((i + 1:Nat):Int))))],[(5,.row 1 ((outJ a i).map eI) true)]⟩) (fun i => i ≤ 37) (fun i => 37 - i)
  (fun _ => ⟨[(5,.c (.own 5 38))],[(5,.row 1 ((invJ a (T6.map cutsM)).map eI) true)]⟩) (fun _ => True) 0 (Nat.zero_le _) ?_ ?_ ?_
 ·exact gw159
 ·intro i hi
  have hi:i ≤ 37:=hi
  have hw:=qH (n:=i + 1) (by omega)
  by_cases hi37:i < 37
  ·have i1:(((i + 1:Nat):Int) < 38) = True:=eq_true (by omega)
   have i2:((0:Int) ≤ ((i + 1:Nat):Int)) = True:=eq_true (by omega)
   have hiT:i < T6.length:=by rw [jA];exact hi37
   have hb:=outJ_map a i hi
   have hbl:=outJ_len a i hi
   have hst:=outJ_set a i hiT
   obtain ⟨b,hbe⟩:∃ b,b = outJ a i:=⟨_,rfl⟩
   rw [← hbe] at hb hbl hst ⊢
   have hbm:(b.map eI).length = 38:=by rw [List.length_map,hbl]
   have hr:=a_l07Conv (i + 1) (by omega) a b ha hb
   have hYt:Y.take (i + 1 + 1) = [.sl 3 []] :: ((T6.take (i + 1)).map cutsM).map eMs:=by
    rw [hY,List.take_succ_cons,List.map_take,List.map_take]
   rw [← hYt] at hr
   obtain ⟨Z,hZ⟩:∃ Z,Z = (mP (a.getD 0 0 * b.getD 0 0) :: (T6.take (i + 1)).map fun t => rowV a b (cutsM t)):=⟨_,rfl⟩
   have hZl:Z.length = i + 1 + 1:=by rw [hZ,List.length_cons,List.length_map,List.length_take,jA];omega
   have hZm:(Z.map eI).length = i + 1 + 1:=by rw [List.length_map,hZl]
   have hZg:(Z.map eI)[i + 1]? = some [.int (rowV a b (cutsM T6[i]))]:=by
    rw [List.getElem?_map,hZ,List.getElem?_cons_succ,List.getElem?_map,List.getElem?_take_of_lt (by omega),List.getElem?_eq_getElem hiT];rfl
   rw [← hZ] at hr
   simp only [eL] at hr
   obtain ⟨v,hv⟩:∃ v,v = rowV a b (cutsM T6[i]):=⟨_,rfl⟩
   have hvb:0 ≤ v∧v < 10007:=by rw [hv];exact mP_bd _
   rw [← hv] at hZg hst
   have hsu:=a_l01Sub 0 v (by omega)
   simp only [eI] at hsu
   have i3:(((i + 1:Nat):Int) < ((i + 1 + 1:Nat):Int)) = True:=eq_true (by omega)
   have i4:((0:Int) ≤ ((i + 1 + 1:Nat):Int)) = True:=eq_true (by omega)
   have i5:(((i + 1 + 1:Nat):Int) ≤ 38) = True:=eq_true (by omega)
   have hbg:(b.map eI)[i + 1]? = some [.int (b.getD (i + 1) 0)]:=by rw [qD (by omega),jU (by omega)];rfl
   refine gw160 (kk 7) (Y11 i1 i2 i3 i4 i5 hYl hw hZm hZg hbm hbg) ?_
   refine qZ.on (i + 1) ⟨by omega,by omega⟩ ?_
   rw [← hst,List.map_set]
   exact gw13
  ·have i1:(((i + 1:Nat):Int) < 38) = False:=eq_false (by omega)
   obtain rfl:i = 37:=by omega
   refine gw7 (kk 7) (Yp i1 hYl) ?_
   refine qZ.out () trivial ?_
   have e:outJ a 37 = invJ a (T6.map cutsM):=by
    unfold outJ
    rw [List.take_of_length_le (by rw [jA];omega),Nat.sub_self,List.replicate_zero,List.append_nil]
   rw [e]
   exact gw6 Y0
 ·rintro _ _
  refine gw7 (kk 7) Y0 ?_
  exact gw8
end
section
def invM (a:List Int):List Int:=invI a (T6.map cutsM)
theorem invM_J (a:List Int):invJ a (T6.map cutsM) = invM a:=(inv6 a).symm
theorem invM_map (a:List Int):isMap (invM a) = true:=by
 refine isMap_of ?_ (mem_bd (jU0 a _))
 unfold invM
 rw [invI_len,List.length_map,jA]
def invOf (a:List Int):List Int × Int:=if isMap a = true then (if a.getD 0 0 = 1 then (invM a,0) else ([],5)) else ([],1)
theorem cdM_self (a:List Int):cdM a a = if isMap a = true then (if a.getD 0 0 = 1 then 0 else 5) else 1:=by
 unfold cdM
 simp only [and_self]
theorem a_checkCharacter (a:List Int):AFn Tryz.prog 106 [eL a] (· = [.val (.int (cdM a a))]):=by
 have hm:=a_impl_IsMap a
 simp only [eL] at hm
 rw [cdM_self]
 by_cases h1:isMap a = true
 rotate_left
 ·have h1':isMap a = false:=by simpa using h1
  rw [h1'] at hm
  rw [if_neg h1]
  refine AFn.of_runs (qJ 12) Tryz.func106 rfl rfl rfl gz ?_
  have hres:Tryz.f106.results.toList = [.tmp 2]:=rfl
  have hrts:Tryz.f106.resultTypes.toList = [2]:=rfl
  simp only [qU,qT,eL,eI,eLL,eB,Nat.zero_add,Nat.reduceAdd]
  intro M
  refine qQ.of ?_
  refine gw161 (kk 3) ?_
  exact gw8
 rw [h1] at hm
 rw [if_pos h1]
 obtain ⟨g1,g2⟩:=isMap_get0 h1
 by_cases h3:a.getD 0 0 = 1
 ·have i1:(a.getD 0 0 != 1) = false:=by simpa using h3
  rw [if_pos h3]
  refine AFn.of_runs (qJ 12) Tryz.func106 rfl rfl rfl gz ?_
  have hres:Tryz.f106.results.toList = [.tmp 2]:=rfl
  have hrts:Tryz.f106.resultTypes.toList = [2]:=rfl
  simp only [qU,qT,eL,eI,eLL,eB,Nat.zero_add,Nat.reduceAdd]
  intro M
  refine qQ.of ?_
  refine gw162 (kk 3) (Y3 g1 g2 i1) ?_
  exact gw8
 ·have i1:(a.getD 0 0 != 1) = true:=by simpa using h3
  rw [if_neg h3]
  refine AFn.of_runs (qJ 12) Tryz.func106 rfl rfl rfl gz ?_
  have hres:Tryz.f106.results.toList = [.tmp 2]:=rfl
  have hrts:Tryz.f106.resultTypes.toList = [2]:=rfl
  simp only [qU,qT,eL,eI,eLL,eB,Nat.zero_add,Nat.reduceAdd]
  intro M
  refine qQ.of ?_
  refine gw162 (kk 3) (Y3 g1 g2 i1) ?_
  exact gw8
theorem invOf_bad {a:List Int} (h:¬ (isMap a = true∧a.getD 0 0 = 1)):cdM a a ≠ 0∧invOf a = ([],cdM a a):=by
 rw [cdM_self]
 unfold invOf
 by_cases h1:isMap a = true
 ·have h3:¬ a.getD 0 0 = 1:=fun e => h ⟨h1,e⟩
  rw [if_pos h1,if_pos h1,if_neg h3,if_neg h3]
  exact ⟨by decide,rfl⟩
 ·rw [if_neg h1,if_neg h1]
  exact ⟨by decide,rfl⟩
theorem invOf_ok {a:List Int} (h:isMap a = true∧a.getD 0 0 = 1):cdM a a = 0∧invOf a = (invM a,0):=by
 rw [cdM_self]
 unfold invOf
 rw [if_pos h.1,if_pos h.1,if_pos h.2,if_pos h.2]
 exact ⟨rfl,rfl⟩
theorem a_impl_InverseMap (a:List Int):AFn Tryz.prog 51 [eL a] (· = [.own 1 ((invOf a).1.map eI) true,.val (.int (invOf a).2)]):=by
 have hc:=a_checkCharacter a
 simp only [eL] at hc
 by_cases h:isMap a = true∧a.getD 0 0 = 1
 ·obtain ⟨h1,h2⟩:=invOf_ok h
  rw [h1] at hc
  rw [h2]
  have hr:=a_inverseMap (T6.map eL) a h.1
  simp only [eL] at hr
  have hr:AFn Tryz.prog 107 [[.sl 1 (T6.map eL),.sl 1 ((T6.map cutsM).map eMs)],[.sl 1 (a.map eI)]] (· = [.own 1 ((invM a).map eI) true]):=hr
  refine AFn.of_runs (qJ 13) Tryz.func51 rfl rfl rfl gz ?_
  have hres:Tryz.f51.results.toList = [.tmp 2,.tmp 3]:=rfl
  have hrts:Tryz.f51.resultTypes.toList = [24,2]:=rfl
  simp only [qU,qT,eL,eI,eLL,eB,Nat.zero_add,Nat.reduceAdd]
  intro M
  refine qQ.of ?_
  ((refine gw74 (kk 5) Y0 ?_);with_reducible (apply QS (qJ 13) Tab.none;refine QW ?_;simp only [Zg,Zi,seval];rfl);(refine gw74 (kk 5) Y0 ?_))
  ((refine gw74 (kk 5) Y0 ?_);with_reducible (apply QS (qJ 13) (Tab.none.at' 106 hc);refine QW ?_;simp only [Zg,Zi,seval];rfl);(refine gw74 (kk 5) Y0 ?_))
  ((refine gw74 (kk 5) Y0 ?_);with_reducible (apply QS (qJ 13) Tab.none;refine QW ?_;simp only [Zg,Zi,seval];rfl);(refine gw74 (kk 5) Y0 ?_))
  ((refine gw74 (kk 5) Y0 ?_);(with_reducible refine qQ.regCut (qJ 13) Tab.none 0 (s1:=?_) ?_ ?_);rotate_left 1;(focus ((with_reducible refine QW ?_);simp only [Zg,Zi,seval];with_reducible rfl));simp only [List.toList_toArray,List.drop_succ_cons,List.drop_zero])
  refine qY.callS (qJ 13) rfl (d:=10) rfl (by decide) rfl rfl rfl rfl s_newForms ?_
  (refine qY.opsT (qJ 13) (T:=Tab.none.at' 107 hr) (s':=?_) ?_ ?_;rotate_left 1;focus (simp only [Zg,Zi,seval,frmD,List.map_cons,List.map_nil];with_reducible rfl))
  refine gw7 (kk 5) Y0 ?_
  exact gw8
 ·obtain ⟨h1,h2⟩:=invOf_bad h
  obtain ⟨z,hz⟩:∃ z,z = cdM a a:=⟨_,rfl⟩
  rw [h2]
  rw [← hz] at hc h1 ⊢
  have i1:(z != 0) = true:=by simpa using h1
  refine AFn.of_runs (qJ 13) Tryz.func51 rfl rfl rfl gz ?_
  have hres:Tryz.f51.results.toList = [.tmp 2,.tmp 3]:=rfl
  have hrts:Tryz.f51.resultTypes.toList = [24,2]:=rfl
  simp only [qU,qT,eL,eI,eLL,eB,Nat.zero_add,Nat.reduceAdd]
  intro M
  refine qQ.of ?_
  refine gw163 (kk 5) i1 ?_
  exact gw8
theorem a_spec_InverseMap (a:List Int):AFn Tryz.prog 52 [eL a] (· = [.own 1 ((invOf a).1.map eI) true,.val (.int (invOf a).2)]):=by
 have hc:=a_l07Code a a
 simp only [eL] at hc
 by_cases h:isMap a = true∧a.getD 0 0 = 1
 ·obtain ⟨h1,h2⟩:=invOf_ok h
  rw [h1] at hc
  rw [h2]
  have hr:=a_l07Inverse a h.1
  rw [invM_J] at hr
  simp only [eL] at hr
  have hcu:=AFn.val1 a_l07Cuts
  refine AFn.of_runs (qJ 14) Tryz.func52 rfl rfl rfl gz ?_
  have hres:Tryz.f52.results.toList = [.tmp 2,.tmp 3]:=rfl
  have hrts:Tryz.f52.resultTypes.toList = [24,2]:=rfl
  simp only [qU,qT,eL,eI,eLL,eB,Nat.zero_add,Nat.reduceAdd]
  intro M
  refine qQ.of ?_
  refine gw164 (kk 5) ?_
  exact gw8
 ·obtain ⟨h1,h2⟩:=invOf_bad h
  obtain ⟨z,hz⟩:∃ z,z = cdM a a:=⟨_,rfl⟩
  rw [h2]
  rw [← hz] at hc h1 ⊢
  have i1:(z != 0) = true:=by simpa using h1
  refine AFn.of_runs (qJ 14) Tryz.func52 rfl rfl rfl gz ?_
  have hres:Tryz.f52.results.toList = [.tmp 2,.tmp 3]:=rfl
  have hrts:Tryz.f52.resultTypes.toList = [24,2]:=rfl
  simp only [qU,qT,eL,eI,eLL,eB,Nat.zero_add,Nat.reduceAdd]
  intro M
  refine qQ.of ?_
  refine gw165 (kk 5) i1 ?_
  exact gw8
end
section
def modP (p:Pol):Pol:=p.map fun x => (mP x.1,x.2)
def nrmP (p:Pol):Pol:=modP (addPo p [])
theorem modP_v (a:List Int):∀ p:Pol,Eqm (polV a (modP p)) (polV a p)
 | [] => Eqm.refl _
 | x :: p => ((eqm_mP x.1).mulR _).add (modP_v a p)
theorem nrmP_v (a:List Int) (p:Pol):Eqm (polV a (nrmP p)) (polV a p):=(modP_v a _).trans (Eqm.of (by rw [addPo_v];show polV a p + 0 = _;omega))
def polE (e:Elt):Pol:=e.map fun p => (p.1,crMo (p.2.map plc))
theorem valF_v {vs a:List Int} (h:∀ k,vs.getD k 0 = a.getD (k + 1) 0):∀ (f:List (List Int)) (c:Int),Eqm (valF vs f c) (c * prodV a (f.map plc))
 | [],c => Eqm.of (by show c = c * 1;omega)
 | t :: f,c => by
  have h1:=valF_v h f (mP (c * vs.getD (posT t) 0))
  have e:(plc t).toNat = posT t + 1:=by unfold plc;omega
  have h2:prodV a ((t :: f).map plc) = vs.getD (posT t) 0 * prodV a (f.map plc):=by
   show a.getD (plc t).toNat 0 * prodV a (f.map plc) = _
   rw [e,h]
  rw [h2,← Int.mul_assoc]
  exact h1.trans ((eqm_mP _).mulR _)
theorem valE_v {vs a:List Int} (h:∀ k,vs.getD k 0 = a.getD (k + 1) 0):∀ e:Elt,Eqm (valE vs e) (polV a (polE e))
 | [] => Eqm.refl _
 | p :: e => by
  show Eqm (valF vs p.2 p.1 + valE vs e) (p.1 * monV a (crMo (p.2.map plc)) + polV a (polE e))
  rw [crMo_v]
  exact (valF_v h p.2 p.1).add (valE_v h e)
def antS (t:List Int):Elt:=sumS cmpF (antM [(1,[t])])
theorem ia6:T6.map (fun t => nrmP (polE (antS t))) = (polI (T6.map cutsM)).tail.map nrmP:=by decide +kernel
theorem ia_at {i:Nat} (hi:i < T6.length):nrmP (polE (antS T6[i])) = nrmP ((polI (T6.map cutsM)).getD (i + 1) []):=by
 have h:=congrArg (fun L => L.getD i []) ia6
 simp only [List.getD_eq_getElem?_getD,List.getElem?_map] at h
 rw [List.getElem?_eq_getElem hi] at h
 rw [List.getElem?_tail] at h
 cases hp:(polI (T6.map cutsM))[i + 1]? with
 | none =>
  have h1:=(relI [] (T6.map cutsM)).1
  rw [invI_len,List.length_map] at h1
  have h2:=List.getElem?_eq_none_iff.1 hp
  omega
 | some q =>
  rw [hp] at h
  rw [List.getD_eq_getElem?_getD,hp]
  exact h
theorem ia_ten {t:List Int} (h:qW t) (hc:canon t = t) (h8:t.length ≤ 8):elB [(1,[t])] = true∧antOf [(1,[t])] = (antS t,0)∧elB (antS t) = true∧∀ p ∈ antS t,qX p.2 = t.length:=by
 have hs1:qX [t] = t.length:=by simp [qX]
 have hk:1 ≤ (1:Int)∧(1:Int) < 10007:=by decide
 have h:=@ten_left (1,([t],[])) hk (okF_one h hc) (Nat.le_trans (Nat.le_of_eq hs1) h8)
 unfold antS
 exact ⟨elB_one hk (okF_one ‹_› hc) (Nat.le_trans (Nat.le_of_eq hs1) h8),h.1,h.2.1,fun p hp => (h.2.2.2 p hp).trans hs1⟩
theorem ia_in {a:List Int} (ha:isMap a = true):(decide (a.tail.length ≤ 200) && a.tail.all isNum) = true:=by
 obtain ⟨hal,_⟩:=kR ha
 rw [Bool.and_eq_true]
 refine ⟨decide_eq_true (by rw [List.length_tail];omega),List.all_eq_true.2 fun x hx => ?_⟩
 unfold isMap at ha
 rw [Bool.and_eq_true] at ha
 exact List.all_eq_true.1 ha.2 x (List.mem_of_mem_tail hx)
theorem ia_pos {S:Elt} (h:elB S = true) (h6:∀ p ∈ S,qX p.2 ≤ 6):posOk 37 S = true:=by
 unfold posOk
 refine List.all_eq_true.2 fun p hp => List.all_eq_true.2 fun x hx => decide_eq_true ?_
 have hb:=(vY h).2.2.2 p hp
 have k1:=(kQ hb).2.1 x hx
 have k2:=jN hx
 have k3:=h6 p hp
 obtain ⟨k4,_⟩:=plc_at k1 (by omega)
 rw [jA] at k4
 exact k4
theorem ia_sum {a:List Int} {i:Nat} (hi:i < T6.length) {S:Elt} (hS:nrmP (polE S) = nrmP ((polI (T6.map cutsM)).getD (i + 1) [])):mP (valE a.tail S) = (invM a).getD (i + 1) 0:=by
 have e3:∀ k,a.tail.getD k 0 = a.getD (k + 1) 0:=fun k => by
  rw [List.getD_eq_getElem?_getD,List.getD_eq_getElem?_getD,List.getElem?_tail]
 have r:=(relI a (T6.map cutsM)).2 (i + 1)
 have s:=jU0 a (T6.map cutsM)
 have hl:=invI_len a (T6.map cutsM)
 rw [List.length_map] at hl
 obtain ⟨L,hL⟩:∃ L,L = invI a (T6.map cutsM):=⟨_,rfl⟩
 have e:invM a = L:=hL.symm
 rw [← hL] at r s hl
 rw [e]
 have s1:mP (L.getD (i + 1) 0) = L.getD (i + 1) 0:=by
  rw [jU (by omega)]
  exact s _ (List.getElem_mem _)
 rw [← s1,r]
 refine Eqm.mP ((valE_v e3 _).trans ((nrmP_v a _).symm.trans ?_))
 rw [hS]
 exact nrmP_v a _
theorem ia_val {a:List Int} (ha:isMap a = true) {i:Nat} (hi:i < T6.length) {t:List Int} (ht:t = T6[i]):elB [(1,[t])] = true∧antOf [(1,[t])] = (antS t,0)∧elB (antS t) = true∧valOf (antS t) a.tail = ((invM a).getD (i + 1) 0,0):=by
 have htm:t ∈ T6:=by rw [ht];exact List.getElem_mem _
 have hia:=ia_at hi
 rw [← ht] at hia
 obtain ⟨hct,hcl⟩:=T6_ok t htm
 obtain ⟨hlev,hcan⟩:=vH hct
 obtain ⟨h1,h2,h3,h4⟩:=ia_ten hlev hcan (by omega)
 obtain ⟨S,hS⟩:∃ S,S = antS t:=⟨_,rfl⟩
 rw [← hS] at h2 h3 h4 hia ⊢
 refine ⟨h1,h2,h3,?_⟩
 have h5:=ia_pos h3 fun p hp => by rw [h4 p hp];exact hcl
 have h6:a.tail.length = 37:=by rw [List.length_tail,(kR ha).1]
 have h7:=ia_in ha
 unfold valOf
 rw [if_pos h3,if_pos h7,h6,if_pos h5,ia_sum hi hia]
end
section
def nxtH (h:Int):Int:=IntKind.u64.wrap (IntKind.u64.wrap (h * 6364136223846793005) + 1442695040888963407)
def nxtB (h:Int):Int:=wrap64 (bits BinOp.and IntKind.u64 (nxtH h / 8589934592) 16777215)
def nxtX (code:List Int) (i:Nat) (h:Int):Int:=if hi:i < code.length then wrap64 (nxtB h + code[i]) else nxtB h
def nxtF (code:List Int) (s:Nat × Int) (n:Int):Int × Nat × Int:=if n < 1 then (0,s) else ((nxtX code s.1 s.2).tmod n,if s.1 < code.length then s.1 + 1 else s.1,nxtH s.2)
theorem nxtB_bd (h:Int):0 ≤ nxtB h∧nxtB h ≤ 16777215:=by
 have h0:0 ≤ nxtH h∧nxtH h < 18446744073709551616:=by unfold nxtH IntKind.wrap;simp [IntKind.signed,IntKind.bits];omega
 have e:=bits_and_u64_nat (nxtH h / 8589934592).toNat 16777215 (by omega) (by omega)
 have e1:(((nxtH h / 8589934592).toNat:Nat):Int) = nxtH h / 8589934592:=by omega
 rw [e1] at e
 have hle:(nxtH h / 8589934592).toNat &&& 16777215 ≤ 16777215:=Nat.and_le_right
 unfold nxtB
 have e2:((16777215:Nat):Int) = 16777215:=rfl
 rw [e2] at e
 rw [e]
 unfold wrap64
 omega
theorem nxtX_bd {code:List Int} (hc:∀ c ∈ code,0 ≤ c∧c < 256) (i:Nat) (h:Int):0 ≤ nxtX code i h∧nxtX code i h ≤ 16777470:=by
 have h1:=nxtB_bd h
 unfold nxtX
 split
 ·rename_i hi
  have h2:=hc code[i] (List.getElem_mem _)
  unfold wrap64
  omega
 ·omega
theorem xV {code:List Int} (hc:∀ c ∈ code,0 ≤ c∧c < 256) (s:Nat × Int) (n:Int):0 ≤ (nxtF code s n).1∧((nxtF code s n).1 < n ∨ (n < 1∧(nxtF code s n).1 = 0)):=by
 unfold nxtF
 split
 ·rename_i h;exact ⟨Int.le_refl _,.inr ⟨h,rfl⟩⟩
 ·rename_i h
  have h1:=nxtX_bd hc s.1 s.2
  show 0 ≤ (nxtX code s.1 s.2).tmod n∧((nxtX code s.1 s.2).tmod n < n ∨ _)
  rw [Int.tmod_eq_emod_of_nonneg h1.1]
  exact ⟨Int.emod_nonneg _ (by omega),.inl (Int.emod_lt_of_pos _ (by omega))⟩
def Byt (w:World) (b:Nat) (oa:Option Addr) (code:List Int):Prop:=(∀ c ∈ code,0 ≤ c∧c < 256)∧(code = [] ∨ ∃ b2 off,oa = some ⟨b2,off,none⟩∧b2 ≠ b∧∀ i (h:i < code.length),w.cell? ⟨b2,off + i,none⟩ = some (.int .u8 code[i]))
theorem kS {w:World} {b k cap0:Nat} {ds:List Value} (hr:Row w (slv (some b) 1 cap0) k 1 ds (some b)) (j:Nat) (u:Value):Row (w.setCell ⟨b,j,none⟩ u) (slv (some b) 1 cap0) k 1 (ds.set j u) (some b):=(hr.store j u).1
theorem bel_set {w0:World} {w:World} {b:Nat} (h:Bel ⟨w0,fun c => c = b⟩ w) (j:Nat) (u:Value):Bel ⟨w0,fun c => c = b⟩ (w.setCell ⟨b,j,none⟩ u) :=
 ⟨h.os,h.tape,h.output,by simpa using h.size,fun k hk hn hy => (heap_setCell_other w ⟨b,j,none⟩ k u (fun e => hn e)).trans (h.block k hk hn hy)⟩
theorem row_drew {w:World} {b k cap0:Nat} {ds:List Value} (hr:Row w (slv (some b) 1 cap0) k 1 ds (some b)) (n:Nat):Row (w.drewN n) (slv (some b) 1 cap0) k 1 ds (some b):=hr
theorem bel_drew {w0:World} {w:World} {b:Nat} (h:Bel ⟨w0,fun c => c = b⟩ w) (n:Nat):Bel ⟨w0,fun c => c = b⟩ (w.drewN n):=⟨h.os,h.tape,h.output,h.size,h.block⟩
theorem wO (w:World) (b:Nat):Bel ⟨w,fun c => c = b⟩ w:=⟨rfl,rfl,rfl,Nat.le_refl _,fun _ _ _ _ => rfl⟩
def RetN (w:World) (b:Nat) (oa:Option Addr) (cap cap0:Nat) (code:List Int) (r:Int × Nat × Int) (e:Ending) (w':World):Prop :=
 e = .returned (.int .i64 r.1)∧Row w' (slv (some b) 1 cap0) 3 1 [.slice oa code.length cap,.int .i64 r.2.1,.int .u64 r.2.2] (some b)∧Bel ⟨w,fun c => c = b⟩ w'
theorem c_l01Next (w:World) (b:Nat) (oa:Option Addr) (code:List Int) (cap cap0:Nat) (s:Nat × Int) (n:Int) (hr:Row w (slv (some b) 1 cap0) 3 1 [.slice oa code.length cap,.int .i64 s.1,.int .u64 s.2] (some b)) (hB:Byt w b oa code) (hn:qC n) (hat:s.1 ≤ code.length) (hl:code.length ≤ 1000000000) :
  Calls Tryz.prog 82 #[.pointer (some ⟨b,0,none⟩),.int .i64 n] w (RetN w b oa cap cap0 code (nxtF code s n)):=by
 obtain ⟨i,h⟩:=s
 have c0:=hr.cells 0 _ rfl
 have c1:=hr.cells 1 _ rfl
 have c2:=hr.cells 2 _ rfl
 have f0:=hr.frozen 0
 have f1:=hr.frozen 1
 have f2:=hr.frozen 2
 have hlt:=hr.lt b rfl
 simp only at c0 c1 c2 hat
 have HR:=Lib.hid hr
 by_cases hn1:n < 1
 ·have hF:nxtF code (i,h) n = (0,i,h):=if_pos hn1
  rw [hF]
  clear hr hB hF
  go_enter Tryz.func82,Tryz.ntmps82
  go_wp2
  go_ret
  exact ⟨rfl,HR.out,wO w b⟩
 ·have hF:nxtF code (i,h) n = ((nxtX code i h).tmod n,if i < code.length then i + 1 else i,nxtH h):=if_neg hn1
  rw [hF]
  by_cases ha:i < code.length
  ·obtain ⟨b2,off,e,hne,hg⟩:=hB.2.resolve_left (fun e => by rw [e] at ha;cases ha)
   have hgi:=hg i ha
   clear hg
   have hc:=hB.1 code[i] (List.getElem_mem _)
   have hX:nxtX code i h = wrap64 (nxtB h + code[i]):=dif_pos ha
   rw [hX,if_pos ha]
   obtain ⟨c,hce⟩:∃ c,c = code[i]:=⟨_,rfl⟩
   rw [← hce] at hgi hc ⊢
   have hwc:wrap64 c = c:=by unfold wrap64;omega
   subst e
   clear hr hB hce hF hX
   go_enter Tryz.func82,Tryz.ntmps82
   go_wp2
   go_quiet (fail)
   go_wp2
   go_quiet (fail)
   go_wp2
   go_ret
   exact ⟨rfl,kS (row_drew (kS HR.out 2 _) _) 1 _,bel_set (bel_drew (bel_set (wO w b) 2 _) _) 1 _⟩
  ·have hX:nxtX code i h = nxtB h:=dif_neg ha
   rw [hX,if_neg ha]
   clear hr hB hF hX
   go_enter Tryz.func82,Tryz.ntmps82
   go_wp2
   go_quiet (fail)
   go_wp2
   go_ret
   exact ⟨rfl,row_drew (kS HR.out 2 _) _,bel_drew (bel_set (wO w b) 2 _) _⟩
theorem c_below (w:World) (b:Nat) (oa:Option Addr) (code:List Int) (cap cap0:Nat) (s:Nat × Int) (n:Int) (hr:Row w (slv (some b) 1 cap0) 3 1 [.slice oa code.length cap,.int .i64 s.1,.int .u64 s.2] (some b)) (hB:Byt w b oa code) (hn:qC n) (hat:s.1 ≤ code.length) (hl:code.length ≤ 1000000000) :
  Calls Tryz.prog 53 #[.pointer (some ⟨b,0,none⟩),.int .i64 n] w (RetN w b oa cap cap0 code (nxtF code s n)):=by
 obtain ⟨i,h⟩:=s
 have c0:=hr.cells 0 _ rfl
 have c1:=hr.cells 1 _ rfl
 have c2:=hr.cells 2 _ rfl
 have f0:=hr.frozen 0
 have f1:=hr.frozen 1
 have f2:=hr.frozen 2
 have hlt:=hr.lt b rfl
 simp only at c0 c1 c2 hat
 have HR:=Lib.hid hr
 by_cases hn1:n < 1
 ·have hF:nxtF code (i,h) n = (0,i,h):=if_pos hn1
  rw [hF]
  clear hr hB hF
  go_enter Tryz.func53,Tryz.ntmps53
  go_wp2
  go_ret
  exact ⟨rfl,HR.out,wO w b⟩
 ·have hF:nxtF code (i,h) n = ((nxtX code i h).tmod n,if i < code.length then i + 1 else i,nxtH h):=if_neg hn1
  rw [hF]
  by_cases ha:i < code.length
  ·obtain ⟨b2,off,e,hne,hg⟩:=hB.2.resolve_left (fun e => by rw [e] at ha;cases ha)
   have hgi:=hg i ha
   clear hg
   have hc:=hB.1 code[i] (List.getElem_mem _)
   have hX:nxtX code i h = wrap64 (nxtB h + code[i]):=dif_pos ha
   rw [hX,if_pos ha]
   obtain ⟨c,hce⟩:∃ c,c = code[i]:=⟨_,rfl⟩
   rw [← hce] at hgi hc ⊢
   have hwc:wrap64 c = c:=by unfold wrap64;omega
   subst e
   clear hr hB hce hF hX
   go_enter Tryz.func53,Tryz.ntmps53
   go_wp2
   go_quiet (fail)
   go_wp2
   go_quiet (fail)
   go_wp2
   go_ret
   exact ⟨rfl,kS (row_drew (kS HR.out 2 _) _) 1 _,bel_set (bel_drew (bel_set (wO w b) 2 _) _) 1 _⟩
  ·have hX:nxtX code i h = nxtB h:=dif_neg ha
   rw [hX,if_neg ha]
   clear hr hB hF hX
   go_enter Tryz.func53,Tryz.ntmps53
   go_wp2
   go_quiet (fail)
   go_wp2
   go_ret
   exact ⟨rfl,row_drew (kS HR.out 2 _) _,bel_drew (bel_set (wO w b) 2 _) _⟩
def hshS (m:Int) (h c:Int):Int:=IntKind.u64.wrap (IntKind.u64.wrap (IntKind.u64.wrap (h * 1099511628211) + c) + m)
def hshF (m h0:Int) (code:List Int):Int:=code.foldl (hshS m) h0
theorem hshF_snoc (m h0:Int) (code:List Int) (k:Nat) (h:k < code.length):hshF m h0 (code.take (k + 1)) = hshS m (hshF m h0 (code.take k)) code[k]:=by
 unfold hshF
 rw [List.take_succ_eq_append_getElem h,List.foldl_append];rfl
def RetP (w:World) (oa:Option Addr) (cap:Nat) (code:List Int) (h:Int) (e:Ending) (w':World):Prop :=
 e = .returned (.pointer (some ⟨w.heap.size,0,none⟩))∧Row w' (slv (some w.heap.size) 1 1) 3 1 [.slice oa code.length cap,.int .i64 0,.int .u64 h] (some w.heap.size)∧Below w.heap.size w w'
theorem cell_lt {w:World} {b off:Nat} {v:Value} (h:w.cell? ⟨b,off,none⟩ = some v):b < w.heap.size:=by
 rcases Nat.lt_or_ge b w.heap.size with h1|h1
 ·exact h1
 ·rw [World.cell?] at h
  simp [Array.getElem?_eq_none h1] at h
theorem byt_below {w w':World} {n b off:Nat} {v:Value} (hb:Below n w w') (hlt:b < n) (h:w.cell? ⟨b,off,none⟩ = some v):w'.cell? ⟨b,off,none⟩ = some v:=by
 rw [World.cell?] at h ⊢
 rw [hb.block b hlt]
 exact h
theorem c_l01From (w:World) (oa:Option Addr) (code:List Int) (cap:Nat) (hB:Byt w w.heap.size oa code) (hcap:code.length ≤ cap) (hnil:oa = none→cap = 0) (hl:code.length ≤ 1000000000) :
  Calls Tryz.prog 64 #[.slice oa code.length cap] w (RetP w oa cap code (hshF 11 (5381 + code.length) (code.take 4096))):=by
 unfold RetP
 have HB:=Lib.hid hB
 obtain ⟨h0,hh0⟩:∃ h0,h0 = 5381 + (code.length:Int):=⟨_,rfl⟩
 rw [← hh0]
 have HH:=Lib.hid hh0
 clear hB hh0
 go_enter Tryz.func64,Tryz.ntmps64
 go_wp2
 go_loopw [4] (fun i wr => ∃ k:Nat,k ≤ code.length∧k ≤ 4096∧i = .int .i64 k∧Row wr (slv (some w.heap.size) 1 1) 3 1 [.slice oa code.length cap,.int .i64 0,.int .u64 (hshF 11 h0 (code.take k))] (some w.heap.size)∧Below w.heap.size w wr) (fun i _ => code.length - (intOf i).toNat)
 case atStart =>
  refine ⟨0,Nat.zero_le _,Nat.zero_le _,rfl,?_,?_⟩
  ·rw [List.take_zero]
   show Row _ _ 3 1 [_,_,.int .u64 h0] _
   rw [HH.out]
   exact Row.lit w #[.slice oa code.length cap,.int .i64 0,.int .u64 _] _ 3 1 (by decide) rfl
  ·exact (Below.refl _ _).alloc (Nat.le_refl _) _
 case round =>
  obtain ⟨k,hk,hk2,rfl,hrow,hbel⟩:=hrel
  have c0:=hrow.cells 0 _ rfl
  have c2:=hrow.cells 2 _ rfl
  have f2:=hrow.frozen 2
  have hlt:=hrow.lt _ rfl
  have HR:=Lib.hid hrow
  have HL:=Lib.hid hbel
  clear hrow hbel
  by_cases hlt1:k < code.length
  ·by_cases hlt2:k < 4096
   ·have hB:=HB.out
    obtain ⟨b2,off,e,hne,hg⟩:=hB.2.resolve_left (fun e => by rw [e] at hlt1;cases hlt1)
    have hgi:=byt_below HL.out (cell_lt (hg k hlt1)) (hg k hlt1)
    have hc:=hB.1 code[k] (List.getElem_mem _)
    have hst:=hshF_snoc 11 h0 code k hlt1
    obtain ⟨c,hce⟩:∃ c,c = code[k]:=⟨_,rfl⟩
    rw [← hce] at hgi hc hst
    subst e
    have HS:=Lib.hid hst
    clear hB hg hce hst
    obtain ⟨h,hh⟩:∃ h,h = hshF 11 h0 (code.take k):=⟨_,rfl⟩
    rw [← hh] at HR HS c2
    clear hh
    go_wp2_with fail
    go_region
    go_wp2_with fail
    go_roundw
    case rel =>
     refine ⟨k + 1,by omega,by omega,by go_num,?_,?_⟩
     ·rw [HS.out]
      exact kS HR.out 2 _
     ·have hz:Below w.heap.size w (wr.setCell ⟨w.heap.size,2,none⟩ (.int .u64 (hshS 11 h c))):=HL.out.setCell (Nat.le_refl _) _
      exact ⟨hz.os,hz.tape,hz.output,hz.size,hz.block⟩
    case measure => simp [intOf];omega
   ·obtain rfl:k = 4096:=by omega
    go_wp2_with fail
    go_ret
    exact ⟨rfl,HR.out,HL.out⟩
  ·have e:code.take 4096 = code.take k:=by rw [List.take_of_length_le (by omega),List.take_of_length_le (by omega)]
   have HE:=Lib.hid e
   clear e
   go_wp2_with fail
   go_ret
   rw [HE.out]
   exact ⟨rfl,HR.out,HL.out⟩
theorem c_roll (w:World) (seed:Int) (hs:0 ≤ seed∧seed < 1000000) (oa:Option Addr) (code:List Int) (cap:Nat) (hB:Byt w w.heap.size oa code) (hcap:code.length ≤ cap) (hnil:oa = none→cap = 0) (hl:code.length ≤ 1000000000) :
  Calls Tryz.prog 12 #[.slice oa code.length cap,.int .u64 seed] w (RetP w oa cap code (hshF 5 (seed * 8111 + code.length) code)):=by
 unfold RetP
 have HB:=Lib.hid hB
 obtain ⟨h0,hh0⟩:∃ h0,h0 = seed * 8111 + (code.length:Int):=⟨_,rfl⟩
 rw [← hh0]
 have HH:=Lib.hid hh0
 clear hB hh0
 go_enter Tryz.func12,Tryz.ntmps12
 go_wp2
 go_loopw [6] (fun i wr => ∃ k:Nat,k ≤ code.length∧i = .int .i64 k∧Row wr (slv (some w.heap.size) 1 1) 3 1 [.slice oa code.length cap,.int .i64 0,.int .u64 (hshF 5 h0 (code.take k))] (some w.heap.size)∧Below w.heap.size w wr) (fun i _ => code.length - (intOf i).toNat)
 case atStart =>
  refine ⟨0,Nat.zero_le _,rfl,?_,?_⟩
  ·rw [List.take_zero]
   show Row _ _ 3 1 [_,_,.int .u64 h0] _
   rw [HH.out]
   exact Row.lit w #[.slice oa code.length cap,.int .i64 0,.int .u64 _] _ 3 1 (by decide) rfl
  ·exact (Below.refl _ _).alloc (Nat.le_refl _) _
 case round =>
  obtain ⟨k,hk,rfl,hrow,hbel⟩:=hrel
  have c0:=hrow.cells 0 _ rfl
  have c2:=hrow.cells 2 _ rfl
  have f2:=hrow.frozen 2
  have hlt:=hrow.lt _ rfl
  have HR:=Lib.hid hrow
  have HL:=Lib.hid hbel
  clear hrow hbel
  by_cases hlt1:k < code.length
  ·by_cases hlt2:k < code.length
   ·have hB:=HB.out
    obtain ⟨b2,off,e,hne,hg⟩:=hB.2.resolve_left (fun e => by rw [e] at hlt1;cases hlt1)
    have hgi:=byt_below HL.out (cell_lt (hg k hlt1)) (hg k hlt1)
    have hc:=hB.1 code[k] (List.getElem_mem _)
    have hst:=hshF_snoc 5 h0 code k hlt1
    obtain ⟨c,hce⟩:∃ c,c = code[k]:=⟨_,rfl⟩
    rw [← hce] at hgi hc hst
    subst e
    have HS:=Lib.hid hst
    clear hB hg hce hst
    obtain ⟨h,hh⟩:∃ h,h = hshF 5 h0 (code.take k):=⟨_,rfl⟩
    rw [← hh] at HR HS c2
    clear hh
    go_wp2_with fail
    go_region
    go_wp2_with fail
    go_roundw
    case rel =>
     refine ⟨k + 1,by omega,by go_num,?_,?_⟩
     ·rw [HS.out]
      exact kS HR.out 2 _
     ·have hz:Below w.heap.size w (wr.setCell ⟨w.heap.size,2,none⟩ (.int .u64 (hshS 5 h c))):=HL.out.setCell (Nat.le_refl _) _
      exact ⟨hz.os,hz.tape,hz.output,hz.size,hz.block⟩
    case measure => simp [intOf];omega
   ·exact absurd hlt1 hlt2
  ·have e:code.take k = code:=List.take_of_length_le (by omega)
   have HE:=Lib.hid e
   clear e
   go_wp2_with fail
   go_ret
   have hq:=HR.out
   rw [HE.out] at hq
   exact ⟨rfl,hq,HL.out⟩
end
section
structure AFnP (P:Program) (f:FuncId) (ds:List (List D)) (r:List D):Prop where
 call:∀ args w,(callFunc f args).run P w = .ok (.enter f args) w
 fn:∀ (A:Nat→Prop) w vs,(∀ b,A b→b < w.heap.size)→qO A w ds vs →
  Calls P f vs.toArray w (fun e w' => ∃ b ds',e = .returned (.pointer (some ⟨b,0,none⟩))∧w.heap.size ≤ b∧Below w.heap.size w w'∧Row w' (slv (some b) 1 1) r.length 1 ds' (some b)∧0 < r.length∧rdCs (fun c => (A c ∨ w.heap.size ≤ c)∧c ≠ b) w' ds' r)
section
variable {P:Program} {cfg:Cfg} {M:Nat→Prop} {ops:Array Oper} {s s':St} {w0:W0} {w:World} {Ok:Nat→Prop} {N:Nat} {σ:Asg} {a:Act} {fs:List Fr} {Q:Exit→St→Prop} {T:Tab P} {H:List (Nat × Obj)}
theorem rdR_one {A:Nat→Prop} {w:World} {k:Nat} {ds:List Value} {r:List D} (h:rdR k A w ds [r]):rdCs A w ds r:=by
 obtain ⟨c,e,rfl,_,_,h1,h2⟩:=h.cons_inv
 have he:e = []:=List.eq_nil_of_length_eq_zero (by rw [h2.len];simp)
 rw [he,List.append_nil];exact h1
theorem qY.callR (C:CfgOK P cfg) {o:Oper} {l:List Oper} {Q:St→Prop} (hg:o.guard = Option.none) {d:Nat} (hd:o.dst = some d) (hdN:d < cfg.N) {f:Operand} {args:Array Operand} {ts:Array TypeId} (ho:o.op = .call ⟨.value f,args,ts⟩) {g:FuncId} (hf:((opv s.regs f).bind avD).bind fnId = some g)
  {ds:List (List D)} (hds:aargs cfg (fun k => look k s.heap) s.regs args.toList ts.toList = some ds) (hs:qP s.regs args.toList = []) {r:List D} (hfn:AFnP P g ds r) (hfr:fresh s d = true) (h:∀ b,qY P cfg M ops l Q ⟨insR d (.optr d 0 0) s.regs,insR d (.pin (some b) 1 r.length [r]) s.heap⟩):qY P cfg M ops (o :: l) Q s:=by
 intro w0 Ok σ a w Q' hM hS hQ
 refine wpList_step (fun K hK => ?_)
 have hw:qM ops s.regs o = some true:=by unfold qM;rw [hg]
 rw [yK hS hw]
 simp only [if_true]
 obtain ⟨_,l2⟩:=xH C hS hds
 have hfv:a.eval f = .func (.func g) #[] #[]:=vL hS hf
 have hrun:(execOp a.eval o).run P w = .ok (.enter g (args.map a.eval)) w:=by
  unfold execOp
  rw [ho]
  simp [resolve,Deferred.ofValue,hfv,invoke,hfn.call]
 have hcall:=hfn.fn (Zn σ s.heap w) w (args.toList.map a.eval) (fun _ h => h.1) (l2 hs)
 unfold Oper.wp
 rw [hrun,Oper.upon_enter]
 have e:(args.toList.map a.eval).toArray = args.map a.eval:=by rw [← Array.toList_map,Array.toArray_toList]
 rw [← e]
 refine hcall.mono ?_
 rintro e w' ⟨b,ds',rfl,hb,hB,hrow,hk,hrd⟩
 have hfree:=xE hfr
 obtain ⟨σ',k0,k1,k2,hZ,hS'⟩:=hS.new hB d (.row r.length [r] false) hfree (some b) 1 [] ds' hrow hk (fun σ' hok hF hg' hgo hZ hst => by
  show rdR r.length (Zn σ' _ w') w' ds' [r]
  refine rdR.single hk rfl (hrd.mono (fun c hc hlt => ?_))
  rcases hc.1 with h1|h1
  ·exact (hZ c h1).1
  ·refine ⟨hlt,by rw [hok];exact hS.ok1 c (.inl (Nat.le_trans hS.below.size h1)),fun q u hq e => ?_⟩
   simp only [look] at hq
   by_cases hqd:d = q
   ·subst hqd
    rw [hg'] at e
    cases e
    exact hc.2 rfl
   ·rw [if_neg hqd] at hq
    rw [hgo q (fun e => hqd e.symm)] at e
    have:=yA hS hq c (qI e)
    omega) (fun c hc => by
   have hc:c ∈ [b] ++ []:=hc
   rw [List.append_nil,List.mem_singleton] at hc
   rw [hc];exact hb) (by simp)
 have hS2:=Sim.setObj hS' (key:=d) (u:=.row r.length [r] false) (ob:=.pin (some b) 1 r.length [r]) (by simp [look]) rfl rfl rfl (fun H' hm _ ds _ hel => by
  have hel:rdR r.length (Zn σ' _ w') w' ds [r]:=hel
  exact ⟨k1,k2,hel.mono (fun c hc _ => hm c hc)⟩)
 have hS3:Sim w0 Ok cfg.N σ' ⟨s.regs,insR d (.pin (some b) 1 r.length [r]) s.heap⟩ a w':=hS2.forget (fun _ _ h => h) (fun q o' ho' => by
  rw [jJ] at ho'
  rw [jJ]
  by_cases e:d = q
  ·rw [if_pos e] at ho' ⊢;exact ho'
  ·rw [if_neg e] at ho' ⊢
   simp only [look]
   rw [if_neg e];exact ho')
 show K (a.put o.dst _) _
 rw [hd]
 refine hK _ _ (h b w0 Ok σ' _ _ Q' hM (Sim.ins hS3 hdN ?_) hQ)
 intro o' ho'
 rw [jJ,if_pos rfl] at ho'
 cases ho'
 exact ⟨Nat.zero_lt_one,b,k1,by simp⟩
end
def eU (c:Int):List D:=[.raw (.int .u8 c)]
def dCode (code:List Int):D:=.sl 1 (code.map eU)
def eCode (code:List Int):List D:=[dCode code]
def srcD (code:List Int) (s:Nat × Int):List D:=[.sl 1 (code.map eU),.int s.1,.raw (.int .u64 s.2)]
def jM (code:List Int):Prop:=∀ c ∈ code,0 ≤ c∧c < 256
theorem rdU {A:Nat→Prop} {w:World}:∀ {code:List Int} {ds:List Value} {d:Nat} {hk:0 < 1},rdL (RK 1 hk (RC d)) A w ds (code.map eU)→ds = code.map fun c => Value.int .u8 c
 | [],_,_,_,h => h
 | c :: code,ds,d,hk,⟨c1,d1,e,h1,h2⟩ => by
  obtain ⟨_,_,h3⟩:=h1
  have h3:=vJ.1 h3
  have hc:c1 = [Value.int .u8 c]:=by
   have:rdV A w (c1.headD undef) (.raw (.int .u8 c)):=by
    obtain ⟨x,rfl⟩:∃ x,c1 = [x]:=by
     have:=(RC d).rd_len h3
     rw [RC_k] at this
     match c1,this with
     | [x],_ => exact ⟨x,rfl⟩
    exact ⟨d,h3⟩
   have hl:=(RC d).rd_len h3
   rw [RC_k] at hl
   match c1,hl,this with
   | [x],_,this => rw [show x = _ from (jL.1 this).1]
  rw [e,hc,rdU h2];rfl
theorem byt_of {A:Nat→Prop} {w:World} {v:Value} {code:List Int} {b:Nat} (hb:¬ A b) (hc:jM code) (h:rdV A w v (.sl 1 (code.map eU))):∃ oa cap,v = .slice oa code.length cap∧code.length ≤ cap∧cap ≤ maxLen∧(oa = none→cap = 0)∧Byt w b oa code:=by
 obtain ⟨oa,cap,ds,rfl,h1,h2,h3,h4,h5⟩:=yR.1 h
 rw [List.length_map] at h1 ⊢
 refine ⟨oa,cap,rfl,h1,h2,h3,hc,?_⟩
 obtain ⟨d,hk,h4⟩:=h4
 have e:=rdU h4
 rcases h5 with h5|⟨b2,off,h5,h6,h7⟩
 ·left
  rw [h5] at e
  cases code with
  | nil => rfl
  | cons => cases e
 ·by_cases hn:code = []
  ·exact .inl hn
  ·refine .inr ⟨b2,off,h5,fun e => hb (e ▸ h6),fun i hi => h7 i _ ?_⟩
   rw [e,List.getElem?_map,List.getElem?_eq_getElem hi];rfl
theorem jP {code:List Int} {s:Nat × Int} {n:Int} (h:s.1 ≤ code.length):(nxtF code s n).2.1 ≤ code.length:=by
 unfold nxtF
 split
 ·exact h
 ·show (if s.1 < code.length then s.1 + 1 else s.1) ≤ _
  split <;> omega
noncomputable def nxtG (code:List Int) (k:Nat) (xs:List (List D)) (post:List (List D)):Option (List Res × List (List D)):=by
 classical
 exact if h:∃ p:(Nat × Int) × Int,p.1.1 ≤ code.length∧k = 3∧xs = [srcD code p.1]∧post = [eI p.2] then some ([.val (.int (nxtF code h.choose.1 h.choose.2).1)],[srcD code (nxtF code h.choose.1 h.choose.2).2]) else none
noncomputable def nxtE (code:List Int):PinE:=⟨true,nxtG code⟩
theorem srcD_inj {code:List Int} {s s':Nat × Int} (h:srcD code s = srcD code s'):s = s':=by
 unfold srcD at h
 simp only [List.cons.injEq,D.int.injEq,D.raw.injEq,Value.int.injEq,true_and,and_true] at h
 exact Prod.ext (by omega) h.2
theorem yM (code:List Int) (s:Nat × Int) (n:Int) (h:s.1 ≤ code.length):nxtG code 3 [srcD code s] [eI n] = some ([.val (.int (nxtF code s n).1)],[srcD code (nxtF code s n).2]):=by
 unfold nxtG
 have hx:∃ p:(Nat × Int) × Int,p.1.1 ≤ code.length∧3 = 3∧[srcD code s] = [srcD code p.1]∧[eI n] = [eI p.2]:=⟨(s,n),h,rfl,rfl,rfl⟩
 rw [dif_pos hx]
 obtain ⟨_,_,h2,h3⟩:=hx.choose_spec
 have e1:=srcD_inj (List.cons.inj h2).1
 have e2:n = hx.choose.2:=by
  exact D.int.inj (List.cons.inj (List.cons.inj h3).1).1
 rw [← e1,← e2]
section
variable {P:Program} {f:FuncId} {code:List Int} (hc:jM code) (eg:∀ args w,(callFunc f args).run P w = .ok (.enter f args) w)
 (hw:∀ (w:World) (b:Nat) (oa:Option Addr) (cap cap0:Nat) (s:Nat × Int) (n:Int),Row w (slv (some b) 1 cap0) 3 1 [.slice oa code.length cap,.int .i64 s.1,.int .u64 s.2] (some b)→Byt w b oa code→qC n→s.1 ≤ code.length→code.length ≤ 1000000000 →
  Calls P f #[.pointer (some ⟨b,0,none⟩),.int .i64 n] w (RetN w b oa cap cap0 code (nxtF code s n)))
include hc eg hw
theorem nxt_ok (hl:code.length ≤ 1000000000) (k:Nat) (xs:List (List D)) (post:List (List D)) (x:List Res × List (List D)) (hx:(nxtE code).fn k xs post = some x):AEp P f (nxtE code).ptr k xs post (fun rs xs' => rs = x.1∧xs' = x.2):=by
 have hx:nxtG code k xs post = some x:=hx
 have key:∃ (s:Nat × Int) (n:Int),s.1 ≤ code.length∧k = 3∧xs = [srcD code s]∧post = [eI n]:=by
  unfold nxtG at hx
  split at hx
  ·rename_i h;obtain ⟨p,h1,h2,h3,h4⟩:=h;exact ⟨p.1,p.2,h1,h2,h3,h4⟩
  ·cases hx
 obtain ⟨s,n,h1,rfl,rfl,rfl⟩:=key
 rw [yM code s n h1] at hx
 cases hx
 refine ⟨eg,fun A w us og cap0 ds hA hu hrow hk hrd hb => ?_⟩
 obtain ⟨b,hog⟩:=hrow.some_of (j:=0) Nat.zero_lt_one
 subst hog
 obtain ⟨cap1,hcv,_,_⟩:=hrow.slice
 have hb:=hb b rfl
 obtain ⟨u,us',rfl,hu1,hu2⟩:=hu
 have hu2:us' = []:=hu2
 subst hu2
 obtain ⟨rfl,hn⟩:=jZ.1 hu1
 have hrd:=rdR_one hrd
 obtain ⟨v0,ds1,rfl,hv0,hrd⟩:=hrd.cons_inv
 obtain ⟨v1,ds2,rfl,hv1,hrd⟩:=hrd.cons_inv
 obtain ⟨v2,ds3,rfl,hv2,hrd⟩:=hrd.cons_inv
 have hd3:ds3 = []:=List.eq_nil_of_length_eq_zero hrd.len
 subst hd3
 obtain ⟨rfl,hi⟩:=jZ.1 hv1
 obtain ⟨rfl,_⟩:=jL.1 hv2
 obtain ⟨oa,cap,rfl,hcap,hcm,hnil,hB⟩:=byt_of hb hc hv0
 refine (hw w b oa cap cap0 s n hrow hB hn h1 hl).mono ?_
 rintro e w' ⟨rfl,hrow',hbel⟩
 have hbd:=xV hc s n
 have hin:qC (nxtF code s n).1:=by unfold qC at hn ⊢;omega
 have hat:=jP (n:=n) h1
 refine ⟨_,_,_,[.slice oa code.length cap,.int .i64 (nxtF code s n).2.1,.int .u64 (nxtF code s n).2.2],[.int .i64 (nxtF code s n).1],[],[],rfl,⟨rfl,rfl⟩,⟨hbel.os,hbel.tape,hbel.output,hbel.size,fun c hc hne hy => hbel.block c hc (fun e => hne (by show some b = some c;rw [show c = b from e])) hy⟩,rfl,List.nodup_nil,(by simp),?_,rfl,hrow',?_⟩
 ·exact ⟨_,[],[],[],[],[],rfl,rfl,rfl,rfl,⟨jZ.2 ⟨rfl,hin⟩,rfl,rfl⟩,rfl,rfl,rfl⟩
 ·refine rdR.single (by decide) rfl (.cons ((hv0.frame (fun c hA' hlt => hbel.block c hlt (fun e => hb (e ▸ hA')) (fun h => h))).mono (fun c hA' _ => ⟨.inl hA',by simp,fun e => hb (by cases e;exact hA')⟩)) (.cons (jZ.2 ⟨rfl,?_⟩) (.cons (jL.2 ⟨rfl,rfl⟩) .nil)))
  unfold qC;omega
end
section
variable {P:Program} {f:FuncId} {code:List Int} (hc:jM code)
include hc
theorem frm_ok (eg:∀ args w,(callFunc f args).run P w = .ok (.enter f args) w) {xs:List (List D)} {us0:List Value} (hxs:∀ A w us,qO A w xs us→us = us0) {h:Int}
  (hw:∀ (w:World) (oa:Option Addr) (cap:Nat),Byt w w.heap.size oa code→code.length ≤ cap→(oa = none→cap = 0)→Calls P f (.slice oa code.length cap :: us0).toArray w (RetP w oa cap code h)) :
  AFnP P f (eCode code :: xs) (srcD code (0,h)):=by
 refine ⟨eg,fun A w vs hA hv => ?_⟩
 obtain ⟨v,us,rfl,hv1,hv2⟩:=hv
 obtain rfl:=hxs _ _ _ hv2
 have hv1:rdV A w v (.sl 1 (code.map eU)):=hv1
 obtain ⟨oa,cap,rfl,hcap,hcm,hnil,hB⟩:=byt_of (b:=w.heap.size) (fun h => Nat.lt_irrefl _ (hA _ h)) hc hv1
 refine (hw w oa cap hB hcap hnil).mono ?_
 rintro e w' ⟨rfl,hrow,hbel⟩
 refine ⟨_,_,rfl,Nat.le_refl _,hbel,hrow,(by show 0 < 3;omega),?_⟩
 refine .cons ((hv1.frame (fun c hA' hlt => hbel.block c hlt)).mono (fun c hA' _ => ⟨.inl hA',by have:=hA c hA';omega⟩)) (.cons (jZ.2 ⟨rfl,by unfold qC;omega⟩) (.cons (jL.2 ⟨rfl,rfl⟩) .nil))
end
theorem qA0 {code:List Int} (hc:jM code) (hl:code.length ≤ 1000000000) (k:Nat) (xs:List (List D)) (post:List (List D)) (x:List Res × List (List D)) (hx:(nxtE code).fn k xs post = some x):AEp Tryz.prog 82 (nxtE code).ptr k xs post (fun rs xs' => rs = x.1∧xs' = x.2) :=
 nxt_ok hc (enters_of Tryz.func82 rfl rfl) (fun w b oa cap cap0 s n h1 h2 h3 h4 h5 => c_l01Next w b oa code cap cap0 s n h1 h2 h3 h4 h5) hl k xs post x hx
theorem nxt_below {code:List Int} (hc:jM code) (hl:code.length ≤ 1000000000) (k:Nat) (xs:List (List D)) (post:List (List D)) (x:List Res × List (List D)) (hx:(nxtE code).fn k xs post = some x):AEp Tryz.prog 53 (nxtE code).ptr k xs post (fun rs xs' => rs = x.1∧xs' = x.2) :=
 nxt_ok hc (enters_of Tryz.func53 rfl rfl) (fun w b oa cap cap0 s n h1 h2 h3 h4 h5 => c_below w b oa code cap cap0 s n h1 h2 h3 h4 h5) hl k xs post x hx
def src0 (code:List Int):Nat × Int:=(0,hshF 11 (5381 + code.length) (code.take 4096))
def dice0 (seed:Int) (code:List Int):Nat × Int:=(0,hshF 5 (seed * 8111 + code.length) code)
theorem p_l01From {code:List Int} (hc:jM code) (hl:code.length ≤ 1000000000):AFnP Tryz.prog 64 [eCode code] (srcD code (src0 code)) :=
 frm_ok (xs:=[]) hc (enters_of Tryz.func64 rfl rfl) (us0:=[]) (fun _ _ _ h => h) (fun w oa cap h1 h2 h3 => c_l01From w oa code cap h1 h2 h3 hl)
theorem p_roll {code:List Int} (hc:jM code) (hl:code.length ≤ 1000000000) (seed:Int) (hs:0 ≤ seed∧seed < 1000000):AFnP Tryz.prog 12 [eCode code,[.raw (.int .u64 seed)]] (srcD code (dice0 seed code)) :=
 frm_ok (xs:=[[.raw (.int .u64 seed)]]) hc (enters_of Tryz.func12 rfl rfl) (us0:=[.int .u64 seed]) (fun A w us h => by
  obtain ⟨v,us',rfl,h1,h2⟩:=h
  have h2:us' = []:=h2
  rw [h2,(jL.1 h1).1]) (fun w oa cap h1 h2 h3 => c_roll w seed hs oa code cap h1 h2 h3 hl)
end
section
theorem EndsP.mk {P:Program} {cfg:Cfg} {M:Nat→Prop} {fn:Func} {Q0:List Res→List (List D)→Prop} {og:Option Nat} {cap k n:Nat} {e:Exit} {s:St} {rs:List Res} {ks:List Nat} {xs':List (List D)} (he:e = .normal ∨ e = .ret) {rvs:List ResultVar} {ts:List TypeId} (h1:fn.results.toList = rvs) (h2:fn.resultTypes.toList = ts)
  (h:jG cfg s rvs ts = some (rs,ks)) (hk:ks.Nodup) (hz:0 ∉ ks) (hl:look 0 s.heap = some (.pin og cap k xs')) (hq:xs'.length = n∧Q0 rs xs'):outK P cfg M [] (EndsP cfg fn Q0 og cap k n) e s:=⟨he,rs,ks,xs',by rw [h1,h2];exact h,hk,hz,hl,hq.1,hq.2⟩
theorem srcD_len (code:List Int) (s:Nat × Int):(srcD code s).length = 3:=rfl
noncomputable def drwG (code:List Int) (F:(Nat × Int)→List (List D)→Option (List Res × (Nat × Int))) (k:Nat) (xs:List (List D)) (post:List (List D)):Option (List Res × List (List D)):=by
 classical
 exact if h:∃ s:Nat × Int,s.1 ≤ code.length∧k = 3∧xs = [srcD code s] then (F h.choose post).map (fun p => (p.1,[srcD code p.2])) else none
noncomputable def drwE (code:List Int) (F:(Nat × Int)→List (List D)→Option (List Res × (Nat × Int))):PinE:=⟨true,drwG code F⟩
theorem drwG_eq {code:List Int} {F:(Nat × Int)→List (List D)→Option (List Res × (Nat × Int))} {s:Nat × Int} (h:s.1 ≤ code.length) {post:List (List D)}:drwG code F 3 [srcD code s] post = (F s post).map (fun p => (p.1,[srcD code p.2])):=by
 unfold drwG
 have hx:∃ s':Nat × Int,s'.1 ≤ code.length∧3 = 3∧[srcD code s] = [srcD code s']:=⟨s,h,rfl,rfl⟩
 rw [dif_pos hx]
 obtain ⟨_,_,h2⟩:=hx.choose_spec
 rw [← srcD_inj (List.cons.inj h2).1]
def xR (P:Program) (f:FuncId) (code:List Int) (F:(Nat × Int)→List (List D)→Option (List Res × (Nat × Int))):Prop :=
 ∀ s post rs s',s.1 ≤ code.length→F s post = some (rs,s')→AEp P f true 3 [srcD code s] post (fun r x => r = rs∧x = [srcD code s'])
theorem xR.ok {P:Program} {f:FuncId} {code:List Int} {F:(Nat × Int)→List (List D)→Option (List Res × (Nat × Int))} (H:xR P f code F) (k:Nat) (xs:List (List D)) (post:List (List D)) (x:List Res × List (List D)) (hx:(drwE code F).fn k xs post = some x):AEp P f (drwE code F).ptr k xs post (fun rs xs' => rs = x.1∧xs' = x.2):=by
 have hx:drwG code F k xs post = some x:=hx
 unfold drwG at hx
 split at hx
 ·rename_i h
  obtain ⟨h1,h2,h3⟩:=h.choose_spec
  obtain ⟨p,hp,e⟩:=Option.map_eq_some_iff.1 hx
  subst h2
  rw [h3,← e]
  exact H _ _ _ _ h1 hp
 ·cases hx
def drw1 (G:(Nat × Int)→Int→List Res × (Nat × Int)) (s:Nat × Int):List (List D)→Option (List Res × (Nat × Int))
 | [[.int m]] => if -1000 ≤ m∧m ≤ 1000 then some (G s m) else none
 | _ => none
theorem drw1_eq {code:List Int} {G:(Nat × Int)→Int→List Res × (Nat × Int)} {s:Nat × Int} (h:s.1 ≤ code.length) {m:Int} (hm:-1000 ≤ m∧m ≤ 1000):drwG code (drw1 G) 3 [srcD code s] [[.int m]] = some ((G s m).1,[srcD code (G s m).2]):=by
 rw [drwG_eq h]
 show Option.map _ (if -1000 ≤ m∧m ≤ 1000 then some (G s m) else none) = _
 rw [if_pos hm];rfl
theorem drw1_of {P:Program} {f:FuncId} {code:List Int} {G:(Nat × Int)→Int→List Res × (Nat × Int)} (h:∀ s m,s.1 ≤ code.length→-1000 ≤ m→m ≤ 1000→AEp P f true 3 [srcD code s] [[.int m]] (fun r x => r = (G s m).1∧x = [srcD code (G s m).2])):xR P f code (drw1 G):=by
 intro s post rs s' hs hp
 unfold drw1 at hp
 split at hp
 ·rename_i m
  split at hp
  ·rename_i hm
   have e:=Option.some.inj hp
   have e1:rs = (G s m).1:=by rw [e]
   have e2:s' = (G s m).2:=by rw [e]
   subst e1;subst e2
   exact h s m hs hm.1 hm.2
  ·cases hp
 ·cases hp
noncomputable def drwL (G:(Nat × Int)→List Int→List Res × (Nat × Int)) (s:Nat × Int) (post:List (List D)):Option (List Res × (Nat × Int)):=by
 classical
 exact if h:∃ l:List Int,l ≠ []∧l.length ≤ 1000∧post = [[.sl 1 (l.map eI)]] then some (G s h.choose) else none
theorem eI_inj {l l':List Int} (h:l.map eI = l'.map eI):l = l':=by
 induction l generalizing l' with
 | nil => cases l' with
  | nil => rfl
  | cons => cases h
 | cons a l ih => cases l' with
  | nil => cases h
  | cons b l' =>
   simp only [List.map_cons,List.cons.injEq] at h
   have h1:=D.int.inj (List.cons.inj h.1).1
   rw [h1,ih h.2]
theorem drwL_eq {code:List Int} {G:(Nat × Int)→List Int→List Res × (Nat × Int)} {s:Nat × Int} (h:s.1 ≤ code.length) {l:List Int} (h0:l ≠ []) (h1:l.length ≤ 1000):drwG code (drwL G) 3 [srcD code s] [[.sl 1 (l.map eI)]] = some ((G s l).1,[srcD code (G s l).2]):=by
 rw [drwG_eq h]
 unfold drwL
 have hx:∃ l':List Int,l' ≠ []∧l'.length ≤ 1000∧[[D.sl 1 (l.map eI)]] = [[.sl 1 (l'.map eI)]]:=⟨l,h0,h1,rfl⟩
 rw [dif_pos hx]
 obtain ⟨_,_,h2⟩:=hx.choose_spec
 have e:l.map eI = hx.choose.map eI:=by simpa using h2
 rw [← eI_inj e];rfl
theorem drwL_of {P:Program} {f:FuncId} {code:List Int} {G:(Nat × Int)→List Int→List Res × (Nat × Int)} (h:∀ s l,s.1 ≤ code.length→l ≠ []→l.length ≤ 1000→AEp P f true 3 [srcD code s] [[.sl 1 (l.map eI)]] (fun r x => r = (G s l).1∧x = [srcD code (G s l).2])):xR P f code (drwL G):=by
 intro s post rs s' hs hp
 unfold drwL at hp
 split at hp
 ·rename_i hx
  obtain ⟨h0,h1,h2⟩:=hx.choose_spec
  have e:=Option.some.inj hp
  have e1:rs = (G s hx.choose).1:=by rw [e]
  have e2:s' = (G s hx.choose).2:=by rw [e]
  rw [h2,e1,e2]
  exact h s _ hs h0 h1
 ·cases hp
def pickF (code:List Int) (s:Nat × Int) (l:List Int):Int × (Nat × Int):=(l.getD (nxtF code s l.length).1.toNat 0,(nxtF code s l.length).2)
def pickG (code:List Int) (s:Nat × Int) (l:List Int):List Res × (Nat × Int):=([.val (.int (pickF code s l).1)],(pickF code s l).2)
theorem pickF_ok {code:List Int} (hc:jM code) {s:Nat × Int} (hs:s.1 ≤ code.length) {l:List Int} (h0:l ≠ []):(pickF code s l).1 ∈ l∧(pickF code s l).2.1 ≤ code.length:=by
 have hb:=xV hc s l.length
 have hl:0 < l.length:=List.length_pos_iff.2 h0
 refine ⟨?_,jP hs⟩
 unfold pickF
 have hi:(nxtF code s l.length).1.toNat < l.length:=by omega
 rw [List.getD_eq_getElem?_getD,List.getElem?_eq_getElem hi]
 exact List.getElem_mem _
theorem p_l01Pick {code:List Int} (hc:jM code) (hl:code.length ≤ 1000000000):xR Tryz.prog 147 code (drwL (pickG code)):=by
 refine drwL_of fun s l hs h0 h1 => ?_
 have hpin:=qA0 hc hl
 have hlp:0 < l.length:=List.length_pos_iff.2 h0
 have hdr:=yM code s l.length hs
 have hbd:=xV hc s l.length
 unfold pickG pickF
 obtain ⟨⟨i,s1⟩,hp⟩:∃ p,p = nxtF code s l.length:=⟨_,rfl⟩
 rw [← hp] at hdr hbd ⊢
 simp only [eI] at hdr hbd ⊢
 have hlm:(l.map eI).length = l.length:=List.length_map _
 have i1:((0:Int) ≤ i) = True:=eq_true (by omega)
 have i2:(i < (l.length:Int)) = True:=eq_true (by omega)
 have hil:i.toNat < l.length:=by omega
 have hg:(l.map eI)[i.toNat]? = some [.int (l.getD i.toNat 0)]:=by rw [List.getElem?_map,List.getElem?_eq_getElem hil,List.getD_eq_getElem?_getD,List.getElem?_eq_getElem hil];rfl
 refine AEp.of_runs (qJ 12) Tryz.func147 rfl rfl rfl (fun _ => rfl) gz ?_
 have hres:Tryz.f147.results.toList = [.tmp 4]:=rfl
 have hrts:Tryz.f147.resultTypes.toList = [2]:=rfl
 simp only [List.length_cons,List.length_nil,yX,if_true,qU,qT,eL,eI,eLL,eB,Nat.zero_add,Nat.reduceAdd]
 intro M og cap
 refine qQ.of ?_
 refine gw166 (kk 5) (Y5 hdr i1 i2 hlm hg) ?_
 exact gw167 Y0
structure TOk (n:Nat) (t:List Int):Prop where
 pos:t ≠ []
 lev:qW t
 len:t.length ≤ n
 bd:∀ x ∈ t,0 ≤ x∧x < t.length
structure AOk (n:Nat) (t:List Int):Prop where
 len:t.length ≤ n
 bd:∀ x ∈ t,-1 ≤ x∧x ≤ n
end
section
structure FOk (n:Nat) (f:List (List Int)):Prop where
 lev:∀ t ∈ f,qW t
 can:∀ t ∈ f,canon t = t
 sum:qX f ≤ n
end
section
def RU:Rep Int where
 k:=1
 rd:=fun _ _ cs n => cs = [.int .u8 n]∧0 ≤ n∧n ≤ 255
 own:=fun _ cs n F => (cs = [.int .u8 n]∧0 ≤ n∧n ≤ 255)∧F = []
 kpos:=by decide
 rd_len:=by intro A w cs x h;rw [h.1];rfl
 rd_one:=by intro A w cs x h v hv;rw [h.1] at hv;simp at hv;subst hv;rfl
 rd_frame:=fun h _ => h
 rd_mono:=fun h _ => h
 own_rd:=fun h => h.1
 own_frame:=fun h _ => h
 own_lt:=by intro w cs x F h b hb;rw [h.2] at hb;simp at hb
abbrev RBytes:Rep (List Int):=RS RU
theorem opU8:Opens Tryz.prog RU 5:=by
 intro H enc w base spare held fuel cs x h
 obtain ⟨n,rfl,_,hw⟩:=DataW.trod_int Tryz.underlying5 h
 exact ⟨n,rfl,bounds_u8 hw⟩
theorem opBytes:Opens Tryz.prog RBytes 22:=Opens.slice Tryz.underlying22 (by kernel_rfl) opU8
theorem rdU_to {A:Nat→Prop} {w:World}:∀ {code:List Int} {ds:List Value},rdL RU A w ds code→rdL (RK 1 (by decide) (RC 0)) A w ds (code.map eU)∧jM code
 | [],_,h => ⟨h,fun c hc => nomatch hc⟩
 | c :: code,ds,⟨c1,d1,e,⟨h1,h2,h3⟩,h4⟩ => by
  obtain ⟨h5,h6⟩:=rdU_to h4
  refine ⟨⟨c1,d1,e,⟨by rw [h1];rfl,rfl,?_⟩,h5⟩,fun x hx => ?_⟩
  ·rw [h1]
   exact vJ.2 ⟨rfl,rfl⟩
  ·rcases List.mem_cons.1 hx with rfl|hx
   ·omega
   ·exact h6 x hx
theorem arg_bytes {w:World} {u:Value} {code:List Int} (h:Rd RBytes w [u] code):kC (· < w.heap.size) w (eCode code) u∧jM code:=by
 obtain ⟨oa,cap,ds,h1,h2,h3,h4,h5,h6⟩:=h
 obtain ⟨k1,k2⟩:=rdU_to h5
 refine ⟨?_,k2⟩
 show rdV _ w u (.sl 1 (code.map eU))
 rw [yR]
 rw [List.length_map]
 exact ⟨oa,cap,ds,(List.cons.inj h1).1,h2,h3,h4,⟨0,by decide,k1⟩,h6⟩
theorem law_code {f:FuncId} (hf:∀ code:List Int,jM code→AFn Tryz.prog f [eCode code] (· = [.val (.bool true)])) (v:Value) (code:List Int) (w:World) (h:Rd RBytes w [v] code):Calls Tryz.prog f #[v] w (RetV w (.bool true)):=by
 obtain ⟨h1,h2⟩:=arg_bytes h
 exact AFn.one (fun _ _ _ h => jF.1 h) (hf code h2) (args1 h1)
theorem a_big (code:List Int):AFn Tryz.prog 10 [eCode code] (· = [.val (.bool (decide (4096 < code.length)))]):=by
 by_cases h:4096 < code.length
 ·have i1:((code.length:Int) > 4096) = True:=eq_true (by omega)
  rw [decide_eq_true h]
  refine AFn.of_runs (qJ 6) Tryz.func10 rfl rfl rfl gz ?_
  have hres:Tryz.f10.results.toList = [.tmp 2]:=rfl
  have hrts:Tryz.f10.resultTypes.toList = [4]:=rfl
  simp only [qU,qT,eL,eI,eLL,eB,Nat.zero_add,Nat.reduceAdd,eCode,dCode]
  intro M
  refine qQ.of ?_
  refine gw5 (kk 3) i1 ?_
  exact gw8
 ·have i1:((code.length:Int) > 4096) = False:=eq_false (by omega)
  rw [decide_eq_false h]
  refine AFn.of_runs (qJ 6) Tryz.func10 rfl rfl rfl gz ?_
  have hres:Tryz.f10.results.toList = [.tmp 2]:=rfl
  have hrts:Tryz.f10.resultTypes.toList = [4]:=rfl
  simp only [qU,qT,eL,eI,eLL,eB,Nat.zero_add,Nat.reduceAdd,eCode,dCode]
  intro M
  refine qQ.of ?_
  refine gw5 (kk 3) i1 ?_
  exact gw8
end
end Go.Proofs.YtedgfkpfhonlpaaGreat

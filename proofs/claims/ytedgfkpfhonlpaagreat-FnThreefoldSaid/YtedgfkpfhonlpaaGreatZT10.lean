/- Lemmas (10). -/
import Derived.Laws.Shifts
import Derived.Lib.FrozenHead
import Derived.WalkArith
import Derived.Test.YtedgfkpfhonlpaaGreatZT0
import Derived.Test.YtedgfkpfhonlpaaGreatZT1
import Derived.Test.YtedgfkpfhonlpaaGreatZT2
import Derived.Test.YtedgfkpfhonlpaaGreatZT5
import Derived.Test.YtedgfkpfhonlpaaGreatZT6
import Derived.Test.YtedgfkpfhonlpaaGreatZT7
import Derived.Test.YtedgfkpfhonlpaaGreatZT8
import Derived.Test.YtedgfkpfhonlpaaGreatZT9
set_option maxHeartbeats 16000000
set_option maxRecDepth 100000
set_option linter.unusedSimpArgs false
set_option linter.unusedVariables false
namespace Go.Proofs.YtedgfkpfhonlpaaGreat
open Go.RowKit
section
section
variable {α:Type} (f g:α→List (List D)) (n:α→Int)
def e3 (x:α):List D:=[.sl 1 (f x),.sl 1 (g x),.int (n x)]
def e3T (q:α × (List Nat × List Nat)):List D:=[.tag q.2.1 (.sl 1 (f q.1)),.tag q.2.2 (.sl 1 (g q.1)),.int (n q.1)]
def bl3 (q:α × (List Nat × List Nat)):List Nat:=q.2.1 ++ q.2.2
theorem tag_mk3:∀ (zs:List (α × (List Nat × List Nat))),TagL ((zs.map (·.1)).map (e3 f g n)) (zs.map (e3T f g n)) ((zs.map bl3).flatten)
 | [] => ⟨rfl,rfl⟩
 | z :: zs => ⟨_,_,bl3 z,_,rfl,rfl,⟨_,_,z.2.1,z.2.2,rfl,rfl,.inl rfl,⟨_,_,z.2.2,[],rfl,(List.append_nil _).symm,.inl rfl,⟨_,[],[],[],rfl,rfl,.inr ⟨rfl,rfl,rfl⟩,rfl,rfl⟩⟩⟩,tag_mk3 zs⟩
theorem tag_rows3:∀ {L:List α} {xs':List (List D)} {F:List Nat},TagL (L.map (e3 f g n)) xs' F→PlainL (L.map (e3 f g n)) xs'→∃ zs:List (α × (List Nat × List Nat)),L = zs.map (·.1)∧xs' = zs.map (e3T f g n)∧F = (zs.map bl3).flatten
 | [],xs',F,⟨h1,h2⟩,_ => ⟨[],rfl,h1,h2⟩
 | p :: L,xs',F,⟨y,ys,G,H,h1,h2,h3,h4⟩,⟨y',ys',p1,p2,p3⟩ => by
  obtain ⟨e1,e2⟩:y = y'∧ys = ys':=by rw [h1] at p1;simpa using p1
  subst e1;subst e2
  obtain ⟨zs,e1,e2,e3'⟩:=tag_rows3 h4 p3
  obtain ⟨y0,ys0,G0,H0,k1,k2,k3,y1,ys1,G1,H1,k4,k5,k6,y2,ys2,G2,H2,m4,m5,m6,m7,m8⟩:=h3
  obtain ⟨x0,xs0,a1,_,x1,xs1,a2,_,x2,xs2,a3,a4,_⟩:=p2
  obtain ⟨b1,b2⟩:y0 = x0∧ys0 = xs0:=by rw [k1] at a1;simpa using a1
  subst b1;subst b2
  obtain ⟨b1,b2⟩:y1 = x1∧ys1 = xs1:=by rw [k4] at a2;simpa using a2
  subst b1;subst b2
  obtain ⟨b1,b2⟩:y2 = x2∧ys2 = xs2:=by rw [m4] at a3;simpa using a3
  subst b1;subst b2
  have hy2:=a4 rfl
  subst m7;subst m8
  have hG2:G2 = []:=by
   rcases m6 with m6|⟨_,_,m6⟩
   ·rw [m6] at hy2;cases hy2
   ·exact m6
  subst hG2;subst hy2
  rcases k3 with rfl|⟨k3,_⟩
  ·rcases k6 with rfl|⟨k6,_⟩
   ·exact ⟨(p,(G0,G1)) :: zs,by rw [e1];rfl,by rw [h1,k1,k4,m4,e2];rfl,by rw [h2,k2,k5,m5,e3'];simp [bl3]⟩
   ·cases k6
  ·cases k3
end
abbrev Cu:=(List (List Int) × List Int) × Int
def eCu:Cu→List D:=e3 (fun c:Cu => c.1.1.map eL) (fun c => c.1.2.map eI) (·.2)
def cutS (z:Spl × Int):Cu:=((z.1.1,z.1.2.headD []),z.2)
def cutsL (t:List Int):List Cu:=(gathS (split t)).map cutS
section
variable {P:Program} {cfg:Cfg} {M:Nat→Prop} {ops:Array Oper} {s:St} {w0:W0} {w:World} {Ok:Nat→Prop} {N:Nat} {σ:Asg} {a:Act} {fs:List Fr} {Q:Exit→St→Prop}
theorem qV.nilA {l:List Oper} {Q:St→Prop} {r k:Nat} {pre post:List AC} (hk:0 < k) (hr:look r s.regs = some (.agg (pre ++ .nil :: post)))
  (h:qV P cfg M ops l Q ⟨insR r (.agg (pre ++ .val (.tag [] (.sl k [])) :: post)) s.regs,s.heap⟩):qV P cfg M ops l Q s:=by
 intro w0 Ok σ a w Q' hM hS hQ
 refine h w0 Ok σ a w Q' hM ⟨hS.below,hS.ok1,hS.ok2,hS.defers,hS.size,fun q av hq => ?_,hS.rows,hS.disj,hS.inv,hS.hid⟩ hQ
 rw [jV] at hq
 by_cases e:r = q
 ·rw [if_pos e] at hq
  subst e
  cases hq
  obtain ⟨us,hv1,hv2⟩:=hS.regs r _ hr
  refine ⟨us,hv1,relCs_repl hv2 (fun v _ hn => ?_)⟩
  have hn:v = .slice none 0 0:=hn
  subst hn
  exact xO.2 ⟨by simp,kA.2 ⟨none,[],[],Row.nil _ k,ownR.nil hk,rfl⟩⟩
 ·rw [if_neg e] at hq
  exact hS.regs q av hq
theorem qV.openR {l:List Oper} {Q:St→Prop} {r k:Nat} {G:List Nat} {xs:List (List D)} (hr:look r s.regs = some (.c (.val (.tag G (.sl k xs)))))
  (h:∀ xs' F,TagL xs xs' F→PlainL xs xs'→F.Sublist G→qV P cfg M ops l Q ⟨insR r (.c (.val (.sl k xs'))) s.regs,s.heap⟩):qV P cfg M ops l Q s:=by
 intro w0 Ok σ a w Q' hM hS hQ
 obtain ⟨xs',F,h1,h2,h3,h4⟩:=hS.openR hr
 exact h xs' F h1 h2 h3 w0 Ok σ a w Q' hM h4 hQ
end
theorem tag_one {t:List Int} {xs':List (List D)} {F:List Nat} (h:TagL [[.sl 1 (t.map eI)]] xs' F):xs' = [[.tag F (.sl 1 (t.map eI))]]:=by
 obtain ⟨y,ys,G,H,h1,h2,⟨y0,ys0,G0,H0,k1,k2,k3,k4,k5⟩,h3,h4⟩:=h
 subst h3;subst h4;subst k4;subst k5
 rcases k3 with rfl|⟨k3,_⟩
 ·rw [h1,k1,h2,k2];simp
 ·cases k3
theorem split_trunk (t:List Int) (h:qY t):∀ s ∈ split t,s.2.length ≤ 1:=fun s hs => by
 rw [xW h] at hs
 rcases List.mem_append.1 hs with hs|hs
 ·obtain ⟨a,_,rfl⟩:=List.mem_map.1 hs
  exact Nat.le_refl _
 ·obtain rfl:=List.mem_singleton.1 hs
  exact Nat.zero_le _
theorem gath_trunk (t:List Int) (h:qY t):∀ z ∈ gathS (split t),z.1.2.length ≤ 1:=fun z hz => by
 obtain ⟨s,hs,e⟩:=List.mem_map.1 ((jB (split t)).key z hz)
 rw [← e]
 show (sortC cmpT s.2).length ≤ 1
 rw [kV];exact split_trunk t h s hs
theorem a_cutsOf (t:List Int) (h:qY t) (hl:t.length ≤ 8):AFn Tryz.prog 58 [eL t] (· = [.own 3 ((cutsL t).map eCu) true]):=by
 have hsp:=jQ0 8 (Nat.le_refl _) t h hl
 have hlen:(split t).length ≤ 256:=by
  have h1:=vT _ (Nat.le_refl _) h
  have h2:2 ^ t.length ≤ 2 ^ 8:=Nat.pow_le_pow_right (by decide) hl
  omega
 have hga:=a_gathered (split t) (by omega) (fun s hs => ((kE _ (Nat.le_refl _) h s hs).ha (by omega)).sm)
 have hgl:(gathS (split t)).length ≤ 256:=by have:=(jB (split t)).len;rw [List.length_map] at this;omega
 have htr:=gath_trunk t h
 obtain ⟨L,hL⟩:∃ L,L = gathS (split t):=⟨_,rfl⟩
 have hcl:cutsL t = L.map cutS:=by rw [hL];rfl
 rw [hcl]
 rw [← hL] at hga hgl htr
 simp only [eL] at hsp
 refine AFn.of_runs (qX 36) Tryz.func58 rfl rfl rfl gz ?_
 have hres:Tryz.f58.results.toList = [.tmp 2]:=rfl
 have hrts:Tryz.f58.resultTypes.toList = [29]:=rfl
 simp only [qK,qA,eL,eI,eLL,eB,Nat.zero_add,Nat.reduceAdd]
 intro M
 refine qQ.of ?_
 refine gw68 (kk 13) ?_
 refine qQ.tag' 10 (k:=3) (xs:=L.map eSp) rfl ?_
 intro xs' F ht hpl hnd hF
 obtain ⟨zs,e1,e2,e3'⟩:=tag_rows3 _ _ _ ht hpl
 subst e2;subst e3'
 have hzl:zs.length = L.length:=by rw [e1,List.length_map]
 refine qQ.loop (β:=Nat × List (Cu × (List Nat × List Nat))) (γ:=List (Cu × (List Nat × List Nat))) (fun x => ⟨[(3,.c (.own 3 x.2.length)),(10,.c (.own 10 L.length)),(11,.c (.val (.int L.length))),(12,.c (.val (.int x.1)))],[(3,.row 3 (x.2.map (e3T (fun c:Cu => c.1.1.map eL) (fun c => c.1.2.map eI) (·.2))) false),(10,.row 3 (zs.map (e3T (fun z:Spl × Int => z.1.1.map eL) (fun z => z.1.2.map eL) (·.2))) false)]⟩)
  (fun x => x.1 ≤ L.length∧x.2.map (fun q => q.1) = (L.take x.1).map cutS∧((x.2.map bl3).flatten).Sublist ((zs.take x.1).map bl3).flatten) (fun x => L.length - x.1)
  (fun qs => ⟨[(3,.c (.own 3 qs.length))],[(3,.row 3 (qs.map (e3T (fun c:Cu => c.1.1.map eL) (fun c => c.1.2.map eI) (·.2))) false)]⟩) (fun qs => qs.map (fun q => q.1) = L.map cutS∧((qs.map bl3).flatten).Sublist (zs.map bl3).flatten) (0,[]) ⟨Nat.zero_le _,rfl,List.Sublist.refl _⟩ ?_ ?_ ?_
 ·exact gw50
 ·rintro ⟨i,qs⟩ ⟨hi,hq,hsub⟩
  simp only at hi hq hsub ⊢
  have hw:=qI (n:=i) (by omega)
  have hqn:qs.length = i:=by
   have:=congrArg List.length hq
   rw [List.length_map,List.length_map,List.length_take] at this;omega
  have hzm:(zs.map (e3T (fun z:Spl × Int => z.1.1.map eL) (fun z => z.1.2.map eL) (·.2))).length = L.length:=by rw [List.length_map,hzl]
  by_cases hiL:i < L.length
  ·have hiz:i < zs.length:=by omega
   have i1:((i:Int) < (L.length:Int)) = True:=eq_true (by omega)
   have i2:((0:Int) ≤ (i:Int)) = True:=eq_true (by omega)
   obtain ⟨z,hz⟩:∃ z,z = zs[i]:=⟨_,rfl⟩
   have hLi:L[i] = z.1:=by simp only [e1,List.getElem_map,hz]
   have hg:(zs.map (e3T (fun z:Spl × Int => z.1.1.map eL) (fun z => z.1.2.map eL) (·.2)))[i]? = some (e3T (fun z:Spl × Int => z.1.1.map eL) (fun z => z.1.2.map eL) (·.2) z):=by rw [qP hiz,hz]
   have hone:=htr L[i] (List.getElem_mem _)
   have htkz:(zs.take (i + 1)).map bl3 = (zs.take i).map bl3 ++ [bl3 z]:=by rw [List.take_succ_eq_append_getElem hiz,List.map_append,← hz];rfl
   have htkL:(L.take (i + 1)).map cutS = (L.take i).map cutS ++ [cutS z.1]:=by rw [List.take_succ_eq_append_getElem hiL,List.map_append,hLi];rfl
   rw [hLi] at hone
   obtain ⟨⟨⟨f,g⟩,n⟩,⟨F,G⟩⟩:=z
   simp only [e3T] at hg
   simp only at hone
   have q1:=jS (n:=qs.length + 1) (by omega)
   have q2:=jO (n:=qs.length + 1) (c:=56) (by omega) (by omega)
   match g,hone with
   | [],_ =>
    have j1:((([]:List (List Int)).length:Int) > 0) = False:=eq_false (by simp)
    ((refine gw69 (kk 13) i1 ?_);with_reducible (apply QS (qX 36) Tab.none;refine QW ?_;simp only [Zg,Zi,seval,i1];rfl);(refine gw69 (kk 13) i1 ?_))
    ((refine gw70 (kk 13) (Y4 i1 i2 hg hzm) ?_);with_reducible (apply QS (qX 36) Tab.none;refine QW ?_;simp only [Zg,Zi,seval,i1,i2,hg,hzm,Int.toNat_natCast];rfl);(refine gw70 (kk 13) (Y4 i1 i2 hg hzm) ?_))
    refine qQ.regCut (qX 36) Tab.none 5 (s1:=?_) ?_ ?_
    rotate_left 1
    focus (refine Work.mk ?_;simp only [Zg,Zi,seval];with_reducible rfl)
    simp only [List.toList_toArray,List.drop_succ_cons,List.drop_zero]
    refine qV.nilA (r:=20) (k:=1) (pre:=[.val (.tag F (.sl 1 (f.map eL)))]) (post:=[.val (.int n)]) (by decide) rfl ?_
    refine qV.opsT (qX 36) (T:=Tab.none) (s':=?_) ?_ ?_
    rotate_left 1
    focus (simp only [Zg,Zi,seval];with_reducible rfl)
    refine gw71 (kk 13) (Y4 j1 hw q1 q2) ?_
    refine qW.on (i + 1,qs ++ [(((f,[]),n),(F,[]))]) ⟨⟨hiL,?_,?_⟩,by show L.length - (i + 1) < L.length - i;omega⟩ ?_
    ·show List.map (fun q:Cu × (List Nat × List Nat) => q.1) (qs ++ [(((f,[]),n),(F,[]))]) = _
     rw [List.map_append,hq,htkL];rfl
    ·show (((qs ++ [(((f,[]),n),(F,[]))]).map bl3).flatten).Sublist _
     rw [htkz,List.map_append,List.flatten_append,List.flatten_append]
     refine List.Sublist.append hsub ?_
     simp [bl3]
    ·exact gw72
   | [tr],_ =>
    have j1:((([tr]:List (List Int)).length:Int) > 0) = True:=eq_true (by simp)
    ((refine gw69 (kk 13) i1 ?_);with_reducible (apply QS (qX 36) Tab.none;refine QW ?_;simp only [Zg,Zi,seval,i1];rfl);(refine gw69 (kk 13) i1 ?_))
    ((refine gw70 (kk 13) (Y4 i1 i2 hg hzm) ?_);with_reducible (apply QS (qX 36) Tab.none;refine QW ?_;simp only [Zg,Zi,seval,i1,i2,hg,hzm,Int.toNat_natCast];rfl);(refine gw70 (kk 13) (Y4 i1 i2 hg hzm) ?_))
    ((refine gw69 (kk 13) Y0 ?_);with_reducible (apply QS (qX 36) Tab.none;refine QW ?_;simp only [Zg,Zi,seval];rfl);(refine gw69 (kk 13) Y0 ?_))
    ((refine gw73 (kk 13) j1 ?_);with_reducible (apply QS (qX 36) Tab.none;refine QW ?_;simp only [Zg,Zi,seval,j1,List.length_map];rfl);(refine gw73 (kk 13) j1 ?_))
    refine qQ.regCut (qX 36) Tab.none 2 (s1:=?_) ?_ ?_
    rotate_left 1
    focus (refine Work.mk ?_;simp only [Zg,Zi,seval];with_reducible rfl)
    simp only [List.toList_toArray,List.drop_succ_cons,List.drop_zero]
    refine qV.openR (r:=26) (k:=1) (G:=G) (xs:=[tr].map eL) rfl ?_
    intro ys G' ht1 _ hG'
    have hys:=tag_one ht1
    subst hys
    refine qV.opsT (qX 36) (T:=Tab.none) (s':=?_) ?_ ?_
    rotate_left 1
    focus (simp only [Zg,Zi,seval,List.length_map];with_reducible rfl)
    refine gw5 (kk 13) (Y3 hw q1 q2) ?_
    refine qW.on (i + 1,qs ++ [(((f,tr),n),(F,G'))]) ⟨⟨hiL,?_,?_⟩,by show L.length - (i + 1) < L.length - i;omega⟩ ?_
    ·show List.map (fun q:Cu × (List Nat × List Nat) => q.1) (qs ++ [(((f,tr),n),(F,G'))]) = _
     rw [List.map_append,hq,htkL];rfl
    ·show (((qs ++ [(((f,tr),n),(F,G'))]).map bl3).flatten).Sublist _
     rw [htkz,List.map_append,List.flatten_append,List.flatten_append]
     refine List.Sublist.append hsub ?_
     simp only [bl3,List.map_cons,List.map_nil,List.flatten_cons,List.flatten_nil,List.append_nil]
     exact List.Sublist.append (List.Sublist.refl _) hG'
    ·exact gw72
  ·have i1:((i:Int) < (L.length:Int)) = False:=eq_false (by omega)
   obtain rfl:i = L.length:=by omega
   rw [List.take_length] at hq
   rw [← hzl,List.take_length] at hsub
   refine gw7 (kk 13) i1 ?_
   refine qW.out qs ⟨hq,hsub⟩ ?_
   exact gw6
 ·rintro qs ⟨hq,hsub⟩
  refine gw7 (kk 13) Y0 ?_
  refine Ends.un (by simp) hres hrts (r:=?_) (r':=.own 3 ((L.map cutS).map eCu) true) (l:=[]) (ks:=?_) ?_ ?_ (by simp) ?_ rfl
  rotate_left 2
  focus (simp only [jT,ares,Zg,Zi,seval];with_reducible rfl)
  focus simp
  rw [← hq]
  exact ⟨(qs.map bl3).flatten,hnd.sublist hsub,fun b hb => hF b (hsub.subset hb),.inl ⟨3,_,_,rfl,rfl,tag_mk3 _ _ _ qs⟩⟩
end
section
def ccOf (t:List Int):Int × Int:=if lev8 t = true then ((split t).length,0) else (0,1)
theorem cuts_canon {t:List Int} (h:qY t):cutsL (canon t) = cutsL t:=by unfold cutsL;rw [gath_canon h]
theorem split_len8 {t:List Int} (h:qY t) (hl:t.length ≤ 8):(split t).length ≤ 256:=by
 have h1:=vT _ (Nat.le_refl _) h
 have h2:2 ^ t.length ≤ 2 ^ 8:=Nat.pow_le_pow_right (by decide) hl
 omega
theorem a_countCuts:∀ (n:Nat),n ≤ 8→∀ t:List Int,qY t→t.length ≤ n→AFn Tryz.prog 68 [eL t] (· = [.val (.int (split t).length)])
 | 0,_,t,h,hn => by have:=h.pos;omega
 | n + 1,hn8,t,h,hn => by
  have hsb:=xB h
  have hlev:=jX h
  have hbr:=AFn.valT (a_branchesOf t h (by omega))
  have hbl:(brs t).length ≤ 8:=by have:=brs_few h;omega
  have hfin:(split t).length = (prodS ((brs t).map split)).length + 1:=by rw [xW h,List.length_append,List.length_map];rfl
  have hP:∀ k,(prodS (((brs t).take k).map split)).length ≤ 256:=fun k => vU (vG hlev) (by have:=qE0 (brs t) k;omega)
  simp only [eL] at hbr
  have hle:((brs t).map eL).length = (brs t).length:=List.length_map _
  rw [hfin]
  refine AFn.of_runs (qX 20) Tryz.func68 rfl rfl rfl gz ?_
  have hres:Tryz.f68.results.toList = [.tmp 2]:=rfl
  have hrts:Tryz.f68.resultTypes.toList = [2]:=rfl
  simp only [qK,qA,eL,eI,eLL,eB,Nat.zero_add,Nat.reduceAdd]
  intro M
  refine qQ.of ?_
  refine gw74 (kk 10) hle ?_
  refine qQ.loop (β:=Nat) (γ:=Unit) (fun k => ⟨[(3,.c (.val (.int (prodS (((brs t).take k).map split)).length))),(7,.c (.val (.sl 1 ((brs t).map eL)))),(8,.c (.val (.int (brs t).length))),(9,.c (.val (.int k)))],[]⟩) (fun k => k ≤ (brs t).length) (fun k => (brs t).length - k)
   (fun _ => ⟨[(3,.c (.val (.int (prodS ((brs t).map split)).length)))],[]⟩) (fun _ => True) 0 (Nat.zero_le _) ?_ ?_ ?_
  ·exact gw75 (show prodS [] = [([],[])] from rfl)
  ·intro k hk
   have hk:k ≤ (brs t).length:=hk
   have hw:=qI (n:=k) (by omega)
   by_cases h':k < (brs t).length
   ·have i1:((k:Int) < ((brs t).length:Int)) = True:=eq_true (by omega)
    have i2:((0:Int) ≤ (k:Int)) = True:=eq_true (by omega)
    obtain ⟨b,hb⟩:∃ b,b = (brs t)[k]:=⟨_,rfl⟩
    have hbm:b ∈ brs t:=by rw [hb];exact List.getElem_mem _
    have hg:((brs t).map eL)[k]? = some [.sl 1 (b.map eI)]:=by rw [qP h',hb];rfl
    have hih:=a_countCuts n (by omega) b (hlev b hbm) (by have:=yA h b hbm;omega)
    have htk:(prodS (((brs t).take (k + 1)).map split)).length = (prodS (((brs t).take k).map split)).length * (split b).length:=by
     rw [hb,List.take_succ_eq_append_getElem h',List.map_append]
     show (prodS (((brs t).take k).map split ++ [split (brs t)[k]])).length = _
     rw [prodS_snoc,flatS_len]
    have hP1:=hP (k + 1)
    rw [htk] at hP1
    have hwm:=qR (n:=((prodS (((brs t).take k).map split)).length:Int) * ((split b).length:Int)) (by rw [← Int.natCast_mul];omega)
    simp only [eL] at hih
    refine gw76 (kk 10) (Y6 i1 i2 hg hle hw hwm) ?_
    refine qW.on (k + 1) ⟨h',by omega⟩ ?_
    rw [htk,Int.natCast_mul]
    exact gw6
   ·have i1:((k:Int) < ((brs t).length:Int)) = False:=eq_false (by omega)
    obtain rfl:k = (brs t).length:=by omega
    rw [List.take_length]
    refine gw7 (kk 10) i1 ?_
    refine qW.out () trivial ?_
    exact gw6
  ·rintro _ _
   have hP0:=hP (brs t).length
   rw [List.take_length] at hP0
   have hw:=qI (n:=(prodS ((brs t).map split)).length) (by omega)
   refine gw7 (kk 10) hw ?_
   exact gw8
theorem a_impl_CountCuts (t:List Int):AFn Tryz.prog 21 [eL t] (· = [.val (.int (ccOf t).1),.val (.int (ccOf t).2)]):=by
 have hl:=qH0 t
 simp only [eL] at hl
 unfold ccOf
 refine AFn.of_runs (qX 9) Tryz.func21 rfl rfl rfl gz ?_
 have hres:Tryz.f21.results.toList = [.tmp 2,.tmp 3]:=rfl
 have hrts:Tryz.f21.resultTypes.toList = [2,2]:=rfl
 simp only [qK,qA,eL,eI,eLL,eB,Nat.zero_add,Nat.reduceAdd]
 intro M
 refine qQ.of ?_
 by_cases h8:lev8 t = true
 ·rw [h8] at hl
  have hc:=a_countCuts 8 (Nat.le_refl _) t (xE h8) (xG h8)
  simp only [eL] at hc
  rw [if_pos h8]
  refine gw77 (kk 4) ?_
  exact gw8
 ·have h8':lev8 t = false:=by simpa using h8
  rw [h8'] at hl
  rw [if_neg h8]
  refine gw78 (kk 4) ?_
  exact gw8
end
section
def brOf (t:List Int):List (List Int) × Int:=if lev8 t = true then (forest (brs (canon t)),0) else ([],1)
end
section
section
variable {κ:Type} {c:κ→κ→Int} (hc:Cmp c)
include hc
end
def wF (F:Spl→Int) (f:List (List Int)):Int:=((prodS (f.map split)).map fun s => F (nrmS s)).sum
theorem sum_perm {l m:List Int} (h:l.Perm m):l.sum = m.sum:=by
 induction h with
 | nil => rfl
 | cons q _ ih => rw [List.sum_cons,List.sum_cons,ih]
 | swap p q L => simp only [List.sum_cons];omega
 | trans _ _ h1 h2 => rw [h1,h2]
theorem exp_lin {κ:Type} (F:κ→Int):∀ (L:List (κ × Int)),(∀ z ∈ L,1 ≤ z.2)→((expN L).map F).sum = (L.map fun z => z.2 * F z.1).sum
 | [],_ => rfl
 | z :: L,h => by
  have hz:=h z (by simp)
  rw [jM,List.map_append,List.map_replicate,List.map_cons,List.sum_cons,← exp_lin F L fun q hq => h q (by simp [hq])]
  have e:∀ (n:Nat) (x:Int) (l:List Int),(List.replicate n x ++ l).sum = n * x + l.sum:=by
   intro n x l
   induction n with
   | zero => simp
   | succ n ih => rw [List.replicate_succ,List.cons_append,List.sum_cons,ih,Int.natCast_succ,Int.add_mul];omega
  rw [e,Int.toNat_of_nonneg (by omega)]
theorem gath_lin (F:Spl→Int) (L:List Spl):((gathS L).map fun z => z.2 * F z.1).sum = (L.map fun s => F (nrmS s)).sum:=by
 rw [← exp_lin F _ (jB L).1.2,sum_perm ((jB L).2.map F),List.map_map]
 rfl
def rtF (f:List (List Int)):List (List Int):=[canon (qT f)]
theorem wF_root (F:Spl→Int) {f:List (List Int)} (h:∀ b ∈ f,qY b):wF F (rtF f) = wF (fun s => F (rootS s)) f + F (rtF f,[]):=by
 have hl:=kN h
 have e1:prodS ((rtF f).map split) = split (canon (qT f)):=by
  show List.flatMap (fun s => (split (canon (qT f))).map (catS s)) [([],[])] = _
  rw [List.flatMap_cons,List.flatMap_nil,List.append_nil]
  have:catS (([],[]):Spl) = id:=by funext s;rfl
  rw [this,List.map_id]
 unfold wF
 rw [e1]
 have hp:=(jT0 _ (Nat.le_refl _) hl).map F
 rw [List.map_map,List.map_map] at hp
 have hp2:=sum_perm hp
 show ((split (canon (qT f))).map (F ∘ nrmS)).sum = _
 rw [hp2,xW hl,vW h,List.map_append,List.sum_append,List.map_map]
 have e2:((prodS (f.map split)).map ((F ∘ nrmS) ∘ fun s => (s.1,[canon (qT s.2)]))) = (prodS (f.map split)).map fun s => F (rootS (nrmS s)):=by
  refine List.map_congr_left fun s hs => ?_
  show F (nrmS (rootS s)) = _
  rw [nrm_root (vM h s hs)]
 rw [e2]
 congr 1
 show F (nrmS ([canon (qT f)],[])) + 0 = _
 rw [Int.add_zero];rfl
def OkF (g:List (List Int)):Prop:=(∀ t ∈ g,qY t∧canon t = t)∧g.Pairwise fun a b => cmpT a b ≤ 0
structure KoF (e:Elt) (list:List (Int × Spl)) (r:Elt) (whole:List (Int × Spl)):Prop where
 rl:r.length = e.length
 wl:whole.length = list.length + r.length
 all:∀ w ∈ whole,(w.2.2 = []∧∃ q ∈ r,q.1 = w.1∧q.2 = w.2.1) ∨ (∃ T,w.2.2 = [T]∧lev8 T = true∧∃ q ∈ list,q.1 = w.1∧q.2.1 = w.2.1∧q.2.2 = (brOf T).1)
end
section
theorem catS_assoc (a b d:Spl):catS (catS a b) d = catS a (catS b d):=by
 unfold catS
 simp only [List.append_assoc]
theorem foldS_from:∀ (Ls:List (List Spl)) (A:List Spl),foldS A Ls = A.flatMap fun s => (foldS [([],[])] Ls).map (catS s)
 | [],A => by
  show A = _
  have:∀ s:Spl,[(([],[]):Spl)].map (catS s) = [s]:=fun s => by
   show [catS s ([],[])] = _
   unfold catS;simp
  have e:(fun s:Spl => (foldS [([],[])] []).map (catS s)) = fun s => [s]:=by funext s;exact this s
  rw [e];simp
 | L :: Ls,A => by
  have h1:foldS A (L :: Ls) = foldS (A.flatMap fun s => L.map (catS s)) Ls:=rfl
  have h2:foldS [([],[])] (L :: Ls) = foldS ([(([],[]):Spl)].flatMap fun s => L.map (catS s)) Ls:=rfl
  have h3:([(([],[]):Spl)].flatMap fun s => L.map (catS s)) = L:=by
   rw [List.flatMap_cons,List.flatMap_nil,List.append_nil]
   have:catS (([],[]):Spl) = id:=by funext s;rfl
   rw [this,List.map_id]
  rw [h1,h2,h3,foldS_from Ls (A.flatMap fun s => L.map (catS s)),foldS_from Ls L,List.flatMap_assoc]
  congr 1
  funext s
  rw [List.flatMap_map,List.map_flatMap]
  congr 1
  funext c
  rw [List.map_map]
  exact List.map_congr_left fun d _ => catS_assoc s c d
theorem sum_flatM {α:Type} (g:α→List Int):∀ (L:List α),(L.flatMap g).sum = (L.map fun a => (g a).sum).sum
 | [] => rfl
 | a :: L => by rw [List.flatMap_cons,List.sum_append,sum_flatM g L,List.map_cons,List.sum_cons]
theorem wF_nil (F:Spl→Int):wF F [] = F ([],[]):=by
 show F (nrmS ([],[])) + 0 = _
 rw [Int.add_zero];rfl
theorem wF_perm (F:Spl→Int) {f g:List (List Int)} (h:f.Perm g):wF F f = wF F g:=by
 have hp:=(prodS_perm (h.map split) [([],[])]).map F
 rw [List.map_map,List.map_map] at hp
 exact sum_perm hp
theorem wF_app (F:Spl→Int) (f g:List (List Int)):wF F (f ++ g) = wF (fun s => wF (fun u => F (mulS s u)) g) f:=by
 have e1:prodS ((f ++ g).map split) = (prodS (f.map split)).flatMap fun s => (prodS (g.map split)).map (catS s):=by
  rw [List.map_append]
  show foldS [([],[])] (f.map split ++ g.map split) = _
  have:foldS [([],[])] (f.map split ++ g.map split) = foldS (foldS [([],[])] (f.map split)) (g.map split):=by unfold foldS;rw [List.foldl_append]
  rw [this,foldS_from];rfl
 unfold wF
 rw [e1,List.map_flatMap,sum_flatM]
 congr 1
 refine List.map_congr_left fun s _ => ?_
 rw [List.map_map]
 congr 1
 refine List.map_congr_left fun c _ => ?_
 show F (nrmS (catS s c)) = _
 rw [nrm_cat]
theorem wF_mulF (F:Spl→Int) (f g:List (List Int)):wF F (mulF f g) = wF (fun s => wF (fun u => F (mulS s u)) g) f:=by
 rw [← wF_app]
 exact wF_perm F (jE _)
theorem wF_add (F G:Spl→Int) (f:List (List Int)):wF (fun s => F s + G s) f = wF F f + wF G f:=by
 unfold wF
 induction prodS (f.map split) with
 | nil => rfl
 | cons s L ih => rw [List.map_cons,List.map_cons,List.map_cons,List.sum_cons,List.sum_cons,List.sum_cons,ih];dsimp only;omega
theorem wF_swap (F:Spl→Spl→Int) (f g:List (List Int)):wF (fun s => wF (fun u => F s u) g) f = wF (fun u => wF (fun s => F s u) f) g:=by
 unfold wF
 induction prodS (f.map split) with
 | nil =>
  show (0:Int) = ((prodS (g.map split)).map fun _ => (0:Int)).sum
  induction prodS (g.map split) with
  | nil => rfl
  | cons u L ih => rw [List.map_cons,List.sum_cons,← ih];rfl
 | cons s L ih =>
  rw [List.map_cons,List.sum_cons,ih]
  induction prodS (g.map split) with
  | nil => rfl
  | cons u K ih2 =>
   simp only [List.map_cons,List.sum_cons] at ih2 ⊢
   omega
structure CutOk (f:List (List Int)) (s:Spl):Prop where
 c:OkF s.1
 t:OkF s.2
 n:qJ s.1 + qJ s.2 = qJ f
theorem cut_ok {f:List (List Int)} (h:∀ b ∈ f,qY b):∀ s ∈ prodS (f.map split),CutOk f (nrmS s):=fun s hs => by
 have k:=(kM h s hs).nrm
 exact ⟨⟨fun t ht => k.1 t (by simp only [List.mem_append];exact .inl ht),xF yL _⟩,⟨fun t ht => k.1 t (by simp only [List.mem_append];exact .inr ht),xF yL _⟩,k.2⟩
theorem wX {F G:Spl→Int} {f:List (List Int)} (h:∀ b ∈ f,qY b) (e:∀ s,CutOk f s→F s = G s):wF F f = wF G f:=by
 unfold wF
 congr 1
 exact List.map_congr_left fun s hs => e _ (cut_ok h s hs)
theorem OkF.lev {f:List (List Int)} (h:OkF f):∀ b ∈ f,qY b:=fun b hb => (h.1 b hb).1
theorem okF_nil:OkF []:=⟨fun t ht => (nomatch ht),List.Pairwise.nil⟩
theorem canon_sub {t:List Int} (h:qY t) (hc:canon t = t):∀ b ∈ brs t,canon b = b:=fun b hb => by
 have hl:∀ b ∈ sortC cmpD ((brs t).map canon),qY b:=fun b hb' => by
  rw [yQ,List.mem_map] at hb'
  obtain ⟨x,hx,rfl⟩:=hb'
  exact yE (jX h x hx)
 have e:brs t = sortC cmpD ((brs t).map canon):=by
  conv => lhs;rw [← hc,xD h]
  exact vW hl
 rw [e,yQ,List.mem_map] at hb
 obtain ⟨x,hx,rfl⟩:=hb
 exact kH (jX h x hx)
theorem tree_root {t:List Int} (h:qY t) (hc:canon t = t):OkF (forest (brs t))∧rtF (forest (brs t)) = [t]∧qJ (forest (brs t)) + 1 = t.length:=by
 refine ⟨⟨fun b hb => ?_,xF yL _⟩,?_,?_⟩
 ·have hb:=yQ.1 hb
  exact ⟨jX h b hb,canon_sub h hc b hb⟩
 ·unfold rtF forest
  rw [canon_root (bs:=sortC cmpT (brs t)) (cs:=brs t) (fun b hb => jX h b (yQ.1 hb)) (jE _),rootOn_brs h,hc]
 ·unfold forest
  rw [xR (jE _),xB h]
theorem hopf_ind {P:List (List Int)→Prop} (h0:P []) (hr:∀ g,OkF g→P g→P (rtF g)) (hm:∀ f g,OkF f→OkF g→P f→P g→P (mulF f g)):∀ f,OkF f→P f:=by
 have key:∀ (n:Nat) (f:List (List Int)),qJ f ≤ n→OkF f→P f:=by
  intro n
  induction n with
  | zero =>
   intro f hn hf
   cases f with
   | nil => exact h0
   | cons t f =>
    have:=(hf.1 t (by simp)).1.pos
    have hs:qJ (t :: f) = t.length + qJ f:=by simp [qJ]
    omega
  | succ n ih =>
   intro f hn hf
   cases f with
   | nil => exact h0
   | cons t f =>
    obtain ⟨ht,htc⟩:=hf.1 t (by simp)
    have hf':OkF f:=⟨fun x hx => hf.1 x (by simp [hx]),(List.pairwise_cons.1 hf.2).2⟩
    have hp:=ht.pos
    have hs:qJ (t :: f) = t.length + qJ f:=by simp [qJ]
    obtain ⟨a1,a2,a3⟩:=tree_root ht htc
    have h1:P [t]:=by
     rw [← a2]
     exact hr _ a1 (ih _ (by omega) a1)
    have h2:P f:=ih f (by omega) hf'
    have e:t :: f = mulF [t] f:=(yA0 yL hf.2).symm
    rw [e]
    exact hm [t] f ⟨fun x hx => by obtain rfl:=List.mem_singleton.1 hx;exact ⟨ht,htc⟩,List.pairwise_singleton _ _⟩ hf' h1 h2
 exact fun f hf => key _ f (Nat.le_refl _) hf
def L3 (F:List (List Int)→List (List Int)→List (List Int)→Int) (f:List (List Int)):Int:=wF (fun s => wF (fun u => F u.1 u.2 s.2) s.1) f
def R3 (F:List (List Int)→List (List Int)→List (List Int)→Int) (f:List (List Int)):Int:=wF (fun s => wF (fun u => F s.1 u.1 u.2) s.2) f
theorem L3_root (F:List (List Int)→List (List Int)→List (List Int)→Int) {g:List (List Int)} (hg:OkF g):L3 F (rtF g) = L3 (fun a b c => F a b (rtF c)) g + (wF (fun u => F u.1 (rtF u.2) []) g + F (rtF g) [] []):=by
 have a1:L3 F (rtF g) = wF (fun s => wF (fun u => F u.1 u.2 (rtF s.2)) s.1) g + wF (fun u => F u.1 u.2 []) (rtF g):=wF_root (fun s => wF (fun u => F u.1 u.2 s.2) s.1) hg.lev
 have a2:wF (fun u => F u.1 u.2 []) (rtF g) = wF (fun u => F u.1 (rtF u.2) []) g + F (rtF g) [] []:=wF_root (fun u => F u.1 u.2 []) hg.lev
 rw [a1,a2];rfl
theorem R3_root (F:List (List Int)→List (List Int)→List (List Int)→Int) {g:List (List Int)} (hg:OkF g):R3 F (rtF g) = R3 (fun a b c => F a b (rtF c)) g + wF (fun s => F s.1 (rtF s.2) []) g + F (rtF g) [] []:=by
 have b1:R3 F (rtF g) = wF (fun s => wF (fun u => F s.1 u.1 u.2) (rtF s.2)) g + wF (fun u => F (rtF g) u.1 u.2) []:=wF_root (fun s => wF (fun u => F s.1 u.1 u.2) s.2) hg.lev
 have b2:wF (fun s => wF (fun u => F s.1 u.1 u.2) (rtF s.2)) g = wF (fun s => wF (fun u => F s.1 u.1 (rtF u.2)) s.2 + F s.1 (rtF s.2) []) g:=wX hg.lev fun s hs => wF_root (fun u => F s.1 u.1 u.2) hs.t.lev
 have b3:=wF_add (fun s => wF (fun u => F s.1 u.1 (rtF u.2)) s.2) (fun s => F s.1 (rtF s.2) []) g
 have b4:=wF_nil (fun u => F (rtF g) u.1 u.2)
 rw [b1,b2,b3,b4];rfl
theorem L3_mul (F:List (List Int)→List (List Int)→List (List Int)→Int) {x y:List (List Int)} (hx:OkF x) (hy:OkF y):L3 F (mulF x y) = L3 (fun a b c => L3 (fun a' b' c' => F (mulF a a') (mulF b b') (mulF c c')) y) x:=by
 refine (wF_mulF (fun s => wF (fun u => F u.1 u.2 s.2) s.1) x y).trans ?_
 refine wX hx.lev fun s hs => ?_
 refine Eq.trans ?_ (wF_swap (fun v u => wF (fun v' => F (mulF v.1 v'.1) (mulF v.2 v'.2) (mulF s.2 u.2)) u.1) s.1 y).symm
 refine wX hy.lev fun u hu => ?_
 exact wF_mulF (fun v => F v.1 v.2 (mulF s.2 u.2)) s.1 u.1
theorem R3_mul (F:List (List Int)→List (List Int)→List (List Int)→Int) {x y:List (List Int)} (hx:OkF x) (hy:OkF y):R3 F (mulF x y) = R3 (fun a b c => R3 (fun a' b' c' => F (mulF a a') (mulF b b') (mulF c c')) y) x:=by
 refine (wF_mulF (fun s => wF (fun u => F s.1 u.1 u.2) s.2) x y).trans ?_
 refine wX hx.lev fun s hs => ?_
 refine Eq.trans ?_ (wF_swap (fun v u => wF (fun v' => F (mulF s.1 u.1) (mulF v.1 v'.1) (mulF v.2 v'.2)) u.2) s.2 y).symm
 refine wX hy.lev fun u hu => ?_
 exact wF_mulF (fun v => F (mulF s.1 u.1) v.1 v.2) s.2 u.2
theorem coassoc:∀ f,OkF f→∀ F,L3 F f = R3 F f:=by
 refine hopf_ind (fun F => ?_) (fun g hg ih F => ?_) (fun x y hx hy ihx ihy F => ?_)
 ·have a1:=wF_nil (fun s => wF (fun u => F u.1 u.2 s.2) s.1)
  have a2:=wF_nil (fun u => F u.1 u.2 [])
  have b1:=wF_nil (fun s => wF (fun u => F s.1 u.1 u.2) s.2)
  have b2:=wF_nil (fun u => F [] u.1 u.2)
  exact a1.trans (a2.trans (b1.trans b2).symm)
 ·rw [L3_root F hg,R3_root F hg,ih,Int.add_assoc]
 ·have e3:(fun a b c => L3 (fun a' b' c' => F (mulF a a') (mulF b b') (mulF c c')) y) = fun a b c => R3 (fun a' b' c' => F (mulF a a') (mulF b b') (mulF c c')) y:=by
   funext a b c
   exact ihy _
  rw [L3_mul F hx hy,ihx,e3,R3_mul F hx hy]
end
section
theorem wF_one (H:Spl→Int) (t:List Int):wF H [t] = ((split t).map fun s => H (nrmS s)).sum:=by
 have e1:prodS ([t].map split) = split t:=by
  show List.flatMap (fun s => (split t).map (catS s)) [([],[])] = _
  rw [List.flatMap_cons,List.flatMap_nil,List.append_nil]
  have:catS (([],[]):Spl) = id:=by funext s;rfl
  rw [this,List.map_id]
 unfold wF
 rw [e1]
end
section
structure EmA (d e p:Elt):Prop where
 bd:elB d = true
 be:elB e = true
 bp:elB p = true
 q:timOf e d = (p,0)
 deg:(degE p = -1∧(degE d = -1 ∨ degE e = -1)) ∨ (degE p = degE d + degE e∧degE d ≠ -1∧degE e ≠ -1∧degE p ≠ -1)
 two:∃ s,sclOf p 2 = (s,0)∧elB s = true
def dotE:Elt:=[(1,[[0]])]
structure EmB (f g s:Elt):Prop where
 bf:elB f = true
 bg:elB g = true
 bs:elB s = true
 minus:∃ m,sclOf g 10006 = (m,0)∧addOf s m = (f,0)
 dist:∃ a x b y h z u v,timOf s dotE = (a,x)∧timOf f dotE = (b,y)∧timOf g dotE = (h,z)∧addOf b h = (u,v)∧(x = 0 ∨ x = 3)∧(y = 0 ∨ y = 3)∧(z = 0 ∨ z = 3)∧(v = 0 ∨ v = 3)∧(x = 0→y = 0→z = 0→v = 0→a = u)
end
section
def lastBig (t:List Int):Nat→Nat
 | 0 => 0
 | p + 1 => if t.getD p 0 ≤ 1 then lastBig t p else p + 1
def lastEq (t:List Int) (l:Int):Nat→Nat
 | 0 => 0
 | q + 1 => if t.getD q 0 = l then q else lastEq t l q
def copyFrom (p q:Nat):Nat→List Int→List Int
 | 0,t => t
 | k + 1,t => (copyFrom p q k t).set (p + k) ((copyFrom p q k t).getD (p + k - (p - q)) 0)
def nextT (t:List Int):Option (List Int) :=
 match lastBig t t.length with
 | 0 => none
 | p + 1 => some (copyFrom p (lastEq t (t.getD p 0 - 1) p) (t.length - p) t)
def treesF:Nat→List Int→List (List Int)
 | 0,_ => []
 | f + 1,t => t :: match nextT t with
  | none => []
  | some s => treesF f s
def treesN (n:Nat):List (List Int):=treesF 120 ((List.range n).map fun (i:Nat) => (i:Int))
end
section
end
section
def allTo (n:Nat):List (List Int):=(List.range n).flatMap fun k => treesN (k + 1)
def posT (t:List Int):Nat:=(allTo 8).idxOf t
end
section
def plc (t:List Int):Int:=(posT t:Int) + 1
end
section
section
variable {P:Program} {cfg:Cfg} {M:Nat→Prop} {ops:Array Oper} {s s':St} {w0:W0} {w:World} {Ok:Nat→Prop} {N:Nat} {σ:Asg} {a:Act} {fs:List Fr} {Q:Exit→St→Prop} {T:Tab P} {H:List (Nat × Obj)}
structure AFnS (P:Program) (f:FuncId) (ds:List (List D)) (cs:List D):Prop where
 call:∀ args w,(callFunc f args).run P w = .ok (.enter f args) w
 fn:∀ (A:Nat→Prop) w vs,(∀ b,A b→b < w.heap.size)→qN A w ds vs→Calls P f vs.toArray w (fun e w' => ∃ us,e = .returned (.agg us.toArray)∧Below w.heap.size w w'∧rdCs (fun b => A b ∨ w.heap.size ≤ b) w' us cs)
end
end
section
def valM (a:List Int) (ps:List Int):Int:=ps.foldl (fun o p => mP (o * a.getD p.toNat 0)) 1
end
section
def long6 (f:List (List Int)):Bool:=f.any fun t => decide (6 < t.length)
def vatOf (a:List Int) (f:List (List Int)):Int × Int:=if isMap a = true∧forB f = true then (if long6 f = true then (0,2) else (valM a (f.map plc),0)) else (0,1)
end
section
section
variable {F:Spl→Int} (hF:∀ s c,F (catS s c) = F s * F c)
include hF
end
def v9 (a b:List Int):List (Int × Spl)→Int→Int
 | [],out => out
 | q :: L,out => if (vatOf a q.2.1).2 = 0∧(vatOf b q.2.2).2 = 0 then v9 a b L (mP (out + mP (q.1 * mP ((vatOf a q.2.1).1 * (vatOf b q.2.2).1)))) else -1
theorem okF_forB {f:List (List Int)} (h:OkF f) (h8:qJ f ≤ 8):forB f = true:=forB_of h8 (fun t ht => by
  unfold canT
  rw [Bool.and_eq_true]
  exact ⟨lev8_mk (h.1 t ht).1 (by have:=yX ht;omega),decide_eq_true (h.1 t ht).2⟩) h.2
end
section
theorem a_splitForest (f:List (List Int)) (hlev:∀ b ∈ f,qY b) (h8:qJ f ≤ 8):AFn Tryz.prog 61 [eLL f] (· = [.own 3 ((prodS (f.map split)).map eS0) false]):=by
 have hbl:=xM hlev
 have hlen8:∀ b ∈ f,b.length ≤ 8:=fun b hb => by have:=yX hb;omega
 have hAg:∀ k,(∀ s ∈ prodS ((f.take k).map split),yU (qJ (f.take k)) s)∧(prodS ((f.take k).map split)).length ≤ 256∧qJ (f.take k) ≤ 8:=fun k => by
  have h1:=qE0 f k
  exact ⟨kM (vG hlev),vU (vG hlev) (by omega),by omega⟩
 refine AFn.of_runs (qX 54) Tryz.func61 rfl rfl rfl gz ?_
 have hres:Tryz.f61.results.toList = [.tmp 2]:=rfl
 have hrts:Tryz.f61.resultTypes.toList = [33]:=rfl
 simp only [qK,qA,eL,eI,eLL,eB,Nat.zero_add,Nat.reduceAdd]
 intro M
 refine qQ.of ?_
 refine gw33 (kk 30) Y0 ?_
 refine qQ.loop (β:=Nat) (γ:=Unit) (fun k => ⟨[(3,.c (.own 3 (prodS ((f.take k).map split)).length)),(13,.c (.val (.sl 1 (f.map eL)))),(14,.c (.val (.int f.length))),(15,.c (.val (.int k)))],[(3,.row 3 ((prodS ((f.take k).map split)).map eS0) false)]⟩) (fun k => k ≤ f.length) (fun k => f.length - k)
  (fun _ => ⟨[(3,.c (.own 3 (prodS (f.map split)).length))],[(3,.row 3 ((prodS (f.map split)).map eS0) false)]⟩) (fun _ => True) 0 (Nat.zero_le _) ?_ ?_ ?_
 ·exact gw59 (show prodS [] = [([],[])] from rfl)
 ·intro k hk
  have hk:k ≤ f.length:=hk
  have hwk:=qI (n:=k) (by omega)
  obtain ⟨g1,g2,g3⟩:=hAg k
  by_cases hkb:k < f.length
  ·have i1:((k:Int) < (f.length:Int)) = True:=eq_true (by omega)
   have i2:((0:Int) ≤ (k:Int)) = True:=eq_true (by omega)
   obtain ⟨b,hb⟩:∃ b,b = f[k]:=⟨_,rfl⟩
   have hbm:b ∈ f:=by rw [hb];exact List.getElem_mem _
   have hg:(f.map eL)[k]? = some [.sl 1 (b.map eI)]:=by rw [qP hkb,hb];rfl
   have hle:(f.map eL).length = f.length:=List.length_map _
   have hblen:=hlen8 b hbm
   have hih:=AFn.val1 (jQ0 8 (by omega) b (hlev b hbm) (by omega))
   have hgB:=kE _ (Nat.le_refl _) (hlev b hbm)
   have hlB:(split b).length ≤ 256:=by
    have h1:=vT _ (Nat.le_refl _) (hlev b hbm)
    have h2:2 ^ b.length ≤ 2 ^ 8:=Nat.pow_le_pow_right (by decide) (by omega)
    omega
   have htk:prodS ((f.take (k + 1)).map split) = (prodS ((f.take k).map split)).flatMap fun s => (split b).map (catS s):=by
    rw [hb,List.take_succ_eq_append_getElem hkb,List.map_append];exact foldS_snoc _ _ _
   have hn2:(prodS ((f.take (k + 1)).map split)).length ≤ 256:=(hAg (k + 1)).2.1
   obtain ⟨A,hA⟩:∃ A,A = prodS ((f.take k).map split):=⟨_,rfl⟩
   obtain ⟨B,hB⟩:∃ B,B = split b:=⟨_,rfl⟩
   rw [← hA] at g1 g2 htk ⊢
   rw [← hB] at hih hgB hlB htk
   rw [htk] at hn2
   simp only [eL] at hih
   have hsA:∀ s ∈ A,SmS s:=fun s hs => ((g1 s hs).ha (by omega)).sm
   have hsB:∀ s ∈ B,SmS s:=fun s hs => ((hgB s hs).ha (by omega)).sm
   have hAl:(A.map eS0).length = A.length:=List.length_map _
   refine gw60 (kk 30) (Y4 i1 i2 hg hle) ?_
   refine qQ.loop (β:=Nat) (γ:=Unit) (fun i => ⟨[(3,.c (.own 3 A.length)),(5,.c (.val (.sl 1 (b.map eI)))),(6,.c (.own 6 ((A.take i).flatMap fun s => B.map (catS s)).length)),(13,.c (.val (.sl 1 (f.map eL)))),(14,.c (.val (.int f.length))),(15,.c (.val (.int k))),(20,.c (.own 3 A.length)),(21,.c (.val (.int A.length))),(22,.c (.val (.int i)))],
     [(3,.row 3 (A.map eS0) false),(6,.row 3 (((A.take i).flatMap fun s => B.map (catS s)).map eS0) false)]⟩) (fun i => i ≤ A.length) (fun i => A.length - i)
    (fun _ => ⟨[(6,.c (.own 6 (A.flatMap fun s => B.map (catS s)).length)),(13,.c (.val (.sl 1 (f.map eL)))),(14,.c (.val (.int f.length))),(15,.c (.val (.int k)))],[(6,.row 3 ((A.flatMap fun s => B.map (catS s)).map eS0) false)]⟩) (fun _ => True) 0 (Nat.zero_le _) ?_ ?_ ?_
   ·exact gw61
   ·intro i hi
    have hi:i ≤ A.length:=hi
    have hwi:=qI (n:=i) (by omega)
    by_cases hiA:i < A.length
    ·have j1:((i:Int) < (A.length:Int)) = True:=eq_true (by omega)
     have j2:((0:Int) ≤ (i:Int)) = True:=eq_true (by omega)
     obtain ⟨s,hs⟩:∃ s,s = A[i]:=⟨_,rfl⟩
     have hsm:=hsA A[i] (List.getElem_mem _)
     have hgs:(A.map eS0)[i]? = some [.sl 1 (s.1.map eL),.sl 1 (s.2.map eL),.int 0]:=by rw [qP hiA,hs];rfl
     have htkA:(A.take (i + 1)).flatMap (fun s => B.map (catS s)) = ((A.take i).flatMap fun s => B.map (catS s)) ++ B.map (catS s):=by
      rw [hs,List.take_succ_eq_append_getElem hiA,List.flatMap_append];simp
     have hXl:((A.take i).flatMap fun s => B.map (catS s)).length + B.length ≤ 256:=by
      rw [flatS_len] at hn2 ⊢
      rw [List.length_take,Nat.min_eq_left hi]
      have:(i + 1) * B.length ≤ A.length * B.length:=Nat.mul_le_mul_right _ hiA
      rw [Nat.succ_mul] at this;omega
     rw [← hs] at hsm
     obtain ⟨X,hX⟩:∃ X,X = (A.take i).flatMap fun s => B.map (catS s):=⟨_,rfl⟩
     rw [← hX] at htkA hXl ⊢
     have hBl:(B.map eS0).length = B.length:=List.length_map _
     refine gw62 (kk 30) (Y5 j1 j2 hgs hAl hBl) ?_
     refine qQ.loop (β:=Nat) (γ:=Unit) (fun j => ⟨[(3,.c (.own 3 A.length)),(5,.c (.val (.sl 1 (b.map eI)))),(6,.c (.own 6 (X ++ (B.take j).map (catS s)).length)),(8,.optr 8 0 0),(13,.c (.val (.sl 1 (f.map eL)))),(14,.c (.val (.int f.length))),(15,.c (.val (.int k))),(20,.c (.own 3 A.length)),(21,.c (.val (.int A.length))),(22,.c (.val (.int i))),(27,.c (.val (.sl 3 (B.map eS0)))),(28,.c (.val (.int B.length))),(29,.c (.val (.int j)))],
       [(3,.row 3 (A.map eS0) false),(6,.row 3 ((X ++ (B.take j).map (catS s)).map eS0) false),(8,.row 3 [[.sl 1 (s.1.map eL),.sl 1 (s.2.map eL),.int 0]] false)]⟩) (fun j => j ≤ B.length) (fun j => B.length - j)
      (fun _ => ⟨[(3,.c (.own 3 A.length)),(5,.c (.val (.sl 1 (b.map eI)))),(6,.c (.own 6 (X ++ B.map (catS s)).length)),(13,.c (.val (.sl 1 (f.map eL)))),(14,.c (.val (.int f.length))),(15,.c (.val (.int k))),(20,.c (.own 3 A.length)),(21,.c (.val (.int A.length))),(22,.c (.val (.int i)))],
       [(3,.row 3 (A.map eS0) false),(6,.row 3 ((X ++ B.map (catS s)).map eS0) false)]⟩) (fun _ => True) 0 (Nat.zero_le _) ?_ ?_ ?_
     ·exact gw38
     ·intro j hj
      have hj:j ≤ B.length:=hj
      have hwj:=qI (n:=j) (by omega)
      by_cases hjB:j < B.length
      ·have l1:((j:Int) < (B.length:Int)) = True:=eq_true (by omega)
       have l2:((0:Int) ≤ (j:Int)) = True:=eq_true (by omega)
       obtain ⟨c,hc⟩:∃ c,c = B[j]:=⟨_,rfl⟩
       have hcm:=hsB B[j] (List.getElem_mem _)
       have hgc:(B.map eS0)[j]? = some [.sl 1 (c.1.map eL),.sl 1 (c.2.map eL),.int 0]:=by rw [qP hjB,hc];rfl
       have htkB:X ++ (B.take (j + 1)).map (catS s) = (X ++ (B.take j).map (catS s)) ++ [catS s c]:=by
        rw [hc,List.take_succ_eq_append_getElem hjB,List.map_append,List.append_assoc];rfl
       rw [← hc] at hcm
       have hYl:(X ++ (B.take j).map (catS s)).length ≤ 256:=by rw [List.length_append,List.length_map,List.length_take];omega
       obtain ⟨Y,hY⟩:∃ Y,Y = X ++ (B.take j).map (catS s):=⟨_,rfl⟩
       rw [← hY] at htkB hYl ⊢
       have q1:=jS (n:=Y.length + 1) (by omega)
       have q2:=jO (n:=Y.length + 1) (c:=56) (by omega) (by omega)
       have hYm:(Y.map eS0).length = Y.length:=List.length_map _
       have e1:=eq_true (And.intro hsm.1 hcm.1)
       have e2:=eq_true (And.intro hsm.2 hcm.2)
       refine gw37 (kk 30) (Y4 l1 l2 hgc hBl) ?_
       (((with_reducible refine qQ.wFz (qX 54) TCat qE [38,44] (tr:=?_) (s1:=?_) (rest:=?_) ?_ ?_ ?_);rotate_left 3;(focus ((with_reducible refine QW ?_);simp only [Zg,Zd,Zi,seval,drunF,kT,xS,valD,vJ,List.contains_cons,List.contains_nil,TCat,TCat,codLLL_d,cat2_eq,e1,e2,q1,q2,hYm];with_reducible rfl));focus ((with_reducible refine QK ?_);simp only [Zk];kernel_rfl));(refine qV.opsT (qX 54) (T:=TCat) (s':=?_) ?_ ?_;rotate_left 1;focus (simp only [Zg,Zi,seval,TCat,TCat,codLLL_d,cat2_eq,e1,e2,q1,q2,hYm];with_reducible rfl)))
       refine gw28 (kk 30) hwj ?_
       refine qW.on (j + 1) ⟨hjB,by omega⟩ ?_
       rw [htkB]
       exact gw63
      ·have l1:((j:Int) < (B.length:Int)) = False:=eq_false (by omega)
       obtain rfl:j = B.length:=by omega
       rw [List.take_length]
       refine gw28 (kk 30) l1 ?_
       refine qW.out () trivial ?_
       exact gw6
     ·rintro _ _
      refine gw28 (kk 30) hwi ?_
      refine qW.on (i + 1) ⟨hiA,by omega⟩ ?_
      rw [htkA]
      exact gw6
    ·have j1:((i:Int) < (A.length:Int)) = False:=eq_false (by omega)
     obtain rfl:i = A.length:=by omega
     rw [List.take_length]
     refine gw28 (kk 30) j1 ?_
     refine qW.out () trivial ?_
     exact gw6
   ·rintro _ _
    refine gw28 (kk 30) hwk ?_
    refine qW.on (k + 1) ⟨hkb,by omega⟩ ?_
    rw [htk]
    exact gw6
  ·have i1:((k:Int) < (f.length:Int)) = False:=eq_false (by omega)
   obtain rfl:k = f.length:=by omega
   rw [List.take_length]
   refine gw28 (kk 30) i1 ?_
   refine qW.out () trivial ?_
   exact gw6
 ·rintro _ _
  refine gw28 (kk 30) Y0 ?_
  exact gw8
end
section
theorem AFn.of_v {P:Program} {f:FuncId} {ds:List (List D)} {d:D} {v:Value} (eg:∀ args w,(callFunc f args).run P w = .ok (.enter f args) w) (hd:∀ A w,rdV A w v d)
  (h:∀ (w:World) (A:Nat→Prop) vs,qN A w ds vs→Calls P f vs.toArray w (RetV w v)):AFn P f ds (· = [.val d]):=by
 refine ⟨eg,fun A w vs hA hv => (h w A vs hv).mono ?_⟩
 rintro e w' ⟨rfl,hb⟩
 exact ⟨v,_,rfl,rfl,hb,[v],[],[],rfl,List.nodup_nil,by simp,v,[],[],[],[],[],rfl,rfl,rfl,(hd (fun _ => True) w).one,⟨hd _ _,rfl,rfl⟩,rfl,rfl,rfl⟩
theorem tab_one {A:Nat→Prop} {w:World} {t:List Int} {vs:List Value} (h:qN A w [eL t] vs):∃ v,vs = [v]∧Rd (RS RI) w [v] t:=by
 obtain ⟨v1,_,e1,h1,e2⟩:=h
 have e2:_ = []:=e2
 subst e2;subst e1
 exact ⟨v1,rfl,Rd.of (rd1 h1)⟩
end
section
def eSs (c:(List (List Int) × List (List Int)) × Int):List D:=[.sl 1 (c.1.1.map eL),.sl 1 (c.1.2.map eL),.int c.2]
end
section
def cfOf (f:List (List Int)):List (Spl × Int) × Int:=if forB f = true then (gathS (prodS (f.map split)),0) else ([],1)
theorem cf_good {f:List (List Int)} (h:forB f = true):(prodS (f.map split)).length ≤ 256∧(gathS (prodS (f.map split))).length ≤ 256∧∀ z ∈ gathS (prodS (f.map split)),(1 ≤ z.2∧z.2 ≤ 256)∧yU (qJ f) z.1:=by
 have h0:=(jB (prodS (f.map split))).len
 rw [List.length_map] at h0
 have h1:=vU (kJ h) (kG h).1
 refine ⟨h1,by omega,fun z hz => ?_⟩
 obtain ⟨g1,g2,g3⟩:=qJ0 (kM (kJ h)) z hz
 exact ⟨⟨g1,by omega⟩,g3⟩
theorem jF0 (f:List (List Int)) (hc1:qJ f ≤ 1048576) (hc2:f.length ≤ 1048576):AFn Tryz.prog 14 [eLL f] (· = [.own 3 ((cfOf f).1.map eSs) true,.val (.int (cfOf f).2)]):=by
 have hl:=a_impl_IsForest f (by omega) (by omega)
 simp only [eLL] at hl
 unfold cfOf
 refine AFn.of_runs (qX 10) Tryz.func14 rfl rfl rfl gz ?_
 have hres:Tryz.f14.results.toList = [.tmp 2,.tmp 3]:=rfl
 have hrts:Tryz.f14.resultTypes.toList = [33,2]:=rfl
 simp only [qK,qA,eL,eI,eLL,eB,Nat.zero_add,Nat.reduceAdd]
 intro M
 refine qQ.of ?_
 by_cases h8:forB f = true
 ·rw [h8] at hl
  have hs:=a_splitForest f (kJ h8) (kG h8).1
  obtain ⟨g1,_,_⟩:=cf_good h8
  have hga:AOw Tryz.prog 60 [] 3 ((prodS (f.map split)).map eS0) [] (· = [.own 3 ((gathS (prodS (f.map split))).map eSs) true]):=a_gathered (prodS (f.map split)) (by omega) (fun s hs' => ((kM (kJ h8) s hs').ha (by have:=(kG h8).1;omega)).sm)
  simp only [eLL] at hs
  rw [if_pos h8]
  refine gw79 (kk 4) ?_
  exact gw8
 ·have h8':forB f = false:=by simpa using h8
  rw [h8'] at hl
  rw [if_neg h8]
  refine gw80 (kk 4) ?_
  exact gw8
noncomputable def TCfs:Tab Tryz.prog :=
 Tab.none.add 67 (tab1 codLL fun f => if SmF f then some [.val (.sl 1 (f.map eL))] else none) (kF fun f rs h => by split at h;cases h;rename_i hs;exact AFn.val1 (a_l01Own2 f (by have:=hs.1;omega) hs.b);cases h)
theorem yN0 (f:List (List Int)) (hc1:qJ f ≤ 1048576) (hc2:f.length ≤ 1048576):∃ b,AFn Tryz.prog 19 [eLL f] (· = [.own 3 ((cfOf f).1.map eSs) b,.val (.int (cfOf f).2)]):=by
 have hl:=a_l03Forest f hc1 hc2
 simp only [eLL] at hl
 unfold cfOf
 by_cases h8:forB f = true
 rotate_left
 ·have h8':forB f = false:=by simpa using h8
  rw [h8'] at hl
  rw [if_neg h8]
  refine ⟨true,?_⟩
  refine AFn.of_runs (qX 41) Tryz.func19 rfl rfl rfl gz ?_
  have hres:Tryz.f19.results.toList = [.tmp 2,.tmp 3]:=rfl
  have hrts:Tryz.f19.resultTypes.toList = [33,2]:=rfl
  simp only [qK,qA,eL,eI,eLL,eB,Nat.zero_add,Nat.reduceAdd]
  intro M
  refine qQ.of ?_
  refine gw81 (kk 7) ?_
  exact gw8
 rw [h8] at hl
 rw [if_pos h8]
 have hsm8:=(kG h8).1
 have hfor:=yJ0 8 (fun b a1 a2 a3 => a_l05Tree 8 (Nat.le_refl _) b a1 a2 a3) f (fun b hb => ⟨kJ h8 b hb,forB_can h8 b hb,by have:=yX hb;omega⟩) hsm8
 obtain ⟨_,hgl,hgood⟩:=cf_good h8
 obtain ⟨L,hL⟩:∃ L,L = gathS (prodS (f.map split)):=⟨_,rfl⟩
 rw [← hL] at hfor hgl hgood ⊢
 simp only [eLL] at hfor
 have hLm:(L.map eSp).length = L.length:=List.length_map _
 refine ⟨false,?_⟩
 refine AFn.of_runs (qX 41) Tryz.func19 rfl rfl rfl gz ?_
 have hres:Tryz.f19.results.toList = [.tmp 2,.tmp 3]:=rfl
 have hrts:Tryz.f19.resultTypes.toList = [33,2]:=rfl
 simp only [qK,qA,eL,eI,eLL,eB,Nat.zero_add,Nat.reduceAdd]
 intro M
 refine qQ.of ?_
 refine gw82 (kk 7) ?_
 refine qQ.loop (β:=Nat) (γ:=Unit) (fun i => ⟨[(4,.c (.val (.sl 3 (L.map eSp)))),(5,.c (.own 5 i)),(6,.c (.val (.int i)))],[(5,.row 3 ((L.take i).map eSs) false)]⟩) (fun i => i ≤ L.length) (fun i => L.length - i)
  (fun _ => ⟨[(5,.c (.own 5 L.length))],[(5,.row 3 (L.map eSs) false)]⟩) (fun _ => True) 0 (Nat.zero_le _) ?_ ?_ ?_
 ·exact gw36 Y0
 ·intro i hi
  have hi:i ≤ L.length:=hi
  have hw:=qI (n:=i) (by omega)
  have hrl:((L.take i).map eSs).length = i:=by rw [List.length_map,List.length_take];omega
  by_cases hiL:i < L.length
  ·have i1:((i:Int) < (L.length:Int)) = True:=eq_true (by omega)
   have i2:((0:Int) ≤ (i:Int)) = True:=eq_true (by omega)
   obtain ⟨z,hz⟩:∃ z,z = L[i]:=⟨_,rfl⟩
   have hg:(L.map eSp)[i]? = some [.sl 1 (z.1.1.map eL),.sl 1 (z.1.2.map eL),.int z.2]:=by rw [qP hiL,hz];rfl
   have htk:(L.take (i + 1)).map eSs = (L.take i).map eSs ++ [[.sl 1 (z.1.1.map eL),.sl 1 (z.1.2.map eL),.int z.2]]:=by
    rw [hz,List.take_succ_eq_append_getElem hiL,List.map_append];rfl
   have hz2:=(hgood L[i] (List.getElem_mem _)).2
   rw [← hz] at hz2
   have hha:=(hz2.ha (by omega)).sm
   have t1:=eq_true hha.1
   have t2:=eq_true hha.2
   have q1:=jS (n:=i + 1) (by omega)
   have q2:=jO (n:=i + 1) (c:=56) (by omega) (by omega)
   refine gw83 (kk 7) (Y10 i1 i2 hg hLm hw hrl q1 q2 t1 t2) ?_
   refine qW.on (i + 1) ⟨hiL,by omega⟩ ?_
   rw [htk]
   exact gw6
  ·have i1:((i:Int) < (L.length:Int)) = False:=eq_false (by omega)
   obtain rfl:i = L.length:=by omega
   refine gw28 (kk 7) (Yp i1 hLm) ?_
   refine qW.out () trivial ?_
   rw [List.take_length]
   exact gw6
 ·rintro _ _
  refine gw28 (kk 7) Y0 ?_
  exact gw8
end
section
def eK (c:(List (List Int) × List Int) × Int):List D:=[.sl 1 (c.1.1.map eL),.sl 1 (c.1.2.map eI),.int c.2]
end
section
def coOf (t:List Int):List Cu × Int:=if lev8 t = true then (cutsL t,0) else ([],1)
theorem yX0 (t:List Int):AFn Tryz.prog 13 [eL t] (· = [.own 3 ((coOf t).1.map eK) true,.val (.int (coOf t).2)]):=by
 have hl:=qH0 t
 simp only [eL] at hl
 unfold coOf
 refine AFn.of_runs (qX 9) Tryz.func13 rfl rfl rfl gz ?_
 have hres:Tryz.f13.results.toList = [.tmp 2,.tmp 3]:=rfl
 have hrts:Tryz.f13.resultTypes.toList = [29,2]:=rfl
 simp only [qK,qA,eL,eI,eLL,eB,Nat.zero_add,Nat.reduceAdd]
 intro M
 refine qQ.of ?_
 by_cases h8:lev8 t = true
 ·rw [h8] at hl
  have hc:AFn Tryz.prog 58 [eL t] (· = [.own 3 ((cutsL t).map eK) true]):=a_cutsOf t (xE h8) (xG h8)
  simp only [eL] at hc
  rw [if_pos h8]
  refine gw84 (kk 4) ?_
  exact gw8
 ·have h8':lev8 t = false:=by simpa using h8
  rw [h8'] at hl
  rw [if_neg h8]
  refine gw78 (kk 4) ?_
  exact gw8
end
section
def txtF:Nat→List Int→List UInt8
 | 0,_ => []
 | n + 1,t => 91 :: ((brs t).flatMap (txtF n)) ++ [93]
def txtTo (n:Nat) (t:List Int) (k:Nat):List UInt8:=91 :: (((brs t).take k).flatMap (txtF n))
theorem txtTo_succ (n:Nat) (t:List Int) (k:Nat) (h:k < (brs t).length):txtTo n t (k + 1) = txtTo n t k ++ txtF n (brs t)[k]:=by
 unfold txtTo
 rw [List.take_succ_eq_append_getElem h,List.flatMap_append]
 simp
theorem txtTo_all (n:Nat) (t:List Int):txtTo n t (brs t).length ++ [93] = txtF (n + 1) t:=by
 unfold txtTo
 rw [List.take_of_length_le (Nat.le_refl _)]
 rfl
theorem flat_len (f:List Int→List UInt8):∀ l:List (List Int),(∀ b ∈ l,(f b).length = 2 * b.length)→(l.flatMap f).length = 2 * qJ l
 | [],_ => rfl
 | b :: l,h => by
  have h1:=h b (by simp)
  have h2:=flat_len f l (fun x hx => h x (by simp [hx]))
  rw [List.flatMap_cons,List.length_append,h1,h2]
  show _ = 2 * qJ (b :: l)
  simp only [qJ,List.map_cons,List.sum_cons];omega
theorem wQ:∀ (n:Nat) (t:List Int),qY t→t.length ≤ n→(txtF n t).length = 2 * t.length
 | 0,t,h,hn => by have:=h.pos;omega
 | n + 1,t,h,hn => by
  have h1:=flat_len (txtF n) (brs t) (fun b hb => wQ n b (jX h b hb) (by have:=yA h b hb;omega))
  have h2:=xB h
  show (91 :: ((brs t).flatMap (txtF n)) ++ [93]).length = _
  simp only [List.cons_append,List.length_cons,List.length_append,List.length_nil,h1]
  omega
theorem txtTo_len {n:Nat} {t:List Int} (h:qY t) (hn:t.length ≤ n + 1) (k:Nat):(txtTo n t k).length ≤ 2 * t.length:=by
 have h1:((brs t).take k).flatMap (txtF n) ++ ((brs t).drop k).flatMap (txtF n) = (brs t).flatMap (txtF n):=by
  rw [← List.flatMap_append,List.take_append_drop]
 have h2:=flat_len (txtF n) (brs t) (fun b hb => wQ n b (jX h b hb) (by have:=yA h b hb;omega))
 have h3:=xB h
 have h4:=congrArg List.length h1
 rw [List.length_append,h2] at h4
 unfold txtTo
 simp only [List.length_cons]
 omega
end
section
abbrev Kn:=List (List UInt8 × Int)
def keepN:Kn→List UInt8→Int→Kn
 | [],x,n => [(x,n)]
 | p :: L,x,n => if p.1 = x then (p.1,p.2 + n) :: L else p :: keepN L x n
def ctN (z:List UInt8) (L:Kn):Int:=(L.map fun p => if p.1 = z then p.2 else 0).sum
theorem kQ (z:List UInt8) (p:List UInt8 × Int) (L:Kn):ctN z (p :: L) = (if p.1 = z then p.2 else 0) + ctN z L:=by unfold ctN;rw [List.map_cons,List.sum_cons]
theorem ctN_app (z:List UInt8) (L M:Kn):ctN z (L ++ M) = ctN z L + ctN z M:=by unfold ctN;rw [List.map_append,List.sum_append]
theorem keepN_ct (z x:List UInt8) (n:Int):∀ L:Kn,ctN z (keepN L x n) = ctN z L + if x = z then n else 0
 | [] => by
  show ctN z [(x,n)] = ctN z [] + _
  rw [kQ]
  show (if x = z then n else 0) + 0 = 0 + (if x = z then n else 0)
  rw [Int.add_comm]
 | p :: L => by
  unfold keepN
  by_cases h:p.1 = x
  ·rw [if_pos h,kQ,kQ,h]
   by_cases hz:x = z
   ·simp only [if_pos hz];omega
   ·simp only [if_neg hz];omega
  ·rw [if_neg h,kQ,kQ,keepN_ct z x n L,Int.add_assoc]
theorem keepN_hit {x:List UInt8} {n:Int}:∀ {L:Kn} {i:Nat} (hi:i < L.length),(∀ j (hj:j < L.length),j < i→L[j].1 ≠ x)→L[i].1 = x→keepN L x n = L.set i (L[i].1,L[i].2 + n)
 | p :: L,0,_,_,h => by
  have h:p.1 = x:=h
  unfold keepN
  rw [if_pos h];rfl
 | p :: L,i + 1,hi,hj,h => by
  have h0:p.1 ≠ x:=hj 0 (by simp) (by omega)
  have ih:=keepN_hit (L:=L) (i:=i) (n:=n) (by simpa using hi) (fun j hjl hji => hj (j + 1) (by simpa using hjl) (by omega)) h
  unfold keepN
  rw [if_neg h0,ih];rfl
theorem keepN_miss {x:List UInt8} {n:Int}:∀ {L:Kn},(∀ p ∈ L,p.1 ≠ x)→keepN L x n = L ++ [(x,n)]
 | [],_ => rfl
 | p :: L,h => by
  unfold keepN
  rw [if_neg (h p (by simp)),keepN_miss fun q hq => h q (by simp [hq])];rfl
theorem qQ0 {x:List UInt8} {n:Int}:∀ {L:Kn} {p:List UInt8 × Int},p ∈ keepN L x n→p ∈ L ∨ (p.1 = x∧(p.2 = n ∨ ∃ q ∈ L,p.2 = q.2 + n))
 | [],p,h => by
  obtain rfl:=List.mem_singleton.1 h
  exact .inr ⟨rfl,.inl rfl⟩
 | q :: L,p,h => by
  unfold keepN at h
  split at h
  ·rename_i e
   rcases List.mem_cons.1 h with rfl|h
   ·exact .inr ⟨e,.inr ⟨q,by simp,rfl⟩⟩
   ·exact .inl (by simp [h])
  ·rcases List.mem_cons.1 h with rfl|h
   ·exact .inl (by simp)
   ·rcases qQ0 h with h|⟨h1,h2|⟨r,h2,h3⟩⟩
    ·exact .inl (by simp [h])
    ·exact .inr ⟨h1,.inl h2⟩
    ·exact .inr ⟨h1,.inr ⟨r,by simp [h2],h3⟩⟩
theorem keepN_nd {x:List UInt8} {n:Int}:∀ {L:Kn},(L.map (·.1)).Nodup→((keepN L x n).map (·.1)).Nodup
 | [],_ => by simp [keepN]
 | q :: L,h => by
  rw [List.map_cons,List.nodup_cons] at h
  unfold keepN
  split
  ·rw [List.map_cons,List.nodup_cons];exact h
  ·rename_i e
   rw [List.map_cons,List.nodup_cons]
   refine ⟨fun hm => ?_,keepN_nd h.2⟩
   obtain ⟨p,hp,e2⟩:=List.mem_map.1 hm
   rcases qQ0 hp with h1|⟨h1,_⟩
   ·exact h.1 (e2 ▸ List.mem_map_of_mem h1)
   ·exact e (e2 ▸ h1)
theorem keepN_len (x:List UInt8) (n:Int):∀ L:Kn,(keepN L x n).length ≤ L.length + 1
 | [] => by simp [keepN]
 | q :: L => by
  have:=keepN_len x n L
  unfold keepN
  split
  ·simp
  ·simp only [List.length_cons];omega
structure KnOk (k:Nat) (L:Kn):Prop where
 nd:(L.map (·.1)).Nodup
 len:L.length ≤ k
 bd:∀ p ∈ L,1 ≤ p.2∧p.2 ≤ 65536 * k
 txt:∀ p ∈ L,p.1.length ≤ 1000
theorem knOk_nil:KnOk 0 []:=⟨by simp,by simp,by simp,by simp⟩
theorem KnOk.keep {k:Nat} {L:Kn} (h:KnOk k L) {x:List UInt8} {n:Int} (hn:1 ≤ n∧n ≤ 65536) (hx:x.length ≤ 1000):KnOk (k + 1) (keepN L x n):=⟨keepN_nd h.nd,by have:=keepN_len x n L;have:=h.len;omega,fun p hp => by
 rcases qQ0 hp with h1|⟨_,h2|⟨q,h2,h3⟩⟩
 ·have:=h.bd p h1;omega
 ·omega
 ·have:=h.bd q h2;omega,fun p hp => by
 rcases qQ0 hp with h1|⟨h1,_⟩
 ·exact h.txt p h1
 ·rw [h1];exact hx⟩
theorem ctN_none {z:List UInt8}:∀ {L:Kn},(∀ p ∈ L,p.1 ≠ z)→ctN z L = 0
 | [],_ => rfl
 | p :: L,h => by
  rw [kQ,if_neg (h p (by simp)),ctN_none fun q hq => h q (by simp [hq])];rfl
theorem ctN_at:∀ {L:Kn},(L.map (·.1)).Nodup→∀ p ∈ L,ctN p.1 L = p.2
 | q :: L,h,p,hp => by
  rw [List.map_cons,List.nodup_cons] at h
  rw [kQ]
  rcases List.mem_cons.1 hp with rfl|hp
  ·rw [if_pos rfl,ctN_none (L:=L) fun r hr e => h.1 (List.mem_map.2 ⟨r,hr,e⟩),Int.add_zero]
  ·rw [if_neg (fun e => h.1 (List.mem_map.2 ⟨p,hp,e.symm⟩)),ctN_at h.2 p hp,Int.zero_add]
theorem kn_sub {k m:Nat} {L R:Kn} (hL:KnOk k L) (hR:KnOk m R) (h:∀ z,ctN z L = ctN z R):∀ p ∈ L,p ∈ R:=fun p hp => by
 have h1:=ctN_at hL.nd p hp
 rw [h] at h1
 have h2:=(hL.bd p hp).1
 by_cases hq:∃ q ∈ R,q.1 = p.1
 ·obtain ⟨q,hq,e⟩:=hq
  have h3:=ctN_at hR.nd q hq
  rw [e,h1] at h3
  have:q = p:=Prod.ext e h3.symm
  exact this ▸ hq
 ·have h4:ctN p.1 R = 0:=ctN_none fun q hqm e => hq ⟨q,hqm,e⟩
  omega
theorem jX0 {α β:Type} (f:α→β):∀ {L:List α},(L.map f).Nodup→L.Nodup
 | [],_ => List.nodup_nil
 | x :: L,h => by
  rw [List.map_cons,List.nodup_cons] at h
  exact List.nodup_cons.2 ⟨fun hm => h.1 (List.mem_map_of_mem hm),jX0 f h.2⟩
theorem nodup_le {α:Type} [DecidableEq α]:∀ {L R:List α},L.Nodup→(∀ x ∈ L,x ∈ R)→L.length ≤ R.length
 | [],_,_,_ => Nat.zero_le _
 | x :: L,R,h,hs => by
  rw [List.nodup_cons] at h
  have hx:=hs x (by simp)
  have h1:=nodup_le (L:=L) (R:=R.erase x) h.2 (fun y hy => (List.mem_erase_of_ne (fun e:y = x => h.1 (e ▸ hy))).2 (hs y (by simp [hy])))
  rw [List.length_erase_of_mem hx] at h1
  have:=List.length_pos_of_mem hx
  simp only [List.length_cons];omega
theorem kn_len {k m:Nat} {L R:Kn} (hL:KnOk k L) (hR:KnOk m R) (h:∀ z,ctN z L = ctN z R):L.length = R.length:=by
 have h1:=nodup_le (jX0 _ hL.nd) (kn_sub hL hR h)
 have h2:=nodup_le (jX0 _ hR.nd) (kn_sub hR hL fun z => (h z).symm)
 omega
def addN (L:Kn) (ps:Kn):Kn:=ps.foldl (fun L p => keepN L p.1 p.2) L
theorem addN_ct (z:List UInt8):∀ (ps L:Kn),ctN z (addN L ps) = ctN z L + ctN z ps
 | [],L => by show ctN z L = ctN z L + 0;omega
 | p :: ps,L => by
  show ctN z (addN (keepN L p.1 p.2) ps) = _
  rw [addN_ct z ps,keepN_ct,kQ,Int.add_assoc]
theorem wZ (L ps qs:Kn):addN L (ps ++ qs) = addN (addN L ps) qs:=List.foldl_append
theorem addN_snoc (L ps:Kn) (p:List UInt8 × Int):addN L (ps ++ [p]) = keepN (addN L ps) p.1 p.2:=by rw [wZ];rfl
theorem addN_ok:∀ {ps L:Kn} {k:Nat},KnOk k L→(∀ p ∈ ps,(1 ≤ p.2∧p.2 ≤ 65536)∧p.1.length ≤ 1000)→KnOk (k + ps.length) (addN L ps)
 | [],_,_,h,_ => h
 | p :: ps,L,k,h,hp => by
  obtain ⟨h1,h2⟩:=hp p (by simp)
  have:=addN_ok (ps:=ps) (h.keep h1 h2) fun q hq => hp q (List.mem_cons_of_mem _ hq)
  rw [List.length_cons,show k + (ps.length + 1) = k + 1 + ps.length by omega]
  exact this
def txF (f:List (List Int)):List UInt8:=f.flatMap fun t => if t = [] then [] else txtF 8 t
def key3 (a b c:List (List Int)):List UInt8:=txF a ++ [124] ++ txF b ++ [124] ++ txF c
theorem txF_len:∀ {f:List (List Int)},(∀ t ∈ f,t = [] ∨ (qY t∧t.length ≤ 8))→(txF f).length ≤ 2 * qJ f
 | [],_ => by simp [txF]
 | t :: f,h => by
  have ih:=txF_len (f:=f) fun x hx => h x (List.mem_cons_of_mem _ hx)
  have e:txF (t :: f) = (if t = [] then [] else txtF 8 t) ++ txF f:=rfl
  rw [e,List.length_append]
  have e2:qJ (t :: f) = t.length + qJ f:=by simp [qJ]
  rw [e2]
  rcases h t (by simp) with h1|⟨h1,h2⟩
  ·rw [if_pos h1];simp;omega
  ·have hp:=h1.pos
   rw [if_neg (by intro e;rw [e] at hp;simp at hp),wQ 8 t h1 h2];omega
def ShF (f:List (List Int)):Prop:=(∀ t ∈ f,t = [] ∨ (lev8 t = true∧canon t = t))∧qJ f ≤ 8∧f.length ≤ 9
theorem ShF.lev {f:List (List Int)} (h:ShF f):∀ t ∈ f,t = [] ∨ (qY t∧t.length ≤ 8):=fun t ht => (h.1 t ht).imp_right fun h => ⟨xE h.1,xG h.1⟩
theorem ShF.len {f:List (List Int)} (h:ShF f):(txF f).length ≤ 16:=by have:=txF_len h.lev;have:=h.2.1;omega
theorem key3_len {a b c:List (List Int)} (ha:ShF a) (hb:ShF b) (hc:ShF c):(key3 a b c).length ≤ 50:=by
 have:=ha.len;have:=hb.len;have:=hc.len
 unfold key3
 simp only [List.length_append,List.length_singleton];omega
end
section
theorem okF_sgl {T:List Int} (h:qY T) (hc:canon T = T):OkF [T]:=⟨fun x hx => by obtain rfl:=List.mem_singleton.1 hx;exact ⟨h,hc⟩,List.pairwise_singleton _ _⟩
def trk (t:List Int):List Cu:=if t = [] then [(([],[]),1)] else cutsL t
def ctbL (c:Cu) (L:List (Spl × Int)):Kn:=L.map fun z => (key3 z.1.1 z.1.2 [c.1.2],c.2 * z.2)
def ctbR (c:Cu) (L:List Cu):Kn:=L.map fun d => (key3 c.1.1 d.1.1 [d.1.2],c.2 * d.2)
def conL (L:List Cu):Kn:=L.flatMap fun c => ctbL c (cfOf c.1.1).1
def conR (L:List Cu):Kn:=L.flatMap fun c => ctbR c (trk c.1.2)
theorem ctN_flat {α:Type} (z:List UInt8) (g:α→Kn):∀ L:List α,ctN z (L.flatMap g) = (L.map fun a => ctN z (g a)).sum
 | [] => rfl
 | a :: L => by rw [List.flatMap_cons,ctN_app,List.map_cons,List.sum_cons,ctN_flat z g L]
theorem ctN_mul {α:Type} (z:List UInt8) (c:Int) (k:α→List UInt8) (n:α→Int):∀ L:List α,ctN z (L.map fun d => (k d,c * n d)) = c * (L.map fun d => n d * if k d = z then 1 else 0).sum
 | [] => by show (0:Int) = c * 0;omega
 | d :: L => by
  rw [List.map_cons,kQ,ctN_mul z c k n L,List.map_cons,List.sum_cons,Int.mul_add]
  by_cases h:k d = z
  ·simp only [if_pos h,Int.mul_one]
  ·simp only [if_neg h,Int.mul_zero]
def indF (z:List UInt8) (a b c:List (List Int)):Int:=if key3 a b c = z then 1 else 0
theorem indF_nil (z:List UInt8) (a b:List (List Int)):indF z a b [[]] = indF z a b []:=rfl
theorem headD_ind (z:List UInt8) (a b:List (List Int)) {f:List (List Int)} (h:f.length ≤ 1):indF z a b [f.headD []] = indF z a b f:=by
 match f,h with
 | [],_ => rfl
 | [_],_ => rfl
theorem wF_gath (F:Spl→Int) (f:List (List Int)):((gathS (prodS (f.map split))).map fun z => z.2 * F z.1).sum = wF F f:=gath_lin F _
theorem wF_gath1 (F:Spl→Int) (t:List Int):((gathS (split t)).map fun z => z.2 * F z.1).sum = wF F [t]:=by rw [gath_lin,wF_one]
theorem gath_th {t:List Int} (h:qY t) {z:Spl × Int} (hz:z ∈ gathS (split t)):OkF z.1.1∧OkF z.1.2∧qJ z.1.1 + qJ z.1.2 = t.length∧z.1.2.length ≤ 1∧1 ≤ z.2:=by
 obtain ⟨k1,_,k⟩:=qJ0 (kE _ (Nat.le_refl _) h) z hz
 obtain ⟨s,_,e⟩:=List.mem_map.1 ((jB (split t)).key z hz)
 refine ⟨⟨fun x hx => k.1 x (by simp [hx]),?_⟩,⟨fun x hx => k.1 x (by simp [hx]),?_⟩,k.2,gath_trunk t h z hz,k1⟩
 ·rw [← e];exact xF yL _
 ·rw [← e];exact xF yL _
theorem wF_nil' (F:Spl→Int):wF F [] = F ([],[]):=wF_nil F
theorem con_left (z:List UInt8) {t:List Int} (h:qY t) (h8:t.length ≤ 8):ctN z (conL (cutsL t)) = L3 (indF z) [canon t]:=by
 have hl:=yE h
 rw [← cuts_canon h]
 unfold conL cutsL
 rw [ctN_flat,List.map_map]
 show _ = wF (fun s => wF (fun u => indF z u.1 u.2 s.2) s.1) [canon t]
 rw [← wF_gath1]
 congr 1
 refine List.map_congr_left fun y hy => ?_
 obtain ⟨k1,_,k3,k4,_⟩:=gath_th hl hy
 rw [xN h] at k3
 show ctN z (ctbL (cutS y) (cfOf y.1.1).1) = _
 unfold ctbL
 rw [ctN_mul]
 show y.2 * _ = y.2 * _
 congr 1
 have e:(cfOf y.1.1).1 = gathS (prodS (y.1.1.map split)):=by unfold cfOf;rw [if_pos (okF_forB k1 (by omega))]
 rw [e,← wF_gath]
 congr 1
 refine List.map_congr_left fun u _ => ?_
 show u.2 * indF z u.1.1 u.1.2 [y.1.2.headD []] = _
 rw [headD_ind z _ _ k4]
theorem con_right (z:List UInt8) {t:List Int} (h:qY t):ctN z (conR (cutsL t)) = R3 (indF z) [canon t]:=by
 have hl:=yE h
 rw [← cuts_canon h]
 unfold conR cutsL
 rw [ctN_flat,List.map_map]
 show _ = wF (fun s => wF (fun u => indF z s.1 u.1 u.2) s.2) [canon t]
 rw [← wF_gath1]
 congr 1
 refine List.map_congr_left fun y hy => ?_
 obtain ⟨_,k2,_,k4,_⟩:=gath_th hl hy
 show ctN z (ctbR (cutS y) (trk (y.1.2.headD []))) = _
 unfold ctbR
 rw [ctN_mul]
 show y.2 * _ = y.2 * _
 congr 1
 obtain ⟨⟨cr,tr⟩,n⟩:=y
 match tr,k4,k2 with
 | [],_,_ =>
  rw [wF_nil']
  show 1 * indF z cr [] [[]] + 0 = indF z cr [] []
  rw [indF_nil];omega
 | [T],_,k2 =>
  have hT:=(k2.1 T (by simp)).1
  have hp:=hT.pos
  have e:trk T = cutsL T:=by unfold trk;rw [if_neg (by intro e;rw [e] at hp;simp at hp)]
  show ((trk T).map fun d => d.2 * indF z cr d.1.1 [d.1.2]).sum = _
  rw [e]
  unfold cutsL
  rw [List.map_map,← wF_gath1]
  congr 1
  refine List.map_congr_left fun u hu => ?_
  obtain ⟨_,_,_,j4,_⟩:=gath_th hT hu
  show u.2 * indF z cr u.1.1 [u.1.2.headD []] = _
  rw [headD_ind z _ _ j4]
theorem con_same {t:List Int} (h:qY t) (h8:t.length ≤ 8) (z:List UInt8):ctN z (conL (cutsL t)) = ctN z (conR (cutsL t)):=by
 rw [con_left z h h8,con_right z h]
 exact coassoc _ (okF_sgl (yE h) (kH h)) _
theorem shF_ok {f:List (List Int)} (h:OkF f) (h8:qJ f ≤ 8):ShF f:=⟨fun t ht => .inr ⟨lev8_mk (h.1 t ht).1 (by have:=yX ht;omega),(h.1 t ht).2⟩,h8,by have:=xM (f:=f) (fun b hb => (h.1 b hb).1);omega⟩
theorem shF_head {f:List (List Int)} (h:OkF f) (h8:qJ f ≤ 8) (h1:f.length ≤ 1):ShF [f.headD []]:=by
 match f,h1 with
 | [],_ => exact ⟨fun t ht => .inl (by simpa using ht),by simp [qJ],by simp⟩
 | [T],_ => exact shF_ok h h8
end
section
structure ThZ (c:Cu):Prop where
 cf:(cfOf c.1.1).2 = 0
 cs:qJ c.1.1 ≤ 8
 cl:c.1.1.length ≤ 8
 shC:ShF c.1.1
 shT:ShF [c.1.2]
 tr:c.1.2 = [] ∨ (coOf c.1.2 = (cutsL c.1.2,0)∧c.1.2 ≠ [])
 ln:(cfOf c.1.1).1.length ≤ 256
 lt:(trk c.1.2).length ≤ 256
 aL:∀ z ∈ (cfOf c.1.1).1,ShF z.1.1∧ShF z.1.2∧1 ≤ c.2 * z.2∧c.2 * z.2 ≤ 65536
 aR:∀ d ∈ trk c.1.2,ShF d.1.1∧ShF [d.1.2]∧1 ≤ c.2 * d.2∧c.2 * d.2 ≤ 65536
theorem mul_th {a b:Int} (h1:1 ≤ a∧a ≤ 256) (h2:1 ≤ b∧b ≤ 256):1 ≤ a * b∧a * b ≤ 65536:=by
 have h3:=Int.mul_le_mul (a:=a) (b:=b) (c:=256) (d:=256) h1.2 h2.2 (by omega) (by decide)
 have h4:=Int.mul_le_mul (a:=1) (b:=1) (c:=a) (d:=b) h1.1 h2.1 (by decide) (by omega)
 omega
theorem cutsL_th {t:List Int} (h:qY t) (h8:t.length ≤ 8):(cutsL t).length ≤ 256∧∀ c ∈ cutsL t,(1 ≤ c.2∧c.2 ≤ 256)∧OkF c.1.1∧qJ c.1.1 ≤ 8∧(c.1.2 = [] ∨ (qY c.1.2∧canon c.1.2 = c.1.2∧c.1.2.length ≤ 8))∧ShF [c.1.2]:=by
 have h0:=(jB (split t)).len
 rw [List.length_map] at h0
 have h1:=split_len8 h h8
 refine ⟨by unfold cutsL;rw [List.length_map];omega,fun c hc => ?_⟩
 unfold cutsL at hc
 obtain ⟨z,hz,rfl⟩:=List.mem_map.1 hc
 obtain ⟨k1,k2,k3,k4,k5⟩:=gath_th h hz
 obtain ⟨_,g2,_⟩:=qJ0 (kE _ (Nat.le_refl _) h) z hz
 refine ⟨⟨k5,by show z.2 ≤ 256;omega⟩,k1,by show qJ z.1.1 ≤ 8;omega,?_,shF_head k2 (by omega) k4⟩
 show z.1.2.headD [] = [] ∨ _
 match hz2:z.1.2,k4 with
 | [],_ => exact .inl rfl
 | [T],_ =>
  have hT:=k2.1 T (by rw [hz2];simp)
  have hl:qJ z.1.2 = T.length:=by rw [hz2];simp [qJ]
  exact .inr ⟨by show qY (z.1.2.headD []);rw [hz2];exact hT.1,by show canon (z.1.2.headD []) = z.1.2.headD [];rw [hz2];exact hT.2,by show (z.1.2.headD []).length ≤ 8;rw [hz2];show T.length ≤ 8;omega⟩
theorem th_all {t:List Int} (h:qY t) (h8:t.length ≤ 8):∀ c ∈ cutsL t,ThZ c:=fun c hc => by
 obtain ⟨_,hA⟩:=cutsL_th h h8
 obtain ⟨k1,k2,k3,k4,k5⟩:=hA c hc
 have hb:=okF_forB k2 k3
 have ec:cfOf c.1.1 = (gathS (prodS (c.1.1.map split)),0):=by unfold cfOf;rw [if_pos hb]
 obtain ⟨_,g2,g3⟩:=cf_good hb
 have hz:∀ z ∈ gathS (prodS (c.1.1.map split)),OkF z.1.1∧OkF z.1.2∧qJ z.1.1 + qJ z.1.2 = qJ c.1.1:=fun z hz => by
  obtain ⟨s,hs,e⟩:=List.mem_map.1 ((jB (prodS (c.1.1.map split))).key z hz)
  have k:=cut_ok (kJ hb) s hs
  rw [e] at k
  exact ⟨k.c,k.t,k.n⟩
 have hlt:(trk c.1.2).length ≤ 256:=by
  unfold trk
  rcases k4 with e|⟨e1,e2,e3⟩
  ·rw [if_pos e];decide
  ·rw [if_neg (by have:=e1.pos;intro e;rw [e] at this;simp at this)]
   exact (cutsL_th e1 e3).1
 refine ⟨by rw [ec],k3,by have:=xM (f:=c.1.1) (fun b hb => (k2.1 b hb).1);omega,shF_ok k2 k3,k5,?_,by rw [ec];exact g2,hlt,fun z hz' => ?_,fun d hd => ?_⟩
 ·rcases k4 with e|⟨e1,e2,e3⟩
  ·exact .inl e
  ·refine .inr ⟨by unfold coOf;rw [if_pos (lev8_mk e1 e3)],fun e => ?_⟩
   have:=e1.pos;rw [e] at this;simp at this
 ·rw [ec] at hz'
  obtain ⟨j1,j2,j3⟩:=hz z hz'
  obtain ⟨j4,j5⟩:=(g3 z hz').1
  exact ⟨shF_ok j1 (by omega),shF_ok j2 (by omega),mul_th k1 ⟨j4,j5⟩⟩
 ·unfold trk at hd
  rcases k4 with e|⟨e1,e2,e3⟩
  ·rw [if_pos e] at hd
   obtain rfl:=List.mem_singleton.1 hd
   exact ⟨shF_ok okF_nil (by simp [qJ]),shF_head okF_nil (by simp [qJ]) (by simp),mul_th k1 (by decide)⟩
  ·rw [if_neg (by have:=e1.pos;intro e;rw [e] at this;simp at this)] at hd
   obtain ⟨j1,j2,j3,j4,j5⟩:=(cutsL_th e1 e3).2 d hd
   exact ⟨shF_ok j2 j3,j5,mul_th k1 j1⟩
theorem gath_has {L:List Spl} {s:Spl} (hs:s ∈ L):∃ z ∈ gathS L,z.1 = nrmS s:=by
 have h:=((jB L).2.mem_iff (a:=nrmS s)).2 (List.mem_map_of_mem hs)
 unfold expN at h
 obtain ⟨z,hz,h⟩:=List.mem_flatMap.1 h
 exact ⟨z,hz,(List.eq_of_mem_replicate h).symm⟩
def pcF (f:List (List Int)):Nat:=f.foldl (fun n t => n * (split t).length) 1
theorem pcF_go (f:List (List Int)):∀ n:Nat,f.foldl (fun n t => n * (split t).length) n = n * pcF f:=by
 induction f with
 | nil => intro n;show n = n * 1;omega
 | cons t f ih =>
  intro n
  have e:pcF (t :: f) = (split t).length * pcF f:=by
   show List.foldl _ (1 * (split t).length) f = _
   rw [ih,Nat.one_mul]
  rw [List.foldl_cons,ih,e,Nat.mul_assoc]
theorem foldS_ln:∀ (f:List (List Int)) (A:List Spl),(foldS A (f.map split)).length = A.length * pcF f
 | [],A => by show A.length = A.length * 1;omega
 | t :: f,A => by
  show (foldS (A.flatMap fun s => (split t).map (catS s)) (f.map split)).length = _
  have e:pcF (t :: f) = (split t).length * pcF f:=by
   show List.foldl _ (1 * (split t).length) f = _
   rw [pcF_go,Nat.one_mul]
  rw [foldS_ln f,e,← Nat.mul_assoc]
  congr 1
  rw [List.length_flatMap]
  induction A with
  | nil => simp
  | cons a A ih => rw [List.map_cons,List.sum_cons,ih,List.length_map,List.length_cons,Nat.succ_mul];omega
theorem prodS_len (f:List (List Int)):(prodS (f.map split)).length = pcF f:=by
 have:=foldS_ln f [([],[])]
 rw [List.length_singleton,Nat.one_mul] at this
 exact this
theorem split_pos {t:List Int} (h:qY t):1 ≤ (split t).length:=by
 rw [xW h,List.length_append];simp
theorem pcF_pos:∀ {f:List (List Int)},(∀ t ∈ f,qY t)→1 ≤ pcF f
 | [],_ => Nat.le_refl _
 | t :: f,h => by
  have e:pcF (t :: f) = (split t).length * pcF f:=by
   show List.foldl _ (1 * (split t).length) f = _
   rw [pcF_go,Nat.one_mul]
  rw [e]
  exact Nat.mul_pos (split_pos (h t (by simp))) (pcF_pos fun x hx => h x (by simp [hx]))
theorem pcF_succ {f:List (List Int)} {i:Nat} (h:i < f.length):pcF (f.take (i + 1)) = pcF (f.take i) * (split f[i]).length:=by
 unfold pcF
 rw [List.take_succ_eq_append_getElem h,List.foldl_append];rfl
theorem pcF_take {f:List (List Int)} (h:∀ t ∈ f,qY t) (i:Nat):pcF (f.take i) ≤ pcF f:=by
 have e:pcF f = pcF (f.take i) * pcF (f.drop i):=by
  rw [← pcF_go]
  show _ = List.foldl _ (List.foldl _ 1 (f.take i)) _
  rw [← List.foldl_append,List.take_append_drop]
  rfl
 rw [e]
 exact Nat.le_mul_of_pos_right _ (pcF_pos fun t ht => h t (List.mem_of_mem_drop ht))
theorem cuts_two {t:List Int} (h:qY t):2 ≤ (cutsL t).length:=by
 have h1:([canon t],[]) ∈ split t:=by rw [xW h];simp
 have h2:∃ s ∈ split t,s.2 ≠ []:=by
  have hp:=pcF_pos (f:=brs t) (fun b hb => jX h b hb)
  rw [← prodS_len] at hp
  obtain ⟨s,hs⟩:=List.exists_mem_of_length_pos (Nat.lt_of_lt_of_le Nat.zero_lt_one hp)
  refine ⟨(s.1,[canon (qT s.2)]),?_,by simp⟩
  rw [xW h]
  exact List.mem_append_left _ (List.mem_map.2 ⟨s,hs,rfl⟩)
 obtain ⟨s,hs,hs2⟩:=h2
 obtain ⟨y,hy,e1⟩:=gath_has h1
 obtain ⟨z,hz,e2⟩:=gath_has hs
 unfold cutsL
 rw [List.length_map]
 have hn:(nrmS s).2 ≠ []:=fun e => by
  have:(sortC cmpT s.2).length = 0:=by rw [show sortC cmpT s.2 = [] from e];rfl
  rw [kV] at this
  exact hs2 (List.eq_nil_of_length_eq_zero this)
 match hG:gathS (split t),hy,hz with
 | [],hy,_ => cases hy
 | [x],hy,hz =>
  obtain rfl:=List.mem_singleton.1 hy
  obtain rfl:=List.mem_singleton.1 hz
  rw [e2] at e1
  exact absurd (congrArg Prod.snd e1) hn
 | _ :: _ :: _,_,_ => simp
def totZ (L:List (Spl × Int)) (k:Nat):Int:=((L.take k).map fun z => z.2).sum
theorem totZ_succ {L:List (Spl × Int)} {k:Nat} (h:k < L.length):totZ L (k + 1) = totZ L k + L[k].2:=by
 unfold totZ
 rw [List.take_succ_eq_append_getElem h,List.map_append,List.sum_append];simp
theorem totZ_bd {L:List (Spl × Int)} (h:∀ z ∈ L,1 ≤ z.2∧z.2 ≤ 256):∀ k,k ≤ L.length→0 ≤ totZ L k∧totZ L k ≤ 256 * k
 | 0,_ => by simp [totZ]
 | k + 1,hk => by
  have ih:=totZ_bd h k (by omega)
  have hb:=h L[k] (List.getElem_mem _)
  rw [totZ_succ (by omega)];omega
theorem totZ_all {f:List (List Int)} (h:forB f = true):totZ (cfOf f).1 (cfOf f).1.length = (pcF f:Int):=by
 have ec:cfOf f = (gathS (prodS (f.map split)),0):=by unfold cfOf;rw [if_pos h]
 have hg:=gath_lin (fun _ => 1) (prodS (f.map split))
 rw [ec]
 unfold totZ
 rw [List.take_length,← prodS_len]
 have e1:(gathS (prodS (f.map split))).map (fun z => z.2 * 1) = (gathS (prodS (f.map split))).map fun z => z.2:=List.map_congr_left fun z _ => Int.mul_one _
 rw [e1] at hg
 show ((gathS (prodS (f.map split))).map fun z => z.2).sum = _
 rw [hg]
 generalize prodS (f.map split) = P
 induction P with
 | nil => rfl
 | cons p P ih => rw [List.map_cons,List.sum_cons,ih,List.length_cons];omega
structure ThF (f:List (List Int)):Prop where
 ln:(cfOf f).1.length ≤ 256
 z:∀ z ∈ (cfOf f).1,(1 ≤ z.2∧z.2 ≤ 256)∧qJ z.1.1 + qJ z.1.2 = qJ f
 pc:pcF f ≤ 256
 cc:∀ t ∈ f,ccOf t = (((split t).length:Int),0)
 zl:∀ z ∈ (cfOf f).1,z.1.1.length ≤ 8∧z.1.2.length ≤ 8
 lv:∀ t ∈ f,qY t
 sl:qJ f ≤ 8∧f.length ≤ 8
theorem th_for {f:List (List Int)} (h:forB f = true):ThF f:=by
 have ec:cfOf f = (gathS (prodS (f.map split)),0):=by unfold cfOf;rw [if_pos h]
 obtain ⟨g1,g2,g3⟩:=cf_good h
 refine ⟨by rw [ec];exact g2,fun z hz => ?_,by rw [← prodS_len];exact g1,fun t ht => ?_,fun z hz => ?_,kJ h,?_⟩
 ·rw [ec] at hz
  exact ⟨(g3 z hz).1,(g3 z hz).2.2⟩
 ·have h2:=kJ h t ht
  have h3:=(kG h).1
  have h4:=yX ht
  unfold ccOf
  rw [if_pos (lev8_mk h2 (by omega))]
 ·rw [ec] at hz
  have h3:=(kG h).1
  obtain ⟨k1,k2⟩:=(g3 z hz).2
  have j1:=xM (f:=z.1.1) fun b hb => (k1 b (by simp [hb])).1
  have j2:=xM (f:=z.1.2) fun b hb => (k1 b (by simp [hb])).1
  omega
 ·have h3:=(kG h).1
  have h4:=xM (f:=f) fun b hb => kJ h b hb
  exact ⟨h3,by omega⟩
theorem ctbL_bd {c:Cu} (h:ThZ c):∀ p ∈ ctbL c (cfOf c.1.1).1,(1 ≤ p.2∧p.2 ≤ 65536)∧p.1.length ≤ 1000:=fun p hp => by
 obtain ⟨z,hz,rfl⟩:=List.mem_map.1 hp
 obtain ⟨a1,a2,a3⟩:=h.aL z hz
 exact ⟨a3,Nat.le_trans (key3_len a1 a2 h.shT) (by decide)⟩
theorem ctbR_bd {c:Cu} (h:ThZ c):∀ p ∈ ctbR c (trk c.1.2),(1 ≤ p.2∧p.2 ≤ 65536)∧p.1.length ≤ 1000:=fun p hp => by
 obtain ⟨d,hd,rfl⟩:=List.mem_map.1 hp
 obtain ⟨a1,a2,a3⟩:=h.aR d hd
 exact ⟨a3,Nat.le_trans (key3_len h.shC a1 a2) (by decide)⟩
theorem con_succL {L:List Cu} {i:Nat} (h:i < L.length):conL (L.take (i + 1)) = conL (L.take i) ++ ctbL L[i] (cfOf L[i].1.1).1:=by
 unfold conL
 rw [List.take_succ_eq_append_getElem h,List.flatMap_append];simp
theorem con_succR {L:List Cu} {i:Nat} (h:i < L.length):conR (L.take (i + 1)) = conR (L.take i) ++ ctbR L[i] (trk L[i].1.2):=by
 unfold conR
 rw [List.take_succ_eq_append_getElem h,List.flatMap_append];simp
structure ThI (i:Nat) (l r:Kn):Prop where
 kl:KnOk (256 * i) l
 kr:KnOk (256 * i) r
theorem KnOk.mono {k m:Nat} {L:Kn} (h:KnOk k L) (hkm:k ≤ m):KnOk m L:=⟨h.nd,Nat.le_trans h.len hkm,fun p hp => ⟨(h.bd p hp).1,by have:=(h.bd p hp).2;omega⟩,h.txt⟩
theorem th_step {L:List Cu} (hL:∀ c ∈ L,ThZ c):∀ i,i ≤ L.length→ThI i (addN [] (conL (L.take i))) (addN [] (conR (L.take i)))
 | 0,_ => ⟨knOk_nil,knOk_nil⟩
 | i + 1,h => by
  obtain ⟨h1,h2⟩:=th_step hL i (by omega)
  have hz:=hL L[i] (List.getElem_mem _)
  rw [con_succL (by omega),con_succR (by omega),wZ,wZ]
  refine ⟨(addN_ok h1 (ctbL_bd hz)).mono ?_,(addN_ok h2 (ctbR_bd hz)).mono ?_⟩
  ·have:(ctbL L[i] (cfOf L[i].1.1).1).length = (cfOf L[i].1.1).1.length:=List.length_map _
   have:=hz.ln;omega
  ·have:(ctbR L[i] (trk L[i].1.2)).length = (trk L[i].1.2).length:=List.length_map _
   have:=hz.lt;omega
theorem th_same {t:List Int} (h:qY t) (h8:t.length ≤ 8):(addN [] (conL (cutsL t))).length = (addN [] (conR (cutsL t))).length∧∀ p ∈ addN [] (conL (cutsL t)),p ∈ addN [] (conR (cutsL t)):=by
 obtain ⟨h1,h2⟩:=th_step (th_all h h8) (cutsL t).length (Nat.le_refl _)
 rw [List.take_length] at h1 h2
 have hc:∀ z,ctN z (addN [] (conL (cutsL t))) = ctN z (addN [] (conR (cutsL t))):=fun z => by
  rw [addN_ct,addN_ct,con_same h h8]
 exact ⟨kn_len h1 h2 hc,kn_sub h1 h2 hc⟩
end
section
section
variable {P:Program}
theorem run_append_blk (w:World) (base:Nat) (t u ty e:TypeId) (i:TypeInfo) (ht:P.underlying t = some (.slice e)) (hu:P.underlying u = some .string) (hi:P.info? e = some i) (hz:i.zero = some (.int .u8 0))
  (hsize:i.size = 1) (hby:i.bytes = 1) (v:Value) (n:Nat) (xs:List Value) (hown:w.ownsRowF base e 1 v n xs) (s:ByteArray)
  (h63:n + s.size ≤ maxLen) (hbytes:n + s.size ≤ 140737488355328) (hbase:base ≤ w.heap.size) :
  ∃ v' w',(Builtin.append_ #[t,u] ty #[v,.string s]).run P w = .ok v' w'∧w'.ownsRowF base e 1 v' (n + s.size) (xs ++ Lib.strCells s)∧w.grownBy w' v.ownBlock ∧
   (v'.ownBlock = v.ownBlock ∨ ∃ k,v'.ownBlock = some k∧w.heap.size ≤ k):=by
 obtain ⟨v',w',h1,h2,h3,h4⟩:=Lib.run_append_own_stringF (P:=P) w base t u ty e i ht hu hi hz hsize hby v n xs hown s h63 hbytes hbase
 refine ⟨v',w',h1,h2,h3,?_⟩
 rcases hown.2 with ⟨rfl,rfl⟩|⟨g,cap,cur,fz,rfl,hbg,hg,hfz,hnc,hcm,hcs,htake⟩
 ·obtain ⟨v2,w2,k1,k2,k3,k4⟩:=Lib.run_append_own_stringF (P:=P) w w.heap.size t u ty e i ht hu hi hz hsize hby (.slice none 0 0) 0 xs ⟨hown.1,.inl ⟨rfl,rfl⟩⟩ s h63 hbytes (Nat.le_refl _)
  rw [h1] at k1
  cases k1
  rcases k2.2 with ⟨rfl,_⟩|⟨g',cap',cur',fz',rfl,hb',_⟩
  ·exact .inl rfl
  ·exact .inr ⟨g',rfl,hb'⟩
 ·have hxl:xs.length = n:=by simpa using hown.1
  by_cases hroom:n + s.size ≤ cap
  ·have hcs':cur.size = cap:=by simpa using hcs
   have hr:=Lib.run_append_room_stringF (P:=P) w t u ty e i ht hu hi hsize g n cap cur fz hg (by simpa using hfz) s hroom (by omega)
   rw [h1] at hr
   cases hr
   exact .inl rfl
  ·have hr:=Lib.run_append_grow_string (P:=P) w t u ty e i (.int .u8 0) ht hu hi hz ⟨g,0,none⟩ n cap xs (by rw [hsize];simpa using hxl) (hown.cells (g:=g) rfl) s (by omega) (by have:=h63;simp only [maxLen] at this;omega) (by rw [hby];exact growslice_fits (by omega) (by omega))
   rw [h1] at hr
   cases hr
   exact .inr ⟨_,rfl,Nat.le_refl _⟩
theorem wpList_append_blk {w:World} {ops:Array Oper} {rest:List Oper} {o:Oper} {a:Act} {Q:Exit→Act→World→Prop} (hgd:o.guard = none) (sl x:Operand) (t u:TypeId)
  (ho:o.op = .call { callee:=.builtin .append,args:=#[sl,x],argTypes:=#[t,u] })
  (base:Nat) (e:TypeId) (i:TypeInfo) (ht:P.underlying t = some (.slice e)) (hu:P.underlying u = some .string) (hi:P.info? e = some i) (hz:i.zero = some (.int .u8 0))
  (hsize:i.size = 1) (hby:i.bytes = 1)
  (v:Value) (n:Nat) (xs:List Value) (hs:a.eval sl = v) (hown:w.ownsRowF base e 1 v n xs) (s:ByteArray) (hx:a.eval x = .string s)
  (h63:n + s.size ≤ maxLen) (hbytes:n + s.size ≤ 140737488355328) (hbase:base ≤ w.heap.size)
  (h:∀ v' w',w'.ownsRowF base e 1 v' (n + s.size) (xs ++ Lib.strCells s)→w.grownBy w' v.ownBlock→(v'.ownBlock = v.ownBlock ∨ ∃ k,v'.ownBlock = some k∧w.heap.size ≤ k)→wpList P ops Q rest (a.put o.dst v') w'):wpList P ops Q (o :: rest) a w:=by
 refine wpList_plain hgd fun K hK => ?_
 obtain ⟨v',w',hr,h2,h3,h4⟩:=run_append_blk (P:=P) w base t u o.type e i ht hu hi hz hsize hby v n xs hown s h63 hbytes hbase
 unfold Oper.wp execOp
 simp only [ho,resolve,invoke,builtin,Sem.run_bind,Sem.run_pure,Result.andThen_ok,List.map_toArray,List.map_cons,List.map_nil,hs,hx,hr]
 exact hK _ _ (h v' w' h2 h3 h4)
end
def yK (T e:TypeId) (B b lo hi:Nat) (p:Value) (bs:List Value) (w:World):Prop :=
 B ≤ b∧∃ v,w.heap[b]? = some (.cells #[p,v] T (0,0))∧w.ownsRowF B e 1 v bs.length bs∧v.ownBlock ≠ some b∧∀ k,v.ownBlock = some k→k < lo ∨ hi ≤ k
theorem yK.toF {T e:TypeId} {B b lo hi:Nat} {p:Value} {bs:List Value} {w:World} (h:yK T e B b lo hi p bs w):Lib.BuilderAtF T e B b p bs w :=
 let ⟨h1,v,h2,h3,h4,_⟩:=h;⟨h1,v,h2,h3,h4⟩
theorem yK.ofF {T e:TypeId} {B b hi:Nat} {p:Value} {bs:List Value} {w:World} (h:Lib.BuilderAtF T e B b p bs w):yK T e B b w.heap.size hi p bs w :=
 let ⟨h1,v,h2,h3,h4⟩:=h;⟨h1,v,h2,h3,h4,fun k hk => .inl (h3.lt k hk).2⟩
def BKept (b lo hi:Nat) (w w':World):Prop:=w.heap.size ≤ w'.heap.size∧∀ k,lo ≤ k→k < hi→k < w.heap.size→k ≠ b→w'.heap[k]? = w.heap[k]?
theorem yK.below {T e:TypeId} {B b lo hi:Nat} {p:Value} {bs:List Value} {w w':World} (h:yK T e B b lo hi p bs w) (hb:Below w.heap.size w w'):yK T e B b lo hi p bs w':=by
 obtain ⟨h1,v,h2,h3,h4,h5⟩:=h
 have hlt:b < w.heap.size:=(Array.getElem?_eq_some_iff.1 h2).1
 refine ⟨h1,v,(hb.block b hlt).trans h2,?_,h4,h5⟩
 refine ⟨h3.1,?_⟩
 rcases h3.2 with hn|⟨g,cap,cur,fz,rfl,hbg,hgg,rest⟩
 ·exact .inl hn
 ·exact .inr ⟨g,cap,cur,fz,rfl,hbg,(hb.block g (Array.getElem?_eq_some_iff.1 hgg).1).trans hgg,rest⟩
end
end Go.Proofs.YtedgfkpfhonlpaaGreat

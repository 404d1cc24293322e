/- Lemmas (11). -/
import Derived.Test.YtgngidchldajhaaGreatZA2
import Derived.Test.YtgngidchldajhaaGreatZA6
import Derived.Test.YtgngidchldajhaaGreatZA7
import Derived.Test.YtgngidchldajhaaGreatZA10
set_option linter.unusedSimpArgs false
set_option linter.unusedVariables false
namespace Go.Proofs.YtgngidchldajhaaGreat
open Go.RowKit
section
variable {α:Type} (f g:α→List (List D)) (n:α→Int)
def e3 (x:α):List D:=[.sl 1 (f x),.sl 1 (g x),.int (n x)]
def e3T (q:α × (List Nat × List Nat)):List D:=[.tag q.2.1 (.sl 1 (f q.1)),.tag q.2.2 (.sl 1 (g q.1)),.int (n q.1)]
def bl3 (q:α × (List Nat × List Nat)):List Nat:=q.2.1 ++ q.2.2
theorem tag_mk3:∀ (zs:List (α × (List Nat × List Nat))),TagL ((zs.map (·.1)).map (e3 f g n)) (zs.map (e3T f g n)) ((zs.map bl3).flatten)
 | [] => ⟨rfl,rfl⟩
 | z :: zs => ⟨_,_,bl3 z,_,rfl,rfl,⟨_,_,z.2.1,z.2.2,rfl,rfl,.inl rfl,⟨_,_,z.2.2,[],rfl,(List.append_nil _).symm,.inl rfl,⟨_,[],[],[],rfl,rfl,.inr ⟨rfl,rfl,rfl⟩,rfl,rfl⟩⟩⟩,tag_mk3 zs⟩
theorem tag_rows3:∀ {L:List α} {xs':List (List D)} {F:List Nat},TagL (L.map (e3 f g n)) xs' F→PlainL (L.map (e3 f g n)) xs'→∃ zs:List (α × (List Nat × List Nat)),L = zs.map (·.1)∧xs' = zs.map (e3T f g n)∧F = (zs.map bl3).flatten
 | [],xs',F,⟨h1,h2⟩,_ => ⟨[],rfl,h1,h2⟩
 | p :: L,xs',F,⟨y,ys,G,H,h1,h2,h3,h4⟩,⟨y',ys',p1,p2,p3⟩ => by
  obtain ⟨e1,e2⟩:y = y'∧ys = ys':=by rw [h1] at p1;simpa using p1
  subst e1;subst e2
  obtain ⟨zs,e1,e2,e3'⟩:=tag_rows3 h4 p3
  obtain ⟨y0,ys0,G0,H0,k1,k2,k3,y1,ys1,G1,H1,k4,k5,k6,y2,ys2,G2,H2,m4,m5,m6,m7,m8⟩:=h3
  obtain ⟨x0,xs0,a1,_,x1,xs1,a2,_,x2,xs2,a3,a4,_⟩:=p2
  obtain ⟨b1,b2⟩:y0 = x0∧ys0 = xs0:=by rw [k1] at a1;simpa using a1
  subst b1;subst b2
  obtain ⟨b1,b2⟩:y1 = x1∧ys1 = xs1:=by rw [k4] at a2;simpa using a2
  subst b1;subst b2
  obtain ⟨b1,b2⟩:y2 = x2∧ys2 = xs2:=by rw [m4] at a3;simpa using a3
  subst b1;subst b2
  have hy2:=a4 rfl
  subst m7;subst m8
  have hG2:G2 = []:=by
   rcases m6 with m6|⟨_,_,m6⟩
   ·rw [m6] at hy2;cases hy2
   ·exact m6
  subst hG2;subst hy2
  rcases k3 with rfl|⟨k3,_⟩
  ·rcases k6 with rfl|⟨k6,_⟩
   ·exact ⟨(p,(G0,G1)) :: zs,by rw [e1];rfl,by rw [h1,k1,k4,m4,e2];rfl,by rw [h2,k2,k5,m5,e3'];simp [bl3]⟩
   ·cases k6
  ·cases k3
end
abbrev Cu:=(List (List Int) × List Int) × Int
def eCu:Cu→List D:=e3 (fun c:Cu => c.1.1.map eL) (fun c => c.1.2.map eI) (·.2)
def cutS (z:Spl × Int):Cu:=((z.1.1,z.1.2.headD []),z.2)
def cutsL (t:List Int):List Cu:=(gathS (split t)).map cutS
section
variable {P:Program} {cfg:Cfg} {M:Nat→Prop} {ops:Array Oper} {s:St} {w0:W0} {w:World} {Ok:Nat→Prop} {N:Nat} {σ:Asg} {a:Act} {fs:List Fr} {Q:Exit→St→Prop}
theorem ROps.nilA {l:List Oper} {Q:St→Prop} {r k:Nat} {pre post:List AC} (hk:0 < k) (hr:look r s.regs = some (.agg (pre ++ .nil :: post)))
  (h:ROps P cfg M ops l Q ⟨insR r (.agg (pre ++ .val (.tag [] (.sl k [])) :: post)) s.regs,s.heap⟩):ROps P cfg M ops l Q s:=by
 intro w0 Ok σ a w Q' hM hS hQ
 refine h w0 Ok σ a w Q' hM ⟨hS.below,hS.ok1,hS.ok2,hS.defers,hS.size,fun q av hq => ?_,hS.rows,hS.disj⟩ hQ
 rw [look_ins] at hq
 by_cases e:r = q
 ·rw [if_pos e] at hq
  subst e
  cases hq
  obtain ⟨us,hv1,hv2⟩:=hS.regs r _ hr
  refine ⟨us,hv1,relCs_repl hv2 (fun v _ hn => ?_)⟩
  have hn:v = .slice none 0 0:=hn
  subst hn
  exact rdV_tag.2 ⟨by simp,ownV_sl.2 ⟨none,[],[],Row.nil _ k,ownR.nil hk,rfl⟩⟩
 ·rw [if_neg e] at hq
  exact hS.regs q av hq
theorem ROps.openR {l:List Oper} {Q:St→Prop} {r k:Nat} {G:List Nat} {xs:List (List D)} (hr:look r s.regs = some (.c (.val (.tag G (.sl k xs)))))
  (h:∀ xs' F,TagL xs xs' F→PlainL xs xs'→F.Sublist G→ROps P cfg M ops l Q ⟨insR r (.c (.val (.sl k xs'))) s.regs,s.heap⟩):ROps P cfg M ops l Q s:=by
 intro w0 Ok σ a w Q' hM hS hQ
 obtain ⟨xs',F,h1,h2,h3,h4⟩:=hS.openR hr
 exact h xs' F h1 h2 h3 w0 Ok σ a w Q' hM h4 hQ
end
theorem tag_one {t:List Int} {xs':List (List D)} {F:List Nat} (h:TagL [[.sl 1 (t.map eI)]] xs' F):xs' = [[.tag F (.sl 1 (t.map eI))]]:=by
 obtain ⟨y,ys,G,H,h1,h2,⟨y0,ys0,G0,H0,k1,k2,k3,k4,k5⟩,h3,h4⟩:=h
 subst h3;subst h4;subst k4;subst k5
 rcases k3 with rfl|⟨k3,_⟩
 ·rw [h1,k1,h2,k2];simp
 ·cases k3
theorem split_trunk (t:List Int) (h:LevP t):∀ s ∈ split t,s.2.length ≤ 1:=fun s hs => by
 rw [split_eq h] at hs
 rcases List.mem_append.1 hs with hs|hs
 ·obtain ⟨a,_,rfl⟩:=List.mem_map.1 hs
  exact Nat.le_refl _
 ·obtain rfl:=List.mem_singleton.1 hs
  exact Nat.zero_le _
theorem gath_trunk (t:List Int) (h:LevP t):∀ z ∈ gathS (split t),z.1.2.length ≤ 1:=fun z hz => by
 obtain ⟨s,hs,e⟩:=List.mem_map.1 ((gathS_is (split t)).key z hz)
 rw [← e]
 show (sortC cmpT s.2).length ≤ 1
 rw [sortC_length];exact split_trunk t h s hs
set_option maxRecDepth 20000 in
set_option maxHeartbeats 8000000 in
theorem a_cutsOf (t:List Int) (h:LevP t) (hl:t.length ≤ 8):AFn Tryz.prog 72 [eL t] (· = [.own 3 ((cutsL t).map eCu) true]):=by
 have hsp:=a_splitTree 8 (Nat.le_refl _) t h hl
 have hlen:(split t).length ≤ 256:=by
  have h1:=split_len _ (Nat.le_refl _) h
  have h2:2 ^ t.length ≤ 2 ^ 8:=Nat.pow_le_pow_right (by decide) hl
  omega
 have hga:=a_gathered (split t) (by omega) (fun s hs => ((split_good _ (Nat.le_refl _) h s hs).ha (by omega)).sm)
 have hgl:(gathS (split t)).length ≤ 256:=by have:=(gathS_is (split t)).len;rw [List.length_map] at this;omega
 have htr:=gath_trunk t h
 obtain ⟨L,hL⟩:∃ L,L = gathS (split t):=⟨_,rfl⟩
 have hcl:cutsL t = L.map cutS:=by rw [hL];rfl
 rw [hcl]
 rw [← hL] at hga hgl htr
 simp only [eL] at hsp
 refine AFn.of_runs (cfg_ok 36) Tryz.func72 rfl rfl rfl (by simp only [List.length_cons,List.length_nil];decide) ?_
 have hres:Tryz.f72.results.toList = [.tmp 2]:=rfl
 have hrts:Tryz.f72.resultTypes.toList = [26]:=rfl
 simp only [argRegs,argAV1,eL,eI,eLL,eB,Nat.zero_add,Nat.reduceAdd]
 intro M
 refine RunK.of ?_
 repeat' (first|with_reducible (first|refine Q1 ?_|refine Q2 ?_|refine Q3 ?_|refine Q4 ?_|refine Q5 ?_|refine Q6 ?_|refine Q7 ?_|refine Q8 ?_|refine Q9 ?_|refine Qa ?_|refine Qb ?_|refine Qc ?_|refine Qd ?_|refine Qe ?_|refine Qf ?_)|((with_reducible refine Qo ?_ ?_);focus rfl)|((with_reducible first|refine QT 13 (l:=?_) ?_ ?_|refine QF 13 (l:=?_) ?_ ?_);rotate_left 1;focus (simp only [Zu,Nat.reduceSub,Nat.reduceBEq];with_reducible rfl))|((with_reducible first|refine QS (cfg_ok 36) ((Tab.none.at' 81 hsp).own' 90 0 hga) (s':=?_) ?_ ?_|refine QC (b:=?_) ?_ ?_);rotate_left 1;focus ((with_reducible refine QW ?_);simp only [Zg,seval,if_true,if_false,reduceCtorEq,Nat.reduceEqDiff,Tab.own',atOwn_eq,List.length_map];with_reducible rfl)))
 refine RunK.tag' 10 (k:=3) (xs:=L.map eSp) rfl ?_
 intro xs' F ht hpl hnd hF
 obtain ⟨zs,e1,e2,e3'⟩:=tag_rows3 _ _ _ ht hpl
 subst e2;subst e3'
 have hzl:zs.length = L.length:=by rw [e1,List.length_map]
 refine RunK.loop (β:=Nat × List (Cu × (List Nat × List Nat))) (γ:=List (Cu × (List Nat × List Nat))) (fun x => ⟨[(3,.c (.own 3 x.2.length)),(10,.c (.own 10 L.length)),(11,.c (.val (.int L.length))),(12,.c (.val (.int x.1)))],[(3,.row 3 (x.2.map (e3T (fun c:Cu => c.1.1.map eL) (fun c => c.1.2.map eI) (·.2))) false),(10,.row 3 (zs.map (e3T (fun z:Spl × Int => z.1.1.map eL) (fun z => z.1.2.map eL) (·.2))) false)]⟩)
  (fun x => x.1 ≤ L.length∧x.2.map (fun q => q.1) = (L.take x.1).map cutS∧((x.2.map bl3).flatten).Sublist ((zs.take x.1).map bl3).flatten) (fun x => L.length - x.1)
  (fun qs => ⟨[(3,.c (.own 3 qs.length))],[(3,.row 3 (qs.map (e3T (fun c:Cu => c.1.1.map eL) (fun c => c.1.2.map eI) (·.2))) false)]⟩) (fun qs => qs.map (fun q => q.1) = L.map cutS∧((qs.map bl3).flatten).Sublist (zs.map bl3).flatten) (0,[]) ⟨Nat.zero_le _,rfl,List.Sublist.refl _⟩ ?_ ?_ ?_
 ·(repeat' (first|with_reducible refine Qn|((with_reducible refine Qr ?_ ?_);focus (first|with_reducible rfl|(simp only [Zz,Nat.reduceBEq,List.map_nil,List.length_nil,Int.natCast_zero];done)|rfl))|((with_reducible refine Qj (o':=?_) ?_ ?_ ?_);rotate_left 1;focus rfl)|((with_reducible refine Qw ?_ ?_);(focus (first|with_reducible rfl|(simp only [Zv,List.map_nil,List.length_nil,Int.natCast_zero];done)));focus (first|exact id|exact (fun h => nomatch h)|exact (fun _ => rfl)))))
 ·rintro ⟨i,qs⟩ ⟨hi,hq,hsub⟩
  simp only at hi hq hsub ⊢
  have hw:=w64_succ (n:=i) (by omega)
  have hqn:qs.length = i:=by
   have:=congrArg List.length hq
   rw [List.length_map,List.length_map,List.length_take] at this;omega
  have hzm:(zs.map (e3T (fun z:Spl × Int => z.1.1.map eL) (fun z => z.1.2.map eL) (·.2))).length = L.length:=by rw [List.length_map,hzl]
  by_cases hiL:i < L.length
  ·have hiz:i < zs.length:=by omega
   have i1:((i:Int) < (L.length:Int)) = True:=eq_true (by omega)
   have i2:((0:Int) ≤ (i:Int)) = True:=eq_true (by omega)
   obtain ⟨z,hz⟩:∃ z,z = zs[i]:=⟨_,rfl⟩
   have hLi:L[i] = z.1:=by simp only [e1,List.getElem_map,hz]
   have hg:(zs.map (e3T (fun z:Spl × Int => z.1.1.map eL) (fun z => z.1.2.map eL) (·.2)))[i]? = some (e3T (fun z:Spl × Int => z.1.1.map eL) (fun z => z.1.2.map eL) (·.2) z):=by rw [map_get hiz,hz]
   have hone:=htr L[i] (List.getElem_mem _)
   have htkz:(zs.take (i + 1)).map bl3 = (zs.take i).map bl3 ++ [bl3 z]:=by rw [List.take_succ_eq_append_getElem hiz,List.map_append,← hz];rfl
   have htkL:(L.take (i + 1)).map cutS = (L.take i).map cutS ++ [cutS z.1]:=by rw [List.take_succ_eq_append_getElem hiL,List.map_append,hLi];rfl
   rw [hLi] at hone
   obtain ⟨⟨⟨f,g⟩,n⟩,⟨F,G⟩⟩:=z
   simp only [e3T] at hg
   simp only at hone
   have q1:=big_le (n:=qs.length + 1) (by omega)
   have q2:=big_mul (n:=qs.length + 1) (c:=56) (by omega) (by omega)
   match g,hone with
   | [],_ =>
    have j1:((([]:List (List Int)).length:Int) > 0) = False:=eq_false (by simp)
    ((repeat' (first|with_reducible (first|refine Q1 ?_|refine Q2 ?_|refine Q3 ?_|refine Q4 ?_|refine Q5 ?_|refine Q6 ?_|refine Q7 ?_|refine Q8 ?_|refine Q9 ?_|refine Qa ?_|refine Qb ?_|refine Qc ?_|refine Qd ?_|refine Qe ?_|refine Qf ?_)|((with_reducible refine Qo ?_ ?_);focus rfl)|((with_reducible first|refine QT 13 (l:=?_) ?_ ?_|refine QF 13 (l:=?_) ?_ ?_);rotate_left 1;focus (simp only [Zu,Nat.reduceSub,Nat.reduceBEq];with_reducible rfl))|((with_reducible refine QC (b:=?_) ?_ ?_);rotate_left 1;focus ((with_reducible refine QW ?_);simp only [Zg,seval,if_true,if_false,reduceCtorEq,Nat.reduceEqDiff,i1];with_reducible rfl))));((with_reducible refine QS (cfg_ok 36) Tab.none (s':=?_) ?_ ?_);rotate_left 1;focus ((with_reducible refine QW ?_);simp only [Zg,seval,if_true,if_false,reduceCtorEq,Nat.reduceEqDiff,i1];with_reducible rfl));(repeat' (first|with_reducible (first|refine Q1 ?_|refine Q2 ?_|refine Q3 ?_|refine Q4 ?_|refine Q5 ?_|refine Q6 ?_|refine Q7 ?_|refine Q8 ?_|refine Q9 ?_|refine Qa ?_|refine Qb ?_|refine Qc ?_|refine Qd ?_|refine Qe ?_|refine Qf ?_)|((with_reducible refine Qo ?_ ?_);focus rfl)|((with_reducible first|refine QT 13 (l:=?_) ?_ ?_|refine QF 13 (l:=?_) ?_ ?_);rotate_left 1;focus (simp only [Zu,Nat.reduceSub,Nat.reduceBEq];with_reducible rfl))|((with_reducible refine QC (b:=?_) ?_ ?_);rotate_left 1;focus ((with_reducible refine QW ?_);simp only [Zg,seval,if_true,if_false,reduceCtorEq,Nat.reduceEqDiff,i1];with_reducible rfl)))))
    ((repeat' (first|with_reducible (first|refine Q1 ?_|refine Q2 ?_|refine Q3 ?_|refine Q4 ?_|refine Q5 ?_|refine Q6 ?_|refine Q7 ?_|refine Q8 ?_|refine Q9 ?_|refine Qa ?_|refine Qb ?_|refine Qc ?_|refine Qd ?_|refine Qe ?_|refine Qf ?_)|((with_reducible refine Qo ?_ ?_);focus rfl)|((with_reducible first|refine QT 13 (l:=?_) ?_ ?_|refine QF 13 (l:=?_) ?_ ?_);rotate_left 1;focus (simp only [Zu,Nat.reduceSub,Nat.reduceBEq];with_reducible rfl))|((with_reducible refine QC (b:=?_) ?_ ?_);rotate_left 1;focus ((with_reducible refine QW ?_);simp only [Zg,seval,if_true,if_false,reduceCtorEq,Nat.reduceEqDiff,i1,i2,hg,hzm,Int.toNat_natCast];with_reducible rfl))));((with_reducible refine QS (cfg_ok 36) Tab.none (s':=?_) ?_ ?_);rotate_left 1;focus ((with_reducible refine QW ?_);simp only [Zg,seval,if_true,if_false,reduceCtorEq,Nat.reduceEqDiff,i1,i2,hg,hzm,Int.toNat_natCast];with_reducible rfl));(repeat' (first|with_reducible (first|refine Q1 ?_|refine Q2 ?_|refine Q3 ?_|refine Q4 ?_|refine Q5 ?_|refine Q6 ?_|refine Q7 ?_|refine Q8 ?_|refine Q9 ?_|refine Qa ?_|refine Qb ?_|refine Qc ?_|refine Qd ?_|refine Qe ?_|refine Qf ?_)|((with_reducible refine Qo ?_ ?_);focus rfl)|((with_reducible first|refine QT 13 (l:=?_) ?_ ?_|refine QF 13 (l:=?_) ?_ ?_);rotate_left 1;focus (simp only [Zu,Nat.reduceSub,Nat.reduceBEq];with_reducible rfl))|((with_reducible refine QC (b:=?_) ?_ ?_);rotate_left 1;focus ((with_reducible refine QW ?_);simp only [Zg,seval,if_true,if_false,reduceCtorEq,Nat.reduceEqDiff,i1,i2,hg,hzm,Int.toNat_natCast];with_reducible rfl)))))
    refine RunK.regCut (cfg_ok 36) Tab.none 5 (s1:=?_) ?_ ?_
    rotate_left 1
    focus (refine Work.mk ?_;simp only [Zg,seval,if_true,if_false,reduceCtorEq,Nat.reduceEqDiff];with_reducible rfl)
    simp only [List.toList_toArray,List.drop_succ_cons,List.drop_zero]
    refine ROps.nilA (r:=20) (k:=1) (pre:=[.val (.tag F (.sl 1 (f.map eL)))]) (post:=[.val (.int n)]) (by decide) rfl ?_
    refine ROps.opsT (cfg_ok 36) (T:=Tab.none) (s':=?_) ?_ ?_
    rotate_left 1
    focus (simp only [Zg,seval,if_true,if_false,reduceCtorEq,Nat.reduceEqDiff];with_reducible rfl)
    repeat' (first|with_reducible (first|refine Q1 ?_|refine Q2 ?_|refine Q3 ?_|refine Q4 ?_|refine Q5 ?_|refine Q6 ?_|refine Q7 ?_|refine Q8 ?_|refine Q9 ?_|refine Qa ?_|refine Qb ?_|refine Qc ?_|refine Qd ?_|refine Qe ?_|refine Qf ?_)|((with_reducible refine Qo ?_ ?_);focus rfl)|((with_reducible first|refine QT 13 (l:=?_) ?_ ?_|refine QF 13 (l:=?_) ?_ ?_);rotate_left 1;focus (simp only [Zu,Nat.reduceSub,Nat.reduceBEq];with_reducible rfl))|((with_reducible first|refine QS (cfg_ok 36) Tab.none (s':=?_) ?_ ?_|refine QC (b:=?_) ?_ ?_);rotate_left 1;focus ((with_reducible refine QW ?_);simp only [Zg,seval,if_true,if_false,reduceCtorEq,Nat.reduceEqDiff,j1,hw,q1,q2,List.length_map,List.length_nil];with_reducible rfl)))
    refine roundK.on (i + 1,qs ++ [(((f,[]),n),(F,[]))]) ⟨⟨hiL,?_,?_⟩,by show L.length - (i + 1) < L.length - i;omega⟩ ?_
    ·show List.map (fun q:Cu × (List Nat × List Nat) => q.1) (qs ++ [(((f,[]),n),(F,[]))]) = _
     rw [List.map_append,hq,htkL];rfl
    ·show (((qs ++ [(((f,[]),n),(F,[]))]).map bl3).flatten).Sublist _
     rw [htkz,List.map_append,List.flatten_append,List.flatten_append]
     refine List.Sublist.append hsub ?_
     simp [bl3]
    ·(repeat' (first|with_reducible refine Qn|((with_reducible refine Qr ?_ ?_);focus (first|with_reducible rfl|(simp only [Zz,Nat.reduceBEq,e3T,List.map_nil,List.length_append,List.length_singleton];done)|rfl))|((with_reducible refine Qj (o':=?_) ?_ ?_ ?_);rotate_left 1;focus rfl)|((with_reducible refine Qw ?_ ?_);(focus (first|with_reducible rfl|(simp only [Zv,e3T,List.map_nil,List.length_append,List.length_singleton];done)));focus (first|exact id|exact (fun h => nomatch h)|exact (fun _ => rfl)))))
   | [tr],_ =>
    have j1:((([tr]:List (List Int)).length:Int) > 0) = True:=eq_true (by simp)
    ((repeat' (first|with_reducible (first|refine Q1 ?_|refine Q2 ?_|refine Q3 ?_|refine Q4 ?_|refine Q5 ?_|refine Q6 ?_|refine Q7 ?_|refine Q8 ?_|refine Q9 ?_|refine Qa ?_|refine Qb ?_|refine Qc ?_|refine Qd ?_|refine Qe ?_|refine Qf ?_)|((with_reducible refine Qo ?_ ?_);focus rfl)|((with_reducible first|refine QT 13 (l:=?_) ?_ ?_|refine QF 13 (l:=?_) ?_ ?_);rotate_left 1;focus (simp only [Zu,Nat.reduceSub,Nat.reduceBEq];with_reducible rfl))|((with_reducible refine QC (b:=?_) ?_ ?_);rotate_left 1;focus ((with_reducible refine QW ?_);simp only [Zg,seval,if_true,if_false,reduceCtorEq,Nat.reduceEqDiff,i1];with_reducible rfl))));((with_reducible refine QS (cfg_ok 36) Tab.none (s':=?_) ?_ ?_);rotate_left 1;focus ((with_reducible refine QW ?_);simp only [Zg,seval,if_true,if_false,reduceCtorEq,Nat.reduceEqDiff,i1];with_reducible rfl));(repeat' (first|with_reducible (first|refine Q1 ?_|refine Q2 ?_|refine Q3 ?_|refine Q4 ?_|refine Q5 ?_|refine Q6 ?_|refine Q7 ?_|refine Q8 ?_|refine Q9 ?_|refine Qa ?_|refine Qb ?_|refine Qc ?_|refine Qd ?_|refine Qe ?_|refine Qf ?_)|((with_reducible refine Qo ?_ ?_);focus rfl)|((with_reducible first|refine QT 13 (l:=?_) ?_ ?_|refine QF 13 (l:=?_) ?_ ?_);rotate_left 1;focus (simp only [Zu,Nat.reduceSub,Nat.reduceBEq];with_reducible rfl))|((with_reducible refine QC (b:=?_) ?_ ?_);rotate_left 1;focus ((with_reducible refine QW ?_);simp only [Zg,seval,if_true,if_false,reduceCtorEq,Nat.reduceEqDiff,i1];with_reducible rfl)))))
    ((repeat' (first|with_reducible (first|refine Q1 ?_|refine Q2 ?_|refine Q3 ?_|refine Q4 ?_|refine Q5 ?_|refine Q6 ?_|refine Q7 ?_|refine Q8 ?_|refine Q9 ?_|refine Qa ?_|refine Qb ?_|refine Qc ?_|refine Qd ?_|refine Qe ?_|refine Qf ?_)|((with_reducible refine Qo ?_ ?_);focus rfl)|((with_reducible first|refine QT 13 (l:=?_) ?_ ?_|refine QF 13 (l:=?_) ?_ ?_);rotate_left 1;focus (simp only [Zu,Nat.reduceSub,Nat.reduceBEq];with_reducible rfl))|((with_reducible refine QC (b:=?_) ?_ ?_);rotate_left 1;focus ((with_reducible refine QW ?_);simp only [Zg,seval,if_true,if_false,reduceCtorEq,Nat.reduceEqDiff,i1,i2,hg,hzm,Int.toNat_natCast];with_reducible rfl))));((with_reducible refine QS (cfg_ok 36) Tab.none (s':=?_) ?_ ?_);rotate_left 1;focus ((with_reducible refine QW ?_);simp only [Zg,seval,if_true,if_false,reduceCtorEq,Nat.reduceEqDiff,i1,i2,hg,hzm,Int.toNat_natCast];with_reducible rfl));(repeat' (first|with_reducible (first|refine Q1 ?_|refine Q2 ?_|refine Q3 ?_|refine Q4 ?_|refine Q5 ?_|refine Q6 ?_|refine Q7 ?_|refine Q8 ?_|refine Q9 ?_|refine Qa ?_|refine Qb ?_|refine Qc ?_|refine Qd ?_|refine Qe ?_|refine Qf ?_)|((with_reducible refine Qo ?_ ?_);focus rfl)|((with_reducible first|refine QT 13 (l:=?_) ?_ ?_|refine QF 13 (l:=?_) ?_ ?_);rotate_left 1;focus (simp only [Zu,Nat.reduceSub,Nat.reduceBEq];with_reducible rfl))|((with_reducible refine QC (b:=?_) ?_ ?_);rotate_left 1;focus ((with_reducible refine QW ?_);simp only [Zg,seval,if_true,if_false,reduceCtorEq,Nat.reduceEqDiff,i1,i2,hg,hzm,Int.toNat_natCast];with_reducible rfl)))))
    ((repeat' (first|with_reducible (first|refine Q1 ?_|refine Q2 ?_|refine Q3 ?_|refine Q4 ?_|refine Q5 ?_|refine Q6 ?_|refine Q7 ?_|refine Q8 ?_|refine Q9 ?_|refine Qa ?_|refine Qb ?_|refine Qc ?_|refine Qd ?_|refine Qe ?_|refine Qf ?_)|((with_reducible refine Qo ?_ ?_);focus rfl)|((with_reducible first|refine QT 13 (l:=?_) ?_ ?_|refine QF 13 (l:=?_) ?_ ?_);rotate_left 1;focus (simp only [Zu,Nat.reduceSub,Nat.reduceBEq];with_reducible rfl))|((with_reducible refine QC (b:=?_) ?_ ?_);rotate_left 1;focus ((with_reducible refine QW ?_);simp only [Zg,seval,if_true,if_false,reduceCtorEq,Nat.reduceEqDiff];with_reducible rfl))));((with_reducible refine QS (cfg_ok 36) Tab.none (s':=?_) ?_ ?_);rotate_left 1;focus ((with_reducible refine QW ?_);simp only [Zg,seval,if_true,if_false,reduceCtorEq,Nat.reduceEqDiff];with_reducible rfl));(repeat' (first|with_reducible (first|refine Q1 ?_|refine Q2 ?_|refine Q3 ?_|refine Q4 ?_|refine Q5 ?_|refine Q6 ?_|refine Q7 ?_|refine Q8 ?_|refine Q9 ?_|refine Qa ?_|refine Qb ?_|refine Qc ?_|refine Qd ?_|refine Qe ?_|refine Qf ?_)|((with_reducible refine Qo ?_ ?_);focus rfl)|((with_reducible first|refine QT 13 (l:=?_) ?_ ?_|refine QF 13 (l:=?_) ?_ ?_);rotate_left 1;focus (simp only [Zu,Nat.reduceSub,Nat.reduceBEq];with_reducible rfl))|((with_reducible refine QC (b:=?_) ?_ ?_);rotate_left 1;focus ((with_reducible refine QW ?_);simp only [Zg,seval,if_true,if_false,reduceCtorEq,Nat.reduceEqDiff];with_reducible rfl)))))
    ((repeat' (first|with_reducible (first|refine Q1 ?_|refine Q2 ?_|refine Q3 ?_|refine Q4 ?_|refine Q5 ?_|refine Q6 ?_|refine Q7 ?_|refine Q8 ?_|refine Q9 ?_|refine Qa ?_|refine Qb ?_|refine Qc ?_|refine Qd ?_|refine Qe ?_|refine Qf ?_)|((with_reducible refine Qo ?_ ?_);focus rfl)|((with_reducible first|refine QT 13 (l:=?_) ?_ ?_|refine QF 13 (l:=?_) ?_ ?_);rotate_left 1;focus (simp only [Zu,Nat.reduceSub,Nat.reduceBEq];with_reducible rfl))|((with_reducible refine QC (b:=?_) ?_ ?_);rotate_left 1;focus ((with_reducible refine QW ?_);simp only [Zg,seval,if_true,if_false,reduceCtorEq,Nat.reduceEqDiff,j1,List.length_map];with_reducible rfl))));((with_reducible refine QS (cfg_ok 36) Tab.none (s':=?_) ?_ ?_);rotate_left 1;focus ((with_reducible refine QW ?_);simp only [Zg,seval,if_true,if_false,reduceCtorEq,Nat.reduceEqDiff,j1,List.length_map];with_reducible rfl));(repeat' (first|with_reducible (first|refine Q1 ?_|refine Q2 ?_|refine Q3 ?_|refine Q4 ?_|refine Q5 ?_|refine Q6 ?_|refine Q7 ?_|refine Q8 ?_|refine Q9 ?_|refine Qa ?_|refine Qb ?_|refine Qc ?_|refine Qd ?_|refine Qe ?_|refine Qf ?_)|((with_reducible refine Qo ?_ ?_);focus rfl)|((with_reducible first|refine QT 13 (l:=?_) ?_ ?_|refine QF 13 (l:=?_) ?_ ?_);rotate_left 1;focus (simp only [Zu,Nat.reduceSub,Nat.reduceBEq];with_reducible rfl))|((with_reducible refine QC (b:=?_) ?_ ?_);rotate_left 1;focus ((with_reducible refine QW ?_);simp only [Zg,seval,if_true,if_false,reduceCtorEq,Nat.reduceEqDiff,j1,List.length_map];with_reducible rfl)))))
    refine RunK.regCut (cfg_ok 36) Tab.none 2 (s1:=?_) ?_ ?_
    rotate_left 1
    focus (refine Work.mk ?_;simp only [Zg,seval,if_true,if_false,reduceCtorEq,Nat.reduceEqDiff];with_reducible rfl)
    simp only [List.toList_toArray,List.drop_succ_cons,List.drop_zero]
    refine ROps.openR (r:=26) (k:=1) (G:=G) (xs:=[tr].map eL) rfl ?_
    intro ys G' ht1 _ hG'
    have hys:=tag_one ht1
    subst hys
    refine ROps.opsT (cfg_ok 36) (T:=Tab.none) (s':=?_) ?_ ?_
    rotate_left 1
    focus (simp only [Zg,seval,if_true,if_false,reduceCtorEq,Nat.reduceEqDiff,List.length_map];with_reducible rfl)
    repeat' (first|with_reducible (first|refine Q1 ?_|refine Q2 ?_|refine Q3 ?_|refine Q4 ?_|refine Q5 ?_|refine Q6 ?_|refine Q7 ?_|refine Q8 ?_|refine Q9 ?_|refine Qa ?_|refine Qb ?_|refine Qc ?_|refine Qd ?_|refine Qe ?_|refine Qf ?_)|((with_reducible refine Qo ?_ ?_);focus rfl)|((with_reducible first|refine QT 13 (l:=?_) ?_ ?_|refine QF 13 (l:=?_) ?_ ?_);rotate_left 1;focus (simp only [Zu,Nat.reduceSub,Nat.reduceBEq];with_reducible rfl))|((with_reducible first|refine QS (cfg_ok 36) Tab.none (s':=?_) ?_ ?_|refine QC (b:=?_) ?_ ?_);rotate_left 1;focus ((with_reducible refine QW ?_);simp only [Zg,seval,if_true,if_false,reduceCtorEq,Nat.reduceEqDiff,hw,q1,q2,List.length_map];with_reducible rfl)))
    refine roundK.on (i + 1,qs ++ [(((f,tr),n),(F,G'))]) ⟨⟨hiL,?_,?_⟩,by show L.length - (i + 1) < L.length - i;omega⟩ ?_
    ·show List.map (fun q:Cu × (List Nat × List Nat) => q.1) (qs ++ [(((f,tr),n),(F,G'))]) = _
     rw [List.map_append,hq,htkL];rfl
    ·show (((qs ++ [(((f,tr),n),(F,G'))]).map bl3).flatten).Sublist _
     rw [htkz,List.map_append,List.flatten_append,List.flatten_append]
     refine List.Sublist.append hsub ?_
     simp only [bl3,List.map_cons,List.map_nil,List.flatten_cons,List.flatten_nil,List.append_nil]
     exact List.Sublist.append (List.Sublist.refl _) hG'
    ·(repeat' (first|with_reducible refine Qn|((with_reducible refine Qr ?_ ?_);focus (first|with_reducible rfl|(simp only [Zz,Nat.reduceBEq,e3T,List.map_nil,List.length_append,List.length_singleton];done)|rfl))|((with_reducible refine Qj (o':=?_) ?_ ?_ ?_);rotate_left 1;focus rfl)|((with_reducible refine Qw ?_ ?_);(focus (first|with_reducible rfl|(simp only [Zv,e3T,List.map_nil,List.length_append,List.length_singleton];done)));focus (first|exact id|exact (fun h => nomatch h)|exact (fun _ => rfl)))))
  ·have i1:((i:Int) < (L.length:Int)) = False:=eq_false (by omega)
   obtain rfl:i = L.length:=by omega
   rw [List.take_length] at hq
   rw [← hzl,List.take_length] at hsub
   repeat' (first|with_reducible (first|refine Q1 ?_|refine Q2 ?_|refine Q3 ?_|refine Q4 ?_|refine Q5 ?_|refine Q6 ?_|refine Q7 ?_|refine Q8 ?_|refine Q9 ?_|refine Qa ?_|refine Qb ?_|refine Qc ?_|refine Qd ?_|refine Qe ?_|refine Qf ?_)|((with_reducible refine Qo ?_ ?_);focus rfl)|((with_reducible first|refine QT 13 (l:=?_) ?_ ?_|refine QF 13 (l:=?_) ?_ ?_);rotate_left 1;focus (simp only [Zu,Nat.reduceSub,Nat.reduceBEq];with_reducible rfl))|((with_reducible first|refine QS (cfg_ok 36) Tab.none (s':=?_) ?_ ?_|refine QC (b:=?_) ?_ ?_);rotate_left 1;focus ((with_reducible refine QW ?_);simp only [Zg,seval,if_true,if_false,reduceCtorEq,Nat.reduceEqDiff,i1];with_reducible rfl)))
   refine roundK.out qs ⟨hq,hsub⟩ ?_
   (repeat' (first|with_reducible refine Qn|((with_reducible refine Qr ?_ ?_);focus (first|with_reducible rfl|(simp only [Zz,Nat.reduceBEq];done)|rfl))|((with_reducible refine Qj (o':=?_) ?_ ?_ ?_);rotate_left 1;focus rfl)|((with_reducible refine Qw ?_ ?_);(focus (first|with_reducible rfl|(simp only [Zv];done)));focus (first|exact id|exact (fun h => nomatch h)|exact (fun _ => rfl)))))
 ·rintro qs ⟨hq,hsub⟩
  repeat' (first|with_reducible (first|refine Q1 ?_|refine Q2 ?_|refine Q3 ?_|refine Q4 ?_|refine Q5 ?_|refine Q6 ?_|refine Q7 ?_|refine Q8 ?_|refine Q9 ?_|refine Qa ?_|refine Qb ?_|refine Qc ?_|refine Qd ?_|refine Qe ?_|refine Qf ?_)|((with_reducible refine Qo ?_ ?_);focus rfl)|((with_reducible first|refine QT 13 (l:=?_) ?_ ?_|refine QF 13 (l:=?_) ?_ ?_);rotate_left 1;focus (simp only [Zu,Nat.reduceSub,Nat.reduceBEq];with_reducible rfl))|((with_reducible first|refine QS (cfg_ok 36) Tab.none (s':=?_) ?_ ?_|refine QC (b:=?_) ?_ ?_);rotate_left 1;focus ((with_reducible refine QW ?_);simp only [Zg,seval,if_true,if_false,reduceCtorEq,Nat.reduceEqDiff];with_reducible rfl)))
  refine Ends.un (by simp) hres hrts (r:=?_) (r':=.own 3 ((L.map cutS).map eCu) true) (l:=[]) (ks:=?_) ?_ ?_ (by simp) ?_ rfl
  rotate_left 2
  focus (simp only [aresults,ares,Zg,seval,if_true,if_false,reduceCtorEq,Nat.reduceEqDiff];with_reducible rfl)
  focus simp
  rw [← hq]
  exact ⟨(qs.map bl3).flatten,hnd.sublist hsub,fun b hb => hF b (hsub.subset hb),.inl ⟨3,_,_,rfl,rfl,tag_mk3 _ _ _ qs⟩⟩
end Go.Proofs.YtgngidchldajhaaGreat
namespace Go.Proofs.YtgngidchldajhaaGreat
open Go.RowKit
set_option maxRecDepth 20000 in
set_option maxHeartbeats 8000000 in
theorem a_l05Cuts (t:List Int) (h:LevP t) (hc:canon t = t) (hl:t.length ≤ 8):AFn Tryz.prog 74 [eL t] (· = [.own 3 ((cutsL t).map eCu) false]):=by
 have htr:=a_l05Tree 8 (Nat.le_refl _) t h hc hl
 have hone:=gath_trunk t h
 have hgood:=gath_good (split_good _ (Nat.le_refl _) h)
 have hgl:(gathS (split t)).length ≤ 256:=by
  have h0:=(gathS_is (split t)).len
  rw [List.length_map] at h0
  have h1:=split_len _ (Nat.le_refl _) h
  have h2:2 ^ t.length ≤ 2 ^ 8:=Nat.pow_le_pow_right (by decide) hl
  omega
 obtain ⟨L,hL⟩:∃ L,L = gathS (split t):=⟨_,rfl⟩
 have hcl:cutsL t = L.map cutS:=by rw [hL];rfl
 rw [hcl]
 rw [← hL] at htr hone hgood hgl
 simp only [eL] at htr
 have hLm:(L.map eSp).length = L.length:=List.length_map _
 refine AFn.of_runs (cfg_ok 49) Tryz.func74 rfl rfl rfl (by simp only [List.length_cons,List.length_nil];decide) ?_
 have hres:Tryz.f74.results.toList = [.tmp 2]:=rfl
 have hrts:Tryz.f74.resultTypes.toList = [26]:=rfl
 simp only [argRegs,argAV1,eL,eI,eLL,eB,Nat.zero_add,Nat.reduceAdd]
 intro M
 refine RunK.of ?_
 repeat' (first|with_reducible (first|refine Q1 ?_|refine Q2 ?_|refine Q3 ?_|refine Q4 ?_|refine Q5 ?_|refine Q6 ?_|refine Q7 ?_|refine Q8 ?_|refine Q9 ?_|refine Qa ?_|refine Qb ?_|refine Qc ?_|refine Qd ?_|refine Qe ?_|refine Qf ?_)|((with_reducible refine Qo ?_ ?_);focus rfl)|((with_reducible first|refine QT 7 (l:=?_) ?_ ?_|refine QF 7 (l:=?_) ?_ ?_);rotate_left 1;focus (simp only [Zu,Nat.reduceSub,Nat.reduceBEq];with_reducible rfl))|((with_reducible first|refine QS (cfg_ok 49) (Tab.none.at' 144 htr) (s':=?_) ?_ ?_|refine QC (b:=?_) ?_ ?_);rotate_left 1;focus ((with_reducible refine QW ?_);simp only [Zg,seval,if_true,if_false,reduceCtorEq,Nat.reduceEqDiff];with_reducible rfl))|((with_reducible refine QD (cfg_ok 49) (Tab.none.at' 144 htr) mixed_ok (tr:=?_) (s':=?_) ?_ ?_ ?_);rotate_left 2;(focus ((with_reducible refine QW ?_);simp only [Zg,Zd,seval,if_true,if_false,reduceCtorEq,Nat.reduceEqDiff];with_reducible rfl));focus ((with_reducible refine QK ?_);simp only [Zk];kernel_rfl)))
 refine RunK.loop (β:=Nat) (γ:=Unit) (fun i => ⟨[(3,.c (.val (.sl 3 (L.map eSp)))),(4,.c (.own 4 i)),(5,.c (.val (.int i)))],[(4,.row 3 (((L.take i).map cutS).map eCu) false)]⟩) (fun i => i ≤ L.length) (fun i => L.length - i)
  (fun _ => ⟨[(4,.c (.own 4 L.length))],[(4,.row 3 ((L.map cutS).map eCu) false)]⟩) (fun _ => True) 0 (Nat.zero_le _) ?_ ?_ ?_
 ·(repeat' (first|with_reducible refine Qn|((with_reducible refine Qr ?_ ?_);focus (first|with_reducible rfl|(simp only [Zz,Nat.reduceBEq,List.take_zero,List.map_nil,Int.natCast_zero];done)|rfl))|((with_reducible refine Qj (o':=?_) ?_ ?_ ?_);rotate_left 1;focus rfl)|((with_reducible refine Qw ?_ ?_);(focus (first|with_reducible rfl|(simp only [Zv,List.take_zero,List.map_nil,Int.natCast_zero];done)));focus (first|exact id|exact (fun h => nomatch h)|exact (fun _ => rfl)))))
 ·intro i hi
  have hi:i ≤ L.length:=hi
  have hw:=w64_succ (n:=i) (by omega)
  have hrl:(((L.take i).map cutS).map eCu).length = i:=by rw [List.length_map,List.length_map,List.length_take];omega
  by_cases hiL:i < L.length
  ·have i1:((i:Int) < (L.length:Int)) = True:=eq_true (by omega)
   have i2:((0:Int) ≤ (i:Int)) = True:=eq_true (by omega)
   obtain ⟨z,hz⟩:∃ z,z = L[i]:=⟨_,rfl⟩
   have hg:(L.map eSp)[i]? = some [.sl 1 (z.1.1.map eL),.sl 1 (z.1.2.map eL),.int z.2]:=by rw [map_get hiL,hz];rfl
   have htk:((L.take (i + 1)).map cutS).map eCu = ((L.take i).map cutS).map eCu ++ [eCu (cutS z)]:=by
    rw [hz,List.take_succ_eq_append_getElem hiL,List.map_append,List.map_append];rfl
   have hz1:=hone L[i] (List.getElem_mem _)
   have hz2:=(hgood L[i] (List.getElem_mem _)).2.2
   rw [← hz] at hz1 hz2
   have hha:=hz2.ha (by omega)
   have how:=AFn.val1 (a_l01Own2 z.1.1 (by have:=hha.1.1;omega) (fun b hb => by have:=sumLen_mem hb;have:=hha.1.2;omega))
   have q1:=big_le (n:=i + 1) (by omega)
   have q2:=big_mul (n:=i + 1) (c:=56) (by omega) (by omega)
   obtain ⟨⟨f,g⟩,n⟩:=z
   simp only at hg hz1 how hha
   simp only [eLL] at how
   match g,hz1 with
   | [],_ =>
    have j1:((([]:List (List Int)).length:Int) > 0) = False:=eq_false (by simp)
    repeat' (first|with_reducible (first|refine Q1 ?_|refine Q2 ?_|refine Q3 ?_|refine Q4 ?_|refine Q5 ?_|refine Q6 ?_|refine Q7 ?_|refine Q8 ?_|refine Q9 ?_|refine Qa ?_|refine Qb ?_|refine Qc ?_|refine Qd ?_|refine Qe ?_|refine Qf ?_)|((with_reducible refine Qo ?_ ?_);focus rfl)|((with_reducible first|refine QT 7 (l:=?_) ?_ ?_|refine QF 7 (l:=?_) ?_ ?_);rotate_left 1;focus (simp only [Zu,Nat.reduceSub,Nat.reduceBEq];with_reducible rfl))|((with_reducible first|refine QS (cfg_ok 49) (Tab.none.at' 96 how) (s':=?_) ?_ ?_|refine QC (b:=?_) ?_ ?_);rotate_left 1;focus ((with_reducible refine QW ?_);simp only [Zg,seval,if_true,if_false,reduceCtorEq,Nat.reduceEqDiff,i1,i2,j1,hg,hLm,hw,hrl,q1,q2,Int.toNat_natCast,List.length_map,List.length_nil];with_reducible rfl))|((with_reducible refine QD (cfg_ok 49) (Tab.none.at' 96 how) mixed_ok (tr:=?_) (s':=?_) ?_ ?_ ?_);rotate_left 2;(focus ((with_reducible refine QW ?_);simp only [Zg,Zd,seval,if_true,if_false,reduceCtorEq,Nat.reduceEqDiff,i1,i2,j1,hg,hLm,hw,hrl,q1,q2,Int.toNat_natCast,List.length_map,List.length_nil];with_reducible rfl));focus ((with_reducible refine QK ?_);simp only [Zk];kernel_rfl)))
    refine roundK.on (i + 1) ⟨hiL,by omega⟩ ?_
    rw [htk]
    (repeat' (first|with_reducible refine Qn|((with_reducible refine Qr ?_ ?_);focus (first|with_reducible rfl|(simp only [Zz,Nat.reduceBEq,eCu,cutS,e3,List.headD_nil,List.map_nil];done)|rfl))|((with_reducible refine Qj (o':=?_) ?_ ?_ ?_);rotate_left 1;focus rfl)|((with_reducible refine Qw ?_ ?_);(focus (first|with_reducible rfl|(simp only [Zv,eCu,cutS,e3,List.headD_nil,List.map_nil];done)));focus (first|exact id|exact (fun h => nomatch h)|exact (fun _ => rfl)))))
   | [tr],_ =>
    have j1:((([tr]:List (List Int)).length:Int) > 0) = True:=eq_true (by simp)
    have hot:=AFn.valT (a_l01Own tr (by have h6:sumLen [tr] ≤ 50:=hha.2.2;have h5:sumLen [tr] = tr.length + 0:=rfl;omega))
    simp only [eL] at hot
    repeat' (first|with_reducible (first|refine Q1 ?_|refine Q2 ?_|refine Q3 ?_|refine Q4 ?_|refine Q5 ?_|refine Q6 ?_|refine Q7 ?_|refine Q8 ?_|refine Q9 ?_|refine Qa ?_|refine Qb ?_|refine Qc ?_|refine Qd ?_|refine Qe ?_|refine Qf ?_)|((with_reducible refine Qo ?_ ?_);focus rfl)|((with_reducible first|refine QT 7 (l:=?_) ?_ ?_|refine QF 7 (l:=?_) ?_ ?_);rotate_left 1;focus (simp only [Zu,Nat.reduceSub,Nat.reduceBEq];with_reducible rfl))|((with_reducible first|refine QS (cfg_ok 49) ((Tab.none.at' 96 how).at' 145 hot) (s':=?_) ?_ ?_|refine QC (b:=?_) ?_ ?_);rotate_left 1;focus ((with_reducible refine QW ?_);simp only [Zg,seval,if_true,if_false,reduceCtorEq,Nat.reduceEqDiff,i1,i2,j1,hg,hLm,hw,hrl,q1,q2,Int.toNat_natCast,List.length_map,List.length_nil,eL];with_reducible rfl))|((with_reducible refine QD (cfg_ok 49) ((Tab.none.at' 96 how).at' 145 hot) mixed_ok (tr:=?_) (s':=?_) ?_ ?_ ?_);rotate_left 2;(focus ((with_reducible refine QW ?_);simp only [Zg,Zd,seval,if_true,if_false,reduceCtorEq,Nat.reduceEqDiff,i1,i2,j1,hg,hLm,hw,hrl,q1,q2,Int.toNat_natCast,List.length_map,List.length_nil,eL];with_reducible rfl));focus ((with_reducible refine QK ?_);simp only [Zk];kernel_rfl)))
    refine roundK.on (i + 1) ⟨hiL,by omega⟩ ?_
    rw [htk]
    (repeat' (first|with_reducible refine Qn|((with_reducible refine Qr ?_ ?_);focus (first|with_reducible rfl|(simp only [Zz,Nat.reduceBEq,eCu,cutS,e3,List.headD_cons,List.map_nil];done)|rfl))|((with_reducible refine Qj (o':=?_) ?_ ?_ ?_);rotate_left 1;focus rfl)|((with_reducible refine Qw ?_ ?_);(focus (first|with_reducible rfl|(simp only [Zv,eCu,cutS,e3,List.headD_cons,List.map_nil];done)));focus (first|exact id|exact (fun h => nomatch h)|exact (fun _ => rfl)))))
  ·have i1:((i:Int) < (L.length:Int)) = False:=eq_false (by omega)
   obtain rfl:i = L.length:=by omega
   repeat' (first|with_reducible (first|refine Q1 ?_|refine Q2 ?_|refine Q3 ?_|refine Q4 ?_|refine Q5 ?_|refine Q6 ?_|refine Q7 ?_|refine Q8 ?_|refine Q9 ?_|refine Qa ?_|refine Qb ?_|refine Qc ?_|refine Qd ?_|refine Qe ?_|refine Qf ?_)|((with_reducible refine Qo ?_ ?_);focus rfl)|((with_reducible first|refine QT 7 (l:=?_) ?_ ?_|refine QF 7 (l:=?_) ?_ ?_);rotate_left 1;focus (simp only [Zu,Nat.reduceSub,Nat.reduceBEq];with_reducible rfl))|((with_reducible first|refine QS (cfg_ok 49) Tab.none (s':=?_) ?_ ?_|refine QC (b:=?_) ?_ ?_);rotate_left 1;focus ((with_reducible refine QW ?_);simp only [Zg,seval,if_true,if_false,reduceCtorEq,Nat.reduceEqDiff,i1,hLm];with_reducible rfl))|((with_reducible refine QD (cfg_ok 49) Tab.none mixed_ok (tr:=?_) (s':=?_) ?_ ?_ ?_);rotate_left 2;(focus ((with_reducible refine QW ?_);simp only [Zg,Zd,seval,if_true,if_false,reduceCtorEq,Nat.reduceEqDiff,i1,hLm];with_reducible rfl));focus ((with_reducible refine QK ?_);simp only [Zk];kernel_rfl)))
   refine roundK.out () trivial ?_
   rw [List.take_length]
   (repeat' (first|with_reducible refine Qn|((with_reducible refine Qr ?_ ?_);focus (first|with_reducible rfl|(simp only [Zz,Nat.reduceBEq];done)|rfl))|((with_reducible refine Qj (o':=?_) ?_ ?_ ?_);rotate_left 1;focus rfl)|((with_reducible refine Qw ?_ ?_);(focus (first|with_reducible rfl|(simp only [Zv];done)));focus (first|exact id|exact (fun h => nomatch h)|exact (fun _ => rfl)))))
 ·rintro _ _
  repeat' (first|with_reducible (first|refine Q1 ?_|refine Q2 ?_|refine Q3 ?_|refine Q4 ?_|refine Q5 ?_|refine Q6 ?_|refine Q7 ?_|refine Q8 ?_|refine Q9 ?_|refine Qa ?_|refine Qb ?_|refine Qc ?_|refine Qd ?_|refine Qe ?_|refine Qf ?_)|((with_reducible refine Qo ?_ ?_);focus rfl)|((with_reducible first|refine QT 7 (l:=?_) ?_ ?_|refine QF 7 (l:=?_) ?_ ?_);rotate_left 1;focus (simp only [Zu,Nat.reduceSub,Nat.reduceBEq];with_reducible rfl))|((with_reducible first|refine QS (cfg_ok 49) Tab.none (s':=?_) ?_ ?_|refine QC (b:=?_) ?_ ?_);rotate_left 1;focus ((with_reducible refine QW ?_);simp only [Zg,seval,if_true,if_false,reduceCtorEq,Nat.reduceEqDiff];with_reducible rfl))|((with_reducible refine QD (cfg_ok 49) Tab.none mixed_ok (tr:=?_) (s':=?_) ?_ ?_ ?_);rotate_left 2;(focus ((with_reducible refine QW ?_);simp only [Zg,Zd,seval,if_true,if_false,reduceCtorEq,Nat.reduceEqDiff];with_reducible rfl));focus ((with_reducible refine QK ?_);simp only [Zk];kernel_rfl)))
  (refine Ends.mk (by simp) (rs:=?_) (ks:=?_) hres hrts ?_ ?_ ?_;rotate_left 2;(focus (simp only [Ze,Zg,seval,if_true,if_false,reduceCtorEq,Nat.reduceEqDiff];with_reducible rfl));(focus simp);focus (first|with_reducible rfl|(simp only [Zv];done)))
end Go.Proofs.YtgngidchldajhaaGreat
namespace Go.Proofs.YtgngidchldajhaaGreat
open Go.RowKit
def ccOf (t:List Int):Int × Int:=if lev8 t = true then ((split t).length,0) else (0,1)
theorem split_len8 {t:List Int} (h:LevP t) (hl:t.length ≤ 8):(split t).length ≤ 256:=by
 have h1:=split_len _ (Nat.le_refl _) h
 have h2:2 ^ t.length ≤ 2 ^ 8:=Nat.pow_le_pow_right (by decide) hl
 omega
set_option maxHeartbeats 2000000 in
theorem a_countCuts:∀ (n:Nat),n ≤ 8→∀ t:List Int,LevP t→t.length ≤ n→AFn Tryz.prog 76 [eL t] (· = [.val (.int (split t).length)])
 | 0,_,t,h,hn => by have:=h.pos;omega
 | n + 1,hn8,t,h,hn => by
  have hsb:=sumLen_brs h
  have hlev:=brs_lev h
  have hbr:=AFn.valT (a_branchesOf t h (by omega))
  have hbl:(brs t).length ≤ 8:=by have:=brs_few h;omega
  have hfin:(split t).length = (prodS ((brs t).map split)).length + 1:=by rw [split_eq h,List.length_append,List.length_map];rfl
  have hP:∀ k,(prodS (((brs t).take k).map split)).length ≤ 256:=fun k => prod_len (mem_take hlev) (by have:=sumLen_take' (brs t) k;omega)
  simp only [eL] at hbr
  have hle:((brs t).map eL).length = (brs t).length:=List.length_map _
  rw [hfin]
  refine AFn.of_runs (cfg_ok 20) Tryz.func76 rfl rfl rfl (by simp only [List.length_cons,List.length_nil];decide) ?_
  have hres:Tryz.f76.results.toList = [.tmp 2]:=rfl
  have hrts:Tryz.f76.resultTypes.toList = [2]:=rfl
  simp only [argRegs,argAV1,eL,eI,eLL,eB,Nat.zero_add,Nat.reduceAdd]
  intro M
  refine RunK.of ?_
  repeat' (first|with_reducible (first|refine Q1 ?_|refine Q2 ?_|refine Q3 ?_|refine Q4 ?_|refine Q5 ?_|refine Q6 ?_|refine Q7 ?_|refine Q8 ?_|refine Q9 ?_|refine Qa ?_|refine Qb ?_|refine Qc ?_|refine Qd ?_|refine Qe ?_|refine Qf ?_)|((with_reducible refine Qo ?_ ?_);focus rfl)|((with_reducible first|refine QT 10 (l:=?_) ?_ ?_|refine QF 10 (l:=?_) ?_ ?_);rotate_left 1;focus (simp only [Zu,Nat.reduceSub,Nat.reduceBEq];with_reducible rfl))|((with_reducible first|refine QS (cfg_ok 20) (Tab.none.at' 78 hbr) (s':=?_) ?_ ?_|refine QC (b:=?_) ?_ ?_);rotate_left 1;focus ((with_reducible refine QW ?_);simp only [Zg,seval,if_true,if_false,reduceCtorEq,Nat.reduceEqDiff,hle];with_reducible rfl)))
  refine RunK.loop (β:=Nat) (γ:=Unit) (fun k => ⟨[(3,.c (.val (.int (prodS (((brs t).take k).map split)).length))),(7,.c (.val (.sl 1 ((brs t).map eL)))),(8,.c (.val (.int (brs t).length))),(9,.c (.val (.int k)))],[]⟩) (fun k => k ≤ (brs t).length) (fun k => (brs t).length - k)
   (fun _ => ⟨[(3,.c (.val (.int (prodS ((brs t).map split)).length)))],[]⟩) (fun _ => True) 0 (Nat.zero_le _) ?_ ?_ ?_
  ·(repeat' (first|with_reducible refine Qn|((with_reducible refine Qr ?_ ?_);focus (first|with_reducible rfl|(simp only [Zz,Nat.reduceBEq,List.take_zero,List.map_nil,show prodS [] = [([],[])] from rfl,List.length_singleton,Int.natCast_zero,Int.natCast_one];done)|rfl))|((with_reducible refine Qj (o':=?_) ?_ ?_ ?_);rotate_left 1;focus rfl)|((with_reducible refine Qw ?_ ?_);(focus (first|with_reducible rfl|(simp only [Zv,List.take_zero,List.map_nil,show prodS [] = [([],[])] from rfl,List.length_singleton,Int.natCast_zero,Int.natCast_one];done)));focus (first|exact id|exact (fun h => nomatch h)|exact (fun _ => rfl)))))
  ·intro k hk
   have hk:k ≤ (brs t).length:=hk
   have hw:=w64_succ (n:=k) (by omega)
   by_cases h':k < (brs t).length
   ·have i1:((k:Int) < ((brs t).length:Int)) = True:=eq_true (by omega)
    have i2:((0:Int) ≤ (k:Int)) = True:=eq_true (by omega)
    obtain ⟨b,hb⟩:∃ b,b = (brs t)[k]:=⟨_,rfl⟩
    have hbm:b ∈ brs t:=by rw [hb];exact List.getElem_mem _
    have hg:((brs t).map eL)[k]? = some [.sl 1 (b.map eI)]:=by rw [map_get h',hb];rfl
    have hih:=a_countCuts n (by omega) b (hlev b hbm) (by have:=brs_short h b hbm;omega)
    have htk:(prodS (((brs t).take (k + 1)).map split)).length = (prodS (((brs t).take k).map split)).length * (split b).length:=by
     rw [hb,List.take_succ_eq_append_getElem h',List.map_append]
     show (prodS (((brs t).take k).map split ++ [split (brs t)[k]])).length = _
     rw [prodS_snoc,flatS_len]
    have hP1:=hP (k + 1)
    rw [htk] at hP1
    have hwm:=w64_eq (n:=((prodS (((brs t).take k).map split)).length:Int) * ((split b).length:Int)) (by rw [← Int.natCast_mul];omega)
    simp only [eL] at hih
    repeat' (first|with_reducible (first|refine Q1 ?_|refine Q2 ?_|refine Q3 ?_|refine Q4 ?_|refine Q5 ?_|refine Q6 ?_|refine Q7 ?_|refine Q8 ?_|refine Q9 ?_|refine Qa ?_|refine Qb ?_|refine Qc ?_|refine Qd ?_|refine Qe ?_|refine Qf ?_)|((with_reducible refine Qo ?_ ?_);focus rfl)|((with_reducible first|refine QT 10 (l:=?_) ?_ ?_|refine QF 10 (l:=?_) ?_ ?_);rotate_left 1;focus (simp only [Zu,Nat.reduceSub,Nat.reduceBEq];with_reducible rfl))|((with_reducible first|refine QS (cfg_ok 20) (Tab.none.at' 76 hih) (s':=?_) ?_ ?_|refine QC (b:=?_) ?_ ?_);rotate_left 1;focus ((with_reducible refine QW ?_);simp only [Zg,seval,if_true,if_false,reduceCtorEq,Nat.reduceEqDiff,i1,i2,hg,hle,hw,hwm,Int.toNat_natCast];with_reducible rfl)))
    refine roundK.on (k + 1) ⟨h',by omega⟩ ?_
    rw [htk,Int.natCast_mul]
    (repeat' (first|with_reducible refine Qn|((with_reducible refine Qr ?_ ?_);focus (first|with_reducible rfl|(simp only [Zz,Nat.reduceBEq];done)|rfl))|((with_reducible refine Qj (o':=?_) ?_ ?_ ?_);rotate_left 1;focus rfl)|((with_reducible refine Qw ?_ ?_);(focus (first|with_reducible rfl|(simp only [Zv];done)));focus (first|exact id|exact (fun h => nomatch h)|exact (fun _ => rfl)))))
   ·have i1:((k:Int) < ((brs t).length:Int)) = False:=eq_false (by omega)
    obtain rfl:k = (brs t).length:=by omega
    rw [List.take_length]
    repeat' (first|with_reducible (first|refine Q1 ?_|refine Q2 ?_|refine Q3 ?_|refine Q4 ?_|refine Q5 ?_|refine Q6 ?_|refine Q7 ?_|refine Q8 ?_|refine Q9 ?_|refine Qa ?_|refine Qb ?_|refine Qc ?_|refine Qd ?_|refine Qe ?_|refine Qf ?_)|((with_reducible refine Qo ?_ ?_);focus rfl)|((with_reducible first|refine QT 10 (l:=?_) ?_ ?_|refine QF 10 (l:=?_) ?_ ?_);rotate_left 1;focus (simp only [Zu,Nat.reduceSub,Nat.reduceBEq];with_reducible rfl))|((with_reducible first|refine QS (cfg_ok 20) Tab.none (s':=?_) ?_ ?_|refine QC (b:=?_) ?_ ?_);rotate_left 1;focus ((with_reducible refine QW ?_);simp only [Zg,seval,if_true,if_false,reduceCtorEq,Nat.reduceEqDiff,i1];with_reducible rfl)))
    refine roundK.out () trivial ?_
    (repeat' (first|with_reducible refine Qn|((with_reducible refine Qr ?_ ?_);focus (first|with_reducible rfl|(simp only [Zz,Nat.reduceBEq];done)|rfl))|((with_reducible refine Qj (o':=?_) ?_ ?_ ?_);rotate_left 1;focus rfl)|((with_reducible refine Qw ?_ ?_);(focus (first|with_reducible rfl|(simp only [Zv];done)));focus (first|exact id|exact (fun h => nomatch h)|exact (fun _ => rfl)))))
  ·rintro _ _
   have hP0:=hP (brs t).length
   rw [List.take_length] at hP0
   have hw:=w64_succ (n:=(prodS ((brs t).map split)).length) (by omega)
   repeat' (first|with_reducible (first|refine Q1 ?_|refine Q2 ?_|refine Q3 ?_|refine Q4 ?_|refine Q5 ?_|refine Q6 ?_|refine Q7 ?_|refine Q8 ?_|refine Q9 ?_|refine Qa ?_|refine Qb ?_|refine Qc ?_|refine Qd ?_|refine Qe ?_|refine Qf ?_)|((with_reducible refine Qo ?_ ?_);focus rfl)|((with_reducible first|refine QT 10 (l:=?_) ?_ ?_|refine QF 10 (l:=?_) ?_ ?_);rotate_left 1;focus (simp only [Zu,Nat.reduceSub,Nat.reduceBEq];with_reducible rfl))|((with_reducible first|refine QS (cfg_ok 20) Tab.none (s':=?_) ?_ ?_|refine QC (b:=?_) ?_ ?_);rotate_left 1;focus ((with_reducible refine QW ?_);simp only [Zg,seval,if_true,if_false,reduceCtorEq,Nat.reduceEqDiff,hw];with_reducible rfl)))
   (refine Ends.mk (by simp) (rs:=?_) (ks:=?_) hres hrts ?_ ?_ ?_;rotate_left 2;(focus (simp only [Ze,Zg,seval,if_true,if_false,reduceCtorEq,Nat.reduceEqDiff];with_reducible rfl));(focus simp);focus (first|with_reducible rfl|(simp only [Zv];done)))
theorem a_impl_CountCuts (t:List Int):AFn Tryz.prog 16 [eL t] (· = [.val (.int (ccOf t).1),.val (.int (ccOf t).2)]):=by
 have hl:=a_impl_IsLevels t
 simp only [eL] at hl
 unfold ccOf
 refine AFn.of_runs (cfg_ok 9) Tryz.func16 rfl rfl rfl (by simp only [List.length_cons,List.length_nil];decide) ?_
 have hres:Tryz.f16.results.toList = [.tmp 2,.tmp 3]:=rfl
 have hrts:Tryz.f16.resultTypes.toList = [2,2]:=rfl
 simp only [argRegs,argAV1,eL,eI,eLL,eB,Nat.zero_add,Nat.reduceAdd]
 intro M
 refine RunK.of ?_
 by_cases h8:lev8 t = true
 ·rw [h8] at hl
  have hc:=a_countCuts 8 (Nat.le_refl _) t (lev8_lev h8) (lev8_len h8)
  simp only [eL] at hc
  rw [if_pos h8]
  repeat' (first|with_reducible (first|refine Q1 ?_|refine Q2 ?_|refine Q3 ?_|refine Q4 ?_|refine Q5 ?_|refine Q6 ?_|refine Q7 ?_|refine Q8 ?_|refine Q9 ?_|refine Qa ?_|refine Qb ?_|refine Qc ?_|refine Qd ?_|refine Qe ?_|refine Qf ?_)|((with_reducible refine Qo ?_ ?_);focus rfl)|((with_reducible first|refine QT 4 (l:=?_) ?_ ?_|refine QF 4 (l:=?_) ?_ ?_);rotate_left 1;focus (simp only [Zu,Nat.reduceSub,Nat.reduceBEq];with_reducible rfl))|((with_reducible first|refine QS (cfg_ok 9) ((Tab.none.at' 71 hl).at' 76 hc) (s':=?_) ?_ ?_|refine QC (b:=?_) ?_ ?_);rotate_left 1;focus ((with_reducible refine QW ?_);simp only [Zg,seval,if_true,if_false,reduceCtorEq,Nat.reduceEqDiff];with_reducible rfl)))
  (refine Ends.mk (by simp) (rs:=?_) (ks:=?_) hres hrts ?_ ?_ ?_;rotate_left 2;(focus (simp only [Ze,Zg,seval,if_true,if_false,reduceCtorEq,Nat.reduceEqDiff];with_reducible rfl));(focus simp);focus (first|with_reducible rfl|(simp only [Zv];done)))
 ·have h8':lev8 t = false:=by simpa using h8
  rw [h8'] at hl
  rw [if_neg h8]
  repeat' (first|with_reducible (first|refine Q1 ?_|refine Q2 ?_|refine Q3 ?_|refine Q4 ?_|refine Q5 ?_|refine Q6 ?_|refine Q7 ?_|refine Q8 ?_|refine Q9 ?_|refine Qa ?_|refine Qb ?_|refine Qc ?_|refine Qd ?_|refine Qe ?_|refine Qf ?_)|((with_reducible refine Qo ?_ ?_);focus rfl)|((with_reducible first|refine QT 4 (l:=?_) ?_ ?_|refine QF 4 (l:=?_) ?_ ?_);rotate_left 1;focus (simp only [Zu,Nat.reduceSub,Nat.reduceBEq];with_reducible rfl))|((with_reducible first|refine QS (cfg_ok 9) (Tab.none.at' 71 hl) (s':=?_) ?_ ?_|refine QC (b:=?_) ?_ ?_);rotate_left 1;focus ((with_reducible refine QW ?_);simp only [Zg,seval,if_true,if_false,reduceCtorEq,Nat.reduceEqDiff];with_reducible rfl)))
  (refine Ends.mk (by simp) (rs:=?_) (ks:=?_) hres hrts ?_ ?_ ?_;rotate_left 2;(focus (simp only [Ze,Zg,seval,if_true,if_false,reduceCtorEq,Nat.reduceEqDiff];with_reducible rfl));(focus simp);focus (first|with_reducible rfl|(simp only [Zv];done)))
end Go.Proofs.YtgngidchldajhaaGreat
namespace Go.Proofs.YtgngidchldajhaaGreat
open Go.RowKit
def numC (L:List Cu) (c:List (List Int)) (t:List Int):Int:=match L.find? (fun x => decide (x.1.1 = c∧x.1.2 = t)) with
 | some x => x.2
 | none => 0
def trkC (t:List Int):List Int:=if t = [] then [] else canon t
def okC (t:List Int) (c:List (List Int)) (k:List Int):Bool:=lev8 t && forB c && (decide (k = []) || lev8 k)
def cctC (t:List Int) (c:List (List Int)) (k:List Int):Int × Int:=if okC t c k = true then (numC (cutsL t) c (trkC k),0) else (0,1)
theorem numC_at {L:List Cu} {c:List (List Int)} {t:List Int} {i:Nat} (h:i < L.length) (hx:L[i].1.1 = c∧L[i].1.2 = t) (hl:∀ x ∈ L.take i,¬ (x.1.1 = c∧x.1.2 = t)):numC L c t = L[i].2:=by
 have e:L.find? (fun x => decide (x.1.1 = c∧x.1.2 = t)) = some L[i]:=by
  have h1:L = L.take i ++ L[i] :: L.drop (i + 1):=by rw [← List.drop_eq_getElem_cons h,List.take_append_drop]
  have h2:(L.take i).find? (fun x => decide (x.1.1 = c∧x.1.2 = t)) = none:=List.find?_eq_none.2 (fun x hx' => by simpa using hl x hx')
  conv => lhs;rw [h1,List.find?_append,h2]
  rw [Option.none_or,List.find?_cons_of_pos (by simpa using hx)]
 unfold numC;rw [e]
theorem numC_no {L:List Cu} {c:List (List Int)} {t:List Int} (hl:∀ x ∈ L,¬ (x.1.1 = c∧x.1.2 = t)):numC L c t = 0:=by
 have e:L.find? (fun x => decide (x.1.1 = c∧x.1.2 = t)) = none:=List.find?_eq_none.2 (fun x hx' => by simpa using hl x hx')
 unfold numC;rw [e]
theorem cuts_bd {t:List Int} (h:LevP t) (hl:t.length ≤ 8):(cutsL t).length ≤ 256∧∀ x ∈ cutsL t,(1 ≤ x.2∧x.2 ≤ 256)∧SmF x.1.1:=by
 have h0:=(gathS_is (split t)).len
 rw [List.length_map] at h0
 have h1:=split_len8 h hl
 refine ⟨by unfold cutsL;rw [List.length_map];omega,fun x hx => ?_⟩
 obtain ⟨z,hz,rfl⟩:=List.mem_map.1 hx
 obtain ⟨g1,g2,g3⟩:=gath_good (split_good _ (Nat.le_refl _) h) z hz
 exact ⟨⟨g1,by show z.2 ≤ 256;omega⟩,(g3.ha (by omega)).1.sm⟩
theorem okC_false {t:List Int} {c:List (List Int)} {k:List Int} (h:okC t c k = false):lev8 t = false ∨ (lev8 t = true∧forB c = false) ∨ (lev8 t = true∧forB c = true∧k ≠ []∧lev8 k = false):=by
 unfold okC at h
 cases h1:lev8 t
 ·exact .inl rfl
 ·cases h2:forB c
  ·exact .inr (.inl ⟨rfl,rfl⟩)
  ·rw [h1,h2] at h
   simp only [Bool.true_and,Bool.or_eq_false_iff,decide_eq_false_iff_not] at h
   exact .inr (.inr ⟨rfl,rfl,h⟩)
noncomputable def TCct:Tab Tryz.prog :=
 ((((Tab.none.add 71 (tab1 codL fun t => some [.val (.bool (lev8 t))]) (tab1_ok fun t rs h => by cases h;exact a_impl_IsLevels t)).add
   85 (tab1 codLL fun f => if sumLen f ≤ 1048576∧f.length ≤ 1048576 then some [.val (.bool (forB f))] else none) (tab1_ok fun f rs h => by split at h;cases h;rename_i hs;exact a_impl_IsForest f (by omega) (by omega);cases h)).add
   79 (tab1 codL fun t => if lev8 t = true then some [.val (.sl 1 ((canon t).map eI))] else none) (tab1_ok fun t rs h => by split at h;cases h;rename_i hs;exact AFn.valT (a_canonical t (lev8_lev hs) (lev8_len hs));cases h)).add
   86 (tab2 codLL codLL fun f g => if SmF f∧SmF g then some [.val (.int (cmpF f g))] else none) (tab2_ok fun f g rs h => by split at h;cases h;rename_i hs;exact a_compareForests f g (by have:=hs.1.2;omega) (by have:=hs.2.2;omega);cases h)).add
   87 (tab2 codL codL fun s t => some [.val (.bool (decide (s = t)))]) (tab2_ok fun s t rs h => by cases h;exact a_slicesEqual s t)
set_option maxRecDepth 20000 in
set_option maxHeartbeats 8000000 in
theorem a_impl_CountCut (t:List Int) (c:List (List Int)) (k:List Int) (hc1:sumLen c ≤ 1048576) (hc2:c.length ≤ 1048576):AFn Tryz.prog 21 [eL t,eLL c,eL k] (· = [.val (.int (cctC t c k).1),.val (.int (cctC t c k).2)]):=by
 have s1:=eq_true (And.intro hc1 hc2)
 unfold cctC
 by_cases hok:okC t c k = true
 rotate_left
 ·have hok':okC t c k = false:=by simpa using hok
  rw [if_neg hok]
  refine AFn.of_runs (cfg_ok 54) Tryz.func21 rfl rfl rfl (by simp only [List.length_cons,List.length_nil];decide) ?_
  have hres:Tryz.f21.results.toList = [.tmp 6,.tmp 7]:=rfl
  have hrts:Tryz.f21.resultTypes.toList = [2,2]:=rfl
  simp only [argRegs,argAV1,eL,eI,eLL,eB,Nat.zero_add,Nat.reduceAdd]
  intro M
  refine RunK.of ?_
  rcases okC_false hok' with h1|⟨h1,h2⟩|⟨h1,h2,h3,h4⟩
  ·repeat' (first|with_reducible (first|refine Q1 ?_|refine Q2 ?_|refine Q3 ?_|refine Q4 ?_|refine Q5 ?_|refine Q6 ?_|refine Q7 ?_|refine Q8 ?_|refine Q9 ?_|refine Qa ?_|refine Qb ?_|refine Qc ?_|refine Qd ?_|refine Qe ?_|refine Qf ?_)|((with_reducible refine Qo ?_ ?_);focus rfl)|((with_reducible first|refine QT 37 (l:=?_) ?_ ?_|refine QF 37 (l:=?_) ?_ ?_);rotate_left 1;focus (simp only [Zu,Nat.reduceSub,Nat.reduceBEq];with_reducible rfl))|((with_reducible first|refine QS (cfg_ok 54) TCct (s':=?_) ?_ ?_|refine QC (b:=?_) ?_ ?_);rotate_left 1;focus ((with_reducible refine QW ?_);simp only [Zg,seval,if_true,if_false,reduceCtorEq,Nat.reduceEqDiff,TCct,TCct,h1,s1];with_reducible rfl)))
   (refine Ends.mk (by simp) (rs:=?_) (ks:=?_) hres hrts ?_ ?_ ?_;rotate_left 2;(focus (simp only [Ze,Zg,seval,if_true,if_false,reduceCtorEq,Nat.reduceEqDiff];with_reducible rfl));(focus simp);focus (first|with_reducible rfl|(simp only [Zv];done)))
  ·repeat' (first|with_reducible (first|refine Q1 ?_|refine Q2 ?_|refine Q3 ?_|refine Q4 ?_|refine Q5 ?_|refine Q6 ?_|refine Q7 ?_|refine Q8 ?_|refine Q9 ?_|refine Qa ?_|refine Qb ?_|refine Qc ?_|refine Qd ?_|refine Qe ?_|refine Qf ?_)|((with_reducible refine Qo ?_ ?_);focus rfl)|((with_reducible first|refine QT 37 (l:=?_) ?_ ?_|refine QF 37 (l:=?_) ?_ ?_);rotate_left 1;focus (simp only [Zu,Nat.reduceSub,Nat.reduceBEq];with_reducible rfl))|((with_reducible first|refine QS (cfg_ok 54) TCct (s':=?_) ?_ ?_|refine QC (b:=?_) ?_ ?_);rotate_left 1;focus ((with_reducible refine QW ?_);simp only [Zg,seval,if_true,if_false,reduceCtorEq,Nat.reduceEqDiff,TCct,TCct,h1,h2,s1];with_reducible rfl)))
   (refine Ends.mk (by simp) (rs:=?_) (ks:=?_) hres hrts ?_ ?_ ?_;rotate_left 2;(focus (simp only [Ze,Zg,seval,if_true,if_false,reduceCtorEq,Nat.reduceEqDiff];with_reducible rfl));(focus simp);focus (first|with_reducible rfl|(simp only [Zv];done)))
  ·have j1:((k.length:Int) > 0) = True:=eq_true (by have:=List.length_pos_iff.2 h3;omega)
   repeat' (first|with_reducible (first|refine Q1 ?_|refine Q2 ?_|refine Q3 ?_|refine Q4 ?_|refine Q5 ?_|refine Q6 ?_|refine Q7 ?_|refine Q8 ?_|refine Q9 ?_|refine Qa ?_|refine Qb ?_|refine Qc ?_|refine Qd ?_|refine Qe ?_|refine Qf ?_)|((with_reducible refine Qo ?_ ?_);focus rfl)|((with_reducible first|refine QT 37 (l:=?_) ?_ ?_|refine QF 37 (l:=?_) ?_ ?_);rotate_left 1;focus (simp only [Zu,Nat.reduceSub,Nat.reduceBEq];with_reducible rfl))|((with_reducible first|refine QS (cfg_ok 54) TCct (s':=?_) ?_ ?_|refine QC (b:=?_) ?_ ?_);rotate_left 1;focus ((with_reducible refine QW ?_);simp only [Zg,seval,if_true,if_false,reduceCtorEq,Nat.reduceEqDiff,TCct,TCct,h1,h2,h4,s1,j1,List.length_map];with_reducible rfl)))
   (refine Ends.mk (by simp) (rs:=?_) (ks:=?_) hres hrts ?_ ?_ ?_;rotate_left 2;(focus (simp only [Ze,Zg,seval,if_true,if_false,reduceCtorEq,Nat.reduceEqDiff];with_reducible rfl));(focus simp);focus (first|with_reducible rfl|(simp only [Zv];done)))
 rw [if_pos hok]
 have hok0:=hok
 unfold okC at hok
 simp only [Bool.and_eq_true,Bool.or_eq_true,decide_eq_true_eq] at hok
 obtain ⟨⟨h1,h2⟩,h3⟩:=hok
 have hlev:=lev8_lev h1
 have h8:=lev8_len h1
 have hcu:=AFn.valT (a_cutsOf t hlev h8)
 obtain ⟨hLl,hLx⟩:=cuts_bd hlev h8
 obtain ⟨L,hL⟩:∃ L,L = cutsL t:=⟨_,rfl⟩
 rw [← hL] at hcu hLl hLx ⊢
 have hcs:SmF c:=⟨by have:=forB_short h2;omega,by have:=(forB_spec h2).1;omega⟩
 obtain ⟨T,hT⟩:∃ T,T = trkC k:=⟨_,rfl⟩
 rw [← hT]
 have hLm:(L.map eCu).length = L.length:=List.length_map _
 simp only [eL] at hcu
 have hcase:(k = []∧k = T) ∨ (k ≠ []∧lev8 k = true∧T = canon k):=by
  by_cases hk:k = []
  ·exact .inl ⟨hk,by rw [hT];unfold trkC;rw [if_pos hk];exact hk⟩
  ·refine .inr ⟨hk,h3.resolve_left hk,?_⟩
   rw [hT];unfold trkC;rw [if_neg hk]
 refine AFn.of_runs (cfg_ok 54) Tryz.func21 rfl rfl rfl (by simp only [List.length_cons,List.length_nil];decide) ?_
 have hres:Tryz.f21.results.toList = [.tmp 6,.tmp 7]:=rfl
 have hrts:Tryz.f21.resultTypes.toList = [2,2]:=rfl
 simp only [argRegs,argAV1,eL,eI,eLL,eB,Nat.zero_add,Nat.reduceAdd]
 intro M
 refine RunK.of ?_
 rcases hcase with ⟨hk,hkT⟩|⟨hk,hk8,hkT⟩
 case' inl =>
  have j1:((k.length:Int) > 0) = False:=eq_false (by rw [hk];simp)
  repeat' (first|with_reducible (first|refine Q1 ?_|refine Q2 ?_|refine Q3 ?_|refine Q4 ?_|refine Q5 ?_|refine Q6 ?_|refine Q7 ?_|refine Q8 ?_|refine Q9 ?_|refine Qa ?_|refine Qb ?_|refine Qc ?_|refine Qd ?_|refine Qe ?_|refine Qf ?_)|((with_reducible refine Qo ?_ ?_);focus rfl)|((with_reducible first|refine QT 37 (l:=?_) ?_ ?_|refine QF 37 (l:=?_) ?_ ?_);rotate_left 1;focus (simp only [Zu,Nat.reduceSub,Nat.reduceBEq];with_reducible rfl))|((with_reducible first|refine QS (cfg_ok 54) (TCct.at' 72 hcu) (s':=?_) ?_ ?_|refine QC (b:=?_) ?_ ?_);rotate_left 1;focus ((with_reducible refine QW ?_);simp only [Zg,seval,if_true,if_false,reduceCtorEq,Nat.reduceEqDiff,TCct,h1,h2,s1,j1,hLm,List.length_map];with_reducible rfl)))
  rw [hkT]
 case' inr =>
  have j1:((k.length:Int) > 0) = True:=eq_true (by have:=List.length_pos_iff.2 hk;omega)
  repeat' (first|with_reducible (first|refine Q1 ?_|refine Q2 ?_|refine Q3 ?_|refine Q4 ?_|refine Q5 ?_|refine Q6 ?_|refine Q7 ?_|refine Q8 ?_|refine Q9 ?_|refine Qa ?_|refine Qb ?_|refine Qc ?_|refine Qd ?_|refine Qe ?_|refine Qf ?_)|((with_reducible refine Qo ?_ ?_);focus rfl)|((with_reducible first|refine QT 37 (l:=?_) ?_ ?_|refine QF 37 (l:=?_) ?_ ?_);rotate_left 1;focus (simp only [Zu,Nat.reduceSub,Nat.reduceBEq];with_reducible rfl))|((with_reducible first|refine QS (cfg_ok 54) (TCct.at' 72 hcu) (s':=?_) ?_ ?_|refine QC (b:=?_) ?_ ?_);rotate_left 1;focus ((with_reducible refine QW ?_);simp only [Zg,seval,if_true,if_false,reduceCtorEq,Nat.reduceEqDiff,TCct,h1,h2,hk8,s1,j1,hLm,List.length_map];with_reducible rfl)))
  rw [← hkT]
 all_goals
  refine RunK.loop (β:=Nat) (γ:=Unit) (fun i => ⟨[(1,.c (.val (.sl 1 (c.map eL)))),(2,.c (.val (.sl 1 (T.map eI)))),(34,.c (.val (.sl 3 (L.map eCu)))),(35,.c (.val (.int L.length))),(36,.c (.val (.int i)))],[]⟩) (fun i => i ≤ L.length∧∀ x ∈ L.take i,¬ (x.1.1 = c∧x.1.2 = T)) (fun i => L.length - i)
   (fun _ => ⟨[],[]⟩) (fun _ => ∀ x ∈ L,¬ (x.1.1 = c∧x.1.2 = T)) 0 ⟨Nat.zero_le _,by simp⟩ ?_ ?_ ?_
  ·(repeat' (first|with_reducible refine Qn|((with_reducible refine Qr ?_ ?_);focus (first|with_reducible rfl|(simp only [Zz,Nat.reduceBEq,Int.natCast_zero];done)|rfl))|((with_reducible refine Qj (o':=?_) ?_ ?_ ?_);rotate_left 1;focus rfl)|((with_reducible refine Qw ?_ ?_);(focus (first|with_reducible rfl|(simp only [Zv,Int.natCast_zero];done)));focus (first|exact id|exact (fun h => nomatch h)|exact (fun _ => rfl)))))
  ·rintro i ⟨hi,hlow⟩
   have hw:=w64_succ (n:=i) (by omega)
   by_cases h':i < L.length
   ·have i1:((i:Int) < (L.length:Int)) = True:=eq_true (by omega)
    have i2:((0:Int) ≤ (i:Int)) = True:=eq_true (by omega)
    obtain ⟨z,hz⟩:∃ z,z = L[i]:=⟨_,rfl⟩
    have hg:(L.map eCu)[i]? = some [.sl 1 (z.1.1.map eL),.sl 1 (z.1.2.map eI),.int z.2]:=by rw [map_get h',hz];rfl
    have hzx:=(hLx L[i] (List.getElem_mem _)).2
    rw [← hz] at hzx
    have e1:=eq_true (And.intro hzx hcs)
    have next:¬ (z.1.1 = c∧z.1.2 = T)→∀ x ∈ L.take (i + 1),¬ (x.1.1 = c∧x.1.2 = T):=fun hn x hx => by
     rw [List.take_succ_eq_append_getElem h',List.mem_append,List.mem_singleton] at hx
     rcases hx with hx|rfl
     ·exact hlow x hx
     ·rw [← hz];exact hn
    by_cases hcz:z.1.1 = c
    ·have d1:(cmpF z.1.1 c == 0) = true:=beq_iff_eq.2 (by rw [hcz];exact cmpF_cmp.refl _)
     by_cases htz:z.1.2 = T
     ·have d2:decide (z.1.2 = T) = true:=decide_eq_true htz
      repeat' (first|with_reducible (first|refine Q1 ?_|refine Q2 ?_|refine Q3 ?_|refine Q4 ?_|refine Q5 ?_|refine Q6 ?_|refine Q7 ?_|refine Q8 ?_|refine Q9 ?_|refine Qa ?_|refine Qb ?_|refine Qc ?_|refine Qd ?_|refine Qe ?_|refine Qf ?_)|((with_reducible refine Qo ?_ ?_);focus rfl)|((with_reducible first|refine QT 37 (l:=?_) ?_ ?_|refine QF 37 (l:=?_) ?_ ?_);rotate_left 1;focus (simp only [Zu,Nat.reduceSub,Nat.reduceBEq];with_reducible rfl))|((with_reducible first|refine QS (cfg_ok 54) TCct (s':=?_) ?_ ?_|refine QC (b:=?_) ?_ ?_);rotate_left 1;focus ((with_reducible refine QW ?_);simp only [Zg,seval,if_true,if_false,reduceCtorEq,Nat.reduceEqDiff,TCct,TCct,i1,i2,hg,hLm,e1,d1,d2,Int.toNat_natCast];with_reducible rfl)))
      refine roundK.ret ?_
      repeat' (first|with_reducible (first|refine Q1 ?_|refine Q2 ?_|refine Q3 ?_|refine Q4 ?_|refine Q5 ?_|refine Q6 ?_|refine Q7 ?_|refine Q8 ?_|refine Q9 ?_|refine Qa ?_|refine Qb ?_|refine Qc ?_|refine Qd ?_|refine Qe ?_|refine Qf ?_)|((with_reducible refine Qo ?_ ?_);focus rfl)|((with_reducible first|refine QT 37 (l:=?_) ?_ ?_|refine QF 37 (l:=?_) ?_ ?_);rotate_left 1;focus (simp only [Zu,Nat.reduceSub,Nat.reduceBEq];with_reducible rfl))|((with_reducible first|refine QS (cfg_ok 54) Tab.none (s':=?_) ?_ ?_|refine QC (b:=?_) ?_ ?_);rotate_left 1;focus ((with_reducible refine QW ?_);simp only [Zg,seval,if_true,if_false,reduceCtorEq,Nat.reduceEqDiff];with_reducible rfl)))
      have hnum:=numC_at h' (by rw [← hz];exact ⟨hcz,htz⟩) hlow
      rw [← hz] at hnum
      rw [hnum]
      (refine Ends.mk (by simp) (rs:=?_) (ks:=?_) hres hrts ?_ ?_ ?_;rotate_left 2;(focus (simp only [Ze,Zg,seval,if_true,if_false,reduceCtorEq,Nat.reduceEqDiff];with_reducible rfl));(focus simp);focus (first|with_reducible rfl|(simp only [Zv];done)))
     ·have d2:decide (z.1.2 = T) = false:=decide_eq_false htz
      repeat' (first|with_reducible (first|refine Q1 ?_|refine Q2 ?_|refine Q3 ?_|refine Q4 ?_|refine Q5 ?_|refine Q6 ?_|refine Q7 ?_|refine Q8 ?_|refine Q9 ?_|refine Qa ?_|refine Qb ?_|refine Qc ?_|refine Qd ?_|refine Qe ?_|refine Qf ?_)|((with_reducible refine Qo ?_ ?_);focus rfl)|((with_reducible first|refine QT 37 (l:=?_) ?_ ?_|refine QF 37 (l:=?_) ?_ ?_);rotate_left 1;focus (simp only [Zu,Nat.reduceSub,Nat.reduceBEq];with_reducible rfl))|((with_reducible first|refine QS (cfg_ok 54) TCct (s':=?_) ?_ ?_|refine QC (b:=?_) ?_ ?_);rotate_left 1;focus ((with_reducible refine QW ?_);simp only [Zg,seval,if_true,if_false,reduceCtorEq,Nat.reduceEqDiff,TCct,TCct,i1,i2,hg,hLm,hw,e1,d1,d2,Int.toNat_natCast];with_reducible rfl)))
      refine roundK.on (i + 1) ⟨⟨h',next (fun h => htz h.2)⟩,by omega⟩ ?_
      (repeat' (first|with_reducible refine Qn|((with_reducible refine Qr ?_ ?_);focus (first|with_reducible rfl|(simp only [Zz,Nat.reduceBEq];done)|rfl))|((with_reducible refine Qj (o':=?_) ?_ ?_ ?_);rotate_left 1;focus rfl)|((with_reducible refine Qw ?_ ?_);(focus (first|with_reducible rfl|(simp only [Zv];done)));focus (first|exact id|exact (fun h => nomatch h)|exact (fun _ => rfl)))))
    ·have d1:(cmpF z.1.1 c == 0) = false:=beq_eq_false_iff_ne.2 (fun h => hcz (cmpF_cmp.zero _ _ h))
     repeat' (first|with_reducible (first|refine Q1 ?_|refine Q2 ?_|refine Q3 ?_|refine Q4 ?_|refine Q5 ?_|refine Q6 ?_|refine Q7 ?_|refine Q8 ?_|refine Q9 ?_|refine Qa ?_|refine Qb ?_|refine Qc ?_|refine Qd ?_|refine Qe ?_|refine Qf ?_)|((with_reducible refine Qo ?_ ?_);focus rfl)|((with_reducible first|refine QT 37 (l:=?_) ?_ ?_|refine QF 37 (l:=?_) ?_ ?_);rotate_left 1;focus (simp only [Zu,Nat.reduceSub,Nat.reduceBEq];with_reducible rfl))|((with_reducible first|refine QS (cfg_ok 54) TCct (s':=?_) ?_ ?_|refine QC (b:=?_) ?_ ?_);rotate_left 1;focus ((with_reducible refine QW ?_);simp only [Zg,seval,if_true,if_false,reduceCtorEq,Nat.reduceEqDiff,TCct,TCct,i1,i2,hg,hLm,hw,e1,d1,Int.toNat_natCast];with_reducible rfl)))
     refine roundK.on (i + 1) ⟨⟨h',next (fun h => hcz h.1)⟩,by omega⟩ ?_
     (repeat' (first|with_reducible refine Qn|((with_reducible refine Qr ?_ ?_);focus (first|with_reducible rfl|(simp only [Zz,Nat.reduceBEq];done)|rfl))|((with_reducible refine Qj (o':=?_) ?_ ?_ ?_);rotate_left 1;focus rfl)|((with_reducible refine Qw ?_ ?_);(focus (first|with_reducible rfl|(simp only [Zv];done)));focus (first|exact id|exact (fun h => nomatch h)|exact (fun _ => rfl)))))
   ·have i1:((i:Int) < (L.length:Int)) = False:=eq_false (by omega)
    obtain rfl:i = L.length:=by omega
    rw [List.take_length] at hlow
    repeat' (first|with_reducible (first|refine Q1 ?_|refine Q2 ?_|refine Q3 ?_|refine Q4 ?_|refine Q5 ?_|refine Q6 ?_|refine Q7 ?_|refine Q8 ?_|refine Q9 ?_|refine Qa ?_|refine Qb ?_|refine Qc ?_|refine Qd ?_|refine Qe ?_|refine Qf ?_)|((with_reducible refine Qo ?_ ?_);focus rfl)|((with_reducible first|refine QT 37 (l:=?_) ?_ ?_|refine QF 37 (l:=?_) ?_ ?_);rotate_left 1;focus (simp only [Zu,Nat.reduceSub,Nat.reduceBEq];with_reducible rfl))|((with_reducible first|refine QS (cfg_ok 54) Tab.none (s':=?_) ?_ ?_|refine QC (b:=?_) ?_ ?_);rotate_left 1;focus ((with_reducible refine QW ?_);simp only [Zg,seval,if_true,if_false,reduceCtorEq,Nat.reduceEqDiff,i1];with_reducible rfl)))
    refine roundK.out () hlow ?_
    (repeat' (first|with_reducible refine Qn|((with_reducible refine Qr ?_ ?_);focus (first|with_reducible rfl|(simp only [Zz,Nat.reduceBEq];done)|rfl))|((with_reducible refine Qj (o':=?_) ?_ ?_ ?_);rotate_left 1;focus rfl)|((with_reducible refine Qw ?_ ?_);(focus (first|with_reducible rfl|(simp only [Zv];done)));focus (first|exact id|exact (fun h => nomatch h)|exact (fun _ => rfl)))))
  ·rintro _ hno
   rw [numC_no hno]
   repeat' (first|with_reducible (first|refine Q1 ?_|refine Q2 ?_|refine Q3 ?_|refine Q4 ?_|refine Q5 ?_|refine Q6 ?_|refine Q7 ?_|refine Q8 ?_|refine Q9 ?_|refine Qa ?_|refine Qb ?_|refine Qc ?_|refine Qd ?_|refine Qe ?_|refine Qf ?_)|((with_reducible refine Qo ?_ ?_);focus rfl)|((with_reducible first|refine QT 37 (l:=?_) ?_ ?_|refine QF 37 (l:=?_) ?_ ?_);rotate_left 1;focus (simp only [Zu,Nat.reduceSub,Nat.reduceBEq];with_reducible rfl))|((with_reducible first|refine QS (cfg_ok 54) Tab.none (s':=?_) ?_ ?_|refine QC (b:=?_) ?_ ?_);rotate_left 1;focus ((with_reducible refine QW ?_);simp only [Zg,seval,if_true,if_false,reduceCtorEq,Nat.reduceEqDiff];with_reducible rfl)))
   (refine Ends.mk (by simp) (rs:=?_) (ks:=?_) hres hrts ?_ ?_ ?_;rotate_left 2;(focus (simp only [Ze,Zg,seval,if_true,if_false,reduceCtorEq,Nat.reduceEqDiff];with_reducible rfl));(focus simp);focus (first|with_reducible rfl|(simp only [Zv];done)))
end Go.Proofs.YtgngidchldajhaaGreat
namespace Go.Proofs.YtgngidchldajhaaGreat
open Go.RowKit
theorem AFn.of_v2 {P:Program} {f:FuncId} {ds:List (List D)} {d1 d2:D} {v1 v2:Value} (eg:∀ args w,(callFunc f args).run P w = .ok (.enter f args) w) (h1:∀ A w,rdV A w v1 d1) (h2:∀ A w,rdV A w v2 d2)
  (h:∀ (w:World) (A:Nat→Prop) vs,relArgs A w ds vs→Calls P f vs.toArray w (RetV w (.tuple #[v1,v2]))):AFn P f ds (· = [.val d1,.val d2]):=by
 refine ⟨eg,fun A w vs hA hv => (h w A vs hv).mono ?_⟩
 rintro e w' ⟨rfl,hb⟩
 exact ⟨_,_,rfl,rfl,hb,[v1,v2],[],[],rfl,List.nodup_nil,by simp,v1,[v2],[],[],[],[],rfl,rfl,rfl,(h1 (fun _ => True) w).one,⟨h1 _ _,rfl,rfl⟩,v2,[],[],[],[],[],rfl,rfl,rfl,(h2 (fun _ => True) w).one,⟨h2 _ _,rfl,rfl⟩,rfl,rfl,rfl⟩
end Go.Proofs.YtgngidchldajhaaGreat
namespace Go.Proofs.YtgngidchldajhaaGreat
open Go.RowKit
theorem ChgF.cell {F:List Nat} {w w':World} (h:ChgF F w w') {g off:Nat} (hg:g < w.heap.size) (hn:g ∉ F):w'.cell? ⟨g,off,none⟩ = w.cell? ⟨g,off,none⟩:=by
 have:=h.block g hg hn
 simp only [World.cell?,this]
section
variable {β γ:Type} {S:Rep β} {T:Rep γ} {w:World}
end
end Go.Proofs.YtgngidchldajhaaGreat
namespace Go.Proofs.YtgngidchldajhaaGreat
open Go.RowKit
def eK (c:(List (List Int) × List Int) × Int):List D:=[.sl 1 (c.1.1.map eL),.sl 1 (c.1.2.map eI),.int c.2]
end Go.Proofs.YtgngidchldajhaaGreat
namespace Go.Proofs.YtgngidchldajhaaGreat
def fIdx {α:Type} (p:α→Bool):List α→Option Nat
 | [] => none
 | x :: xs => if p x then some 0 else (fIdx p xs).map (· + 1)
def idxI (o:Option Nat):Int:=match o with|some i => i|none => -1
theorem fIdx_none {α:Type} {p:α→Bool}:∀ {xs:List α},fIdx p xs = none ↔ ∀ x ∈ xs,p x = false
 | [] => by simp [fIdx]
 | x :: xs => by
  unfold fIdx
  by_cases h:p x = true
  ·simp [h]
  ·have h':p x = false:=by simpa using h
   simp only [h,Bool.false_eq_true,if_false,Option.map_eq_none_iff,fIdx_none (xs:=xs)]
   simp [h']
theorem fIdx_some {α:Type} {p:α→Bool}:∀ {xs:List α} {i:Nat},fIdx p xs = some i→∃ h:i < xs.length,p xs[i] = true∧∀ x ∈ xs.take i,p x = false
 | x :: xs,i,h => by
  unfold fIdx at h
  by_cases hx:p x = true
  ·rw [if_pos hx] at h;cases h
   exact ⟨by simp,hx,by simp⟩
  ·rw [if_neg hx] at h
   obtain ⟨j,hj,rfl⟩:=map_some h
   obtain ⟨h1,h2,h3⟩:=fIdx_some hj
   refine ⟨by simpa using h1,h2,fun y hy => ?_⟩
   rw [List.take_succ_cons,List.mem_cons] at hy
   rcases hy with rfl|hy
   ·simpa using hx
   ·exact h3 y hy
theorem fIdx_at {α:Type} {p:α→Bool}:∀ {xs:List α} {i:Nat} (h:i < xs.length),p xs[i] = true→(∀ x ∈ xs.take i,p x = false)→fIdx p xs = some i
 | x :: xs,0,_,h1,_ => by
  have h1:p x = true:=h1
  unfold fIdx;rw [if_pos h1]
 | x :: xs,i + 1,h,h1,h2 => by
  unfold fIdx
  have hx:p x = false:=h2 x (by simp)
  rw [if_neg (by simp [hx]),fIdx_at (xs:=xs) (i:=i) (by simpa using h) h1 (fun y hy => h2 y (by simp [hy]))]
  rfl
def keepF {α:Type} (p:α→Bool) (xs:List α):List α:=xs.filter fun x => !p x
end Go.Proofs.YtgngidchldajhaaGreat

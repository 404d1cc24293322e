/- Lemmas (12). -/
import Derived.ChangeSame
import Derived.Deep.RegionLaw
import Derived.Test.YtfhmonacgmakbaaZA0
import Derived.Test.YtfhmonacgmakbaaZA2
import Derived.Test.YtfhmonacgmakbaaZA4
import Derived.Test.YtfhmonacgmakbaaZA5
import Derived.Test.YtfhmonacgmakbaaZA6
import Derived.Test.YtfhmonacgmakbaaZA7
import Derived.Test.YtfhmonacgmakbaaZA8
import Derived.Test.YtfhmonacgmakbaaZA9
import Derived.Test.YtfhmonacgmakbaaZA10
import Derived.Test.YtfhmonacgmakbaaZA11
set_option linter.unusedSimpArgs false
set_option linter.unusedVariables false
namespace Go.Proofs.Ytfhmonacgmakbaa
open Go.RowKit
theorem AFn.oo {P:Program} {f:FuncId} {α:Type} {R:Rep α} {e:α→List D} (E:Enc R e) {ds:List (List D)} {xs:List α} (h:AFn P f ds (· = [.own R.k (xs.map e) true])) {w:World} {vs:List Value} (hv:relArgs (· < w.heap.size) w ds vs) :
  Calls P f vs.toArray w (RetO (RS R) w xs):=by
 refine (h.fn _ w vs (fun _ h => h) hv).mono ?_
 rintro e' w' ⟨v,rs,rfl,rfl,hb,us,G,X,rfl,hG,hG2,u,us',G1,G2,Y1,Y2,rfl,rfl,rfl,h1,⟨og,cap,F,dd,rfl,hrow,hk,rfl,rfl,hel⟩,rfl,rfl,rfl⟩
 obtain ⟨d,hk',hel⟩:=hel
 simp only [List.length_map] at hrow
 have hel':=enc_ownL_of E hel
 refine ⟨_,rfl,⟨og.toList ++ F,⟨slv og xs.length cap,og,dd,F,by show [slv og (xs.map e).length cap] = _;rw [List.length_map],hrow,hel',rfl⟩,?_,fun b hb' => ⟨hG2 b (by simpa using hb'),?_⟩⟩,hb⟩
 ·simpa using hG
 ·rcases List.mem_append.1 hb' with hb'|hb'
  ·exact hrow.lt b (by simpa using hb')
  ·exact hel'.lt b hb'
theorem args0 {w:World}:relArgs (· < w.heap.size) w [] []:=rfl
def exaV (t:List Int):Int:=powG 14 (mP (densF 8 t)) 10005 1
def exaM:List Int:=1 :: T6.map exaV
theorem exaM_cnt:cnt_I exaM ≤ 1048576:=by
 unfold exaM cnt_I
 rw [List.length_cons,List.length_map,T6_len];decide
theorem densF_in64:∀ (n:Nat) (t:List Int),t.length ≤ 1000000→In64 (densF n t)
 | 0,t,_ => by unfold densF In64;omega
 | n + 1,t,h => by
  have key:∀ (bs:List (List Int)) (a:Int),In64 a→In64 (bs.foldl (fun o b => wrap64 (o * densF n b)) a):=by
   intro bs
   induction bs with
   | nil => intro a h;exact h
   | cons b bs ih => intro a _;exact ih _ (by show In64 (wrap64 (a * densF n b));unfold In64 wrap64;omega)
  exact key _ _ (by unfold In64;omega)
theorem a_density (t:List Int) (h:LevP t) (hl:t.length ≤ 8):AFn Try.prog 34 [eL t] (· = [.val (.int (densF 8 t))]) :=
 AFn.of_v (enters_of Try.func34 rfl rfl) (fun _ _ => rdV_int.2 ⟨rfl,densF_in64 8 t (by omega)⟩) (fun w A vs ⟨v1,_,e1,h1,e2⟩ => by subst e2;subst e1;exact c_impl_density 8 v1 t w (Rd.of (rd1 h1)) h hl (by omega))
theorem a_l03Density (t:List Int) (h:LevP t) (hl:t.length ≤ 8):AFn Try.prog 31 [eL t] (· = [.val (.int (densF 8 t))]) :=
 AFn.of_v (enters_of Try.func31 rfl rfl) (fun _ _ => rdV_int.2 ⟨rfl,densF_in64 8 t (by omega)⟩) (fun w A vs ⟨v1,_,e1,h1,e2⟩ => by subst e2;subst e1;exact c_spec_l03Density 8 v1 t w (Rd.of (rd1 h1)) h hl (by omega))
theorem a_UnitMapE:AFn Try.prog 24 [] (· = [.own 1 (unitMap.map eI) true]) :=
 AFn.of_o encI (enters_of Try.func24 rfl rfl) (fun w A vs h => by subst h;exact k_impl_UnitMap w)
def exaR (i:Nat):List Int:=1 :: (T6.take i).map exaV ++ List.replicate (37 - i) 0
theorem exaR_len (i:Nat) (h:i ≤ 37):(exaR i).length = 38:=by
 unfold exaR
 rw [List.length_append,List.length_cons,List.length_map,List.length_take,List.length_replicate,T6_len];omega
theorem exaR_set (i:Nat) (h:i < T6.length):(exaR i).set (i + 1) (exaV T6[i]) = exaR (i + 1):=by
 have h37:i < 37:=by rw [T6_len] at h;exact h
 have hr:List.replicate (37 - i) (0:Int) = 0 :: List.replicate (37 - (i + 1)) 0:=by rw [← List.replicate_succ];congr 1;omega
 have hl:((1:Int) :: (T6.take i).map exaV).length = i + 1:=by rw [List.length_cons,List.length_map,List.length_take];omega
 unfold exaR
 rw [hr,List.set_append_right _ _ (by omega),hl,Nat.sub_self,List.set_cons_zero,List.take_succ_eq_append_getElem h,List.map_append,← List.cons_append,List.append_assoc]
 rfl
theorem exaR_end:exaR 37 = exaM:=by
 unfold exaR exaM
 rw [List.take_of_length_le (by rw [T6_len];omega),Nat.sub_self,List.replicate_zero,List.append_nil]
set_option maxRecDepth 20000 in
set_option maxHeartbeats 16000000 in
theorem a_exactMap (X:List (List D)):AFn Try.prog 20 [[.sl 1 (T6.map eL),.sl 1 X]] (· = [.own 1 (exaM.map eI) true]):=by
 obtain ⟨T,hT⟩:∃ T,T = T6.map eL:=⟨_,rfl⟩
 have hTl:T.length = 37:=by rw [hT,List.length_map,T6_len]
 have hu:=a_UnitMapE
 rw [show unitMap = exaR 0 from rfl] at hu
 have hul:((exaR 0).map eI).length = 38:=by rw [List.length_map,exaR_len 0 (by omega)]
 rw [← hT]
 refine AFn.of_runs (cfg_ok 25) Try.func20 rfl rfl rfl (by simp only [List.length_cons,List.length_nil];decide) ?_
 have hres:Try.f20.results.toList = [.tmp 2]:=rfl
 have hrts:Try.f20.resultTypes.toList = [22]:=rfl
 simp only [argRegs,argAV1,eL,eI,eLL,eB,Nat.zero_add,Nat.reduceAdd]
 intro M
 refine RunK.of ?_
 repeat' (first|with_reducible (first|refine Q1 ?_|refine Q2 ?_|refine Q3 ?_|refine Q4 ?_|refine Q5 ?_|refine Q6 ?_|refine Q7 ?_|refine Q8 ?_|refine Q9 ?_|refine Qa ?_|refine Qb ?_|refine Qc ?_|refine Qd ?_|refine Qe ?_|refine Qf ?_)|((with_reducible refine Qo ?_ ?_);focus rfl)|((with_reducible first|refine QT 11 (l:=?_) ?_ ?_|refine QF 11 (l:=?_) ?_ ?_);rotate_left 1;focus (simp only [Zu,Nat.reduceSub,Nat.reduceBEq];with_reducible rfl))|((with_reducible first|refine QS (cfg_ok 25) (Tab.none.at' 24 hu) (s':=?_) ?_ ?_|refine QC (b:=?_) ?_ ?_);rotate_left 1;focus ((with_reducible refine QW ?_);simp only [Zg,seval,if_true,if_false,reduceCtorEq,Nat.reduceEqDiff,hTl,hul];with_reducible rfl)))
 refine RunK.loop (β:=Nat) (γ:=Unit) (fun i => ⟨[(3,.c (.own 3 38)),(8,.c (.val (.sl 1 T))),(9,.c (.val (.int 37))),(10,.c (.val (.int i)))],[(3,.row 1 ((exaR i).map eI) true)]⟩) (fun i => i ≤ 37) (fun i => 37 - i)
  (fun _ => ⟨[(3,.c (.own 3 38))],[(3,.row 1 (exaM.map eI) true)]⟩) (fun _ => True) 0 (Nat.zero_le _) ?_ ?_ ?_
 ·(repeat' (first|with_reducible refine Qn|((with_reducible refine Qr ?_ ?_);focus (first|with_reducible rfl|(simp only [Zz,Nat.reduceBEq,Int.natCast_zero];done)|rfl))|((with_reducible refine Qj (o':=?_) ?_ ?_ ?_);rotate_left 1;focus rfl)|((with_reducible refine Qw ?_ ?_);(focus (first|with_reducible rfl|(simp only [Zv,Int.natCast_zero];done)));focus (first|exact id|exact (fun h => nomatch h)|exact (fun _ => rfl)))))
 ·intro i hi
  have hi:i ≤ 37:=hi
  have hw:=w64_succ (n:=i) (by omega)
  by_cases hi37:i < 37
  ·have i1:((i:Int) < 37) = True:=eq_true (by omega)
   have i2:((0:Int) ≤ (i:Int)) = True:=eq_true (by omega)
   have i3:(((i + 1:Nat):Int) < 38) = True:=eq_true (by omega)
   have i4:((0:Int) ≤ ((i + 1:Nat):Int)) = True:=eq_true (by omega)
   have hiT:i < T6.length:=by rw [T6_len];exact hi37
   have hst:=exaR_set i hiT
   have hrl:=exaR_len i hi
   obtain ⟨t,ht⟩:∃ t,t = T6[i]:=⟨_,rfl⟩
   have htm:t ∈ T6:=by rw [ht];exact List.getElem_mem _
   rw [← ht] at hst
   have hg:T[i]? = some [.sl 1 (t.map eI)]:=by rw [hT,map_get hiT,ht];rfl
   obtain ⟨hct,hcl⟩:=T6_ok t htm
   obtain ⟨hlev,_⟩:=canT_lev hct
   have hd:=a_density t hlev (by omega)
   have hn:=a_num (densF 8 t)
   have hv:=a_inv (mP (densF 8 t)) (mP_bdW _)
   have e:powG 14 (mP (densF 8 t)) 10005 1 = exaV t:=rfl
   rw [e] at hv
   simp only [eL,eI] at hd hn hv
   obtain ⟨R,hR⟩:∃ R,R = exaR i:=⟨_,rfl⟩
   rw [← hR] at hst hrl ⊢
   have hRm:(R.map eI).length = 38:=by rw [List.length_map,hrl]
   have hRg:(R.map eI)[i + 1]? = some [.int (R.getD (i + 1) 0)]:=by rw [map_get (by omega),getD_at (by omega)];rfl
   repeat' (first|with_reducible (first|refine Q1 ?_|refine Q2 ?_|refine Q3 ?_|refine Q4 ?_|refine Q5 ?_|refine Q6 ?_|refine Q7 ?_|refine Q8 ?_|refine Q9 ?_|refine Qa ?_|refine Qb ?_|refine Qc ?_|refine Qd ?_|refine Qe ?_|refine Qf ?_)|((with_reducible refine Qo ?_ ?_);focus rfl)|((with_reducible first|refine QT 11 (l:=?_) ?_ ?_|refine QF 11 (l:=?_) ?_ ?_);rotate_left 1;focus (simp only [Zu,Nat.reduceSub,Nat.reduceBEq];with_reducible rfl))|((with_reducible first|refine QS (cfg_ok 25) (((Tab.none.at' 34 hd).at' 33 hn).at' 32 hv) (s':=?_) ?_ ?_|refine QC (b:=?_) ?_ ?_);rotate_left 1;focus ((with_reducible refine QW ?_);simp only [Zg,seval,if_true,if_false,reduceCtorEq,Nat.reduceEqDiff,i1,i2,i3,i4,hg,hTl,hw,hRm,hRg,Int.toNat_natCast];with_reducible rfl)))
   refine roundK.on (i + 1) ⟨by omega,by omega⟩ ?_
   rw [← hst,List.map_set]
   (repeat' (first|with_reducible refine Qn|((with_reducible refine Qr ?_ ?_);focus (first|with_reducible rfl|(simp only [Zz,Nat.reduceBEq,eI];done)|rfl))|((with_reducible refine Qj (o':=?_) ?_ ?_ ?_);rotate_left 1;focus rfl)|((with_reducible refine Qw ?_ ?_);(focus (first|with_reducible rfl|(simp only [Zv,eI];done)));focus (first|exact id|exact (fun h => nomatch h)|exact (fun _ => rfl)))))
  ·have i1:((i:Int) < 37) = False:=eq_false (by omega)
   obtain rfl:i = 37:=by omega
   repeat' (first|with_reducible (first|refine Q1 ?_|refine Q2 ?_|refine Q3 ?_|refine Q4 ?_|refine Q5 ?_|refine Q6 ?_|refine Q7 ?_|refine Q8 ?_|refine Q9 ?_|refine Qa ?_|refine Qb ?_|refine Qc ?_|refine Qd ?_|refine Qe ?_|refine Qf ?_)|((with_reducible refine Qo ?_ ?_);focus rfl)|((with_reducible first|refine QT 11 (l:=?_) ?_ ?_|refine QF 11 (l:=?_) ?_ ?_);rotate_left 1;focus (simp only [Zu,Nat.reduceSub,Nat.reduceBEq];with_reducible rfl))|((with_reducible first|refine QS (cfg_ok 25) Tab.none (s':=?_) ?_ ?_|refine QC (b:=?_) ?_ ?_);rotate_left 1;focus ((with_reducible refine QW ?_);simp only [Zg,seval,if_true,if_false,reduceCtorEq,Nat.reduceEqDiff,i1];with_reducible rfl)))
   refine roundK.out () trivial ?_
   rw [exaR_end]
   (repeat' (first|with_reducible refine Qn|((with_reducible refine Qr ?_ ?_);focus (first|with_reducible rfl|(simp only [Zz,Nat.reduceBEq];done)|rfl))|((with_reducible refine Qj (o':=?_) ?_ ?_ ?_);rotate_left 1;focus rfl)|((with_reducible refine Qw ?_ ?_);(focus (first|with_reducible rfl|(simp only [Zv];done)));focus (first|exact id|exact (fun h => nomatch h)|exact (fun _ => rfl)))))
 ·rintro _ _
  repeat' (first|with_reducible (first|refine Q1 ?_|refine Q2 ?_|refine Q3 ?_|refine Q4 ?_|refine Q5 ?_|refine Q6 ?_|refine Q7 ?_|refine Q8 ?_|refine Q9 ?_|refine Qa ?_|refine Qb ?_|refine Qc ?_|refine Qd ?_|refine Qe ?_|refine Qf ?_)|((with_reducible refine Qo ?_ ?_);focus rfl)|((with_reducible first|refine QT 11 (l:=?_) ?_ ?_|refine QF 11 (l:=?_) ?_ ?_);rotate_left 1;focus (simp only [Zu,Nat.reduceSub,Nat.reduceBEq];with_reducible rfl))|((with_reducible first|refine QS (cfg_ok 25) Tab.none (s':=?_) ?_ ?_|refine QC (b:=?_) ?_ ?_);rotate_left 1;focus ((with_reducible refine QW ?_);simp only [Zg,seval,if_true,if_false,reduceCtorEq,Nat.reduceEqDiff];with_reducible rfl)))
  (refine Ends.mk (by simp) (rs:=?_) (ks:=?_) hres hrts ?_ ?_ ?_;rotate_left 2;(focus (simp only [Ze,Zg,seval,if_true,if_false,reduceCtorEq,Nat.reduceEqDiff];with_reducible rfl));(focus simp);focus (first|with_reducible rfl|(simp only [Zv];done)))
set_option maxHeartbeats 4000000 in
theorem a_impl_ExactMap:AFn Try.prog 6 [] (· = [.own 1 (exaM.map eI) true]):=by
 have hr:=a_exactMap ((T6.map cutsM).map eMs)
 refine AFn.of_runs (cfg_ok 3) Try.func6 rfl rfl rfl (by simp only [List.length_cons,List.length_nil];decide) ?_
 have hres:Try.f6.results.toList = [.tmp 0]:=rfl
 have hrts:Try.f6.resultTypes.toList = [22]:=rfl
 simp only [argRegs,argAV1,eL,eI,eLL,eB,Nat.zero_add,Nat.reduceAdd]
 intro M
 refine RunK.of ?_
 ((repeat' (first|with_reducible (first|refine Q1 ?_|refine Q2 ?_|refine Q3 ?_|refine Q4 ?_|refine Q5 ?_|refine Q6 ?_|refine Q7 ?_|refine Q8 ?_|refine Q9 ?_|refine Qa ?_|refine Qb ?_|refine Qc ?_|refine Qd ?_|refine Qe ?_|refine Qf ?_)|((with_reducible refine Qo ?_ ?_);focus rfl)|((with_reducible first|refine QT 1 (l:=?_) ?_ ?_|refine QF 1 (l:=?_) ?_ ?_);rotate_left 1;focus (simp only [Zu,Nat.reduceSub,Nat.reduceBEq];with_reducible rfl))|((with_reducible refine QC (b:=?_) ?_ ?_);rotate_left 1;focus ((with_reducible refine QW ?_);simp only [Zg,seval,if_true,if_false,reduceCtorEq,Nat.reduceEqDiff];with_reducible rfl))));((with_reducible refine QS (cfg_ok 3) Tab.none (s':=?_) ?_ ?_);rotate_left 1;focus ((with_reducible refine QW ?_);simp only [Zg,seval,if_true,if_false,reduceCtorEq,Nat.reduceEqDiff];with_reducible rfl));(repeat' (first|with_reducible (first|refine Q1 ?_|refine Q2 ?_|refine Q3 ?_|refine Q4 ?_|refine Q5 ?_|refine Q6 ?_|refine Q7 ?_|refine Q8 ?_|refine Q9 ?_|refine Qa ?_|refine Qb ?_|refine Qc ?_|refine Qd ?_|refine Qe ?_|refine Qf ?_)|((with_reducible refine Qo ?_ ?_);focus rfl)|((with_reducible first|refine QT 1 (l:=?_) ?_ ?_|refine QF 1 (l:=?_) ?_ ?_);rotate_left 1;focus (simp only [Zu,Nat.reduceSub,Nat.reduceBEq];with_reducible rfl))|((with_reducible refine QC (b:=?_) ?_ ?_);rotate_left 1;focus ((with_reducible refine QW ?_);simp only [Zg,seval,if_true,if_false,reduceCtorEq,Nat.reduceEqDiff];with_reducible rfl)))))
 ((repeat' (first|with_reducible (first|refine Q1 ?_|refine Q2 ?_|refine Q3 ?_|refine Q4 ?_|refine Q5 ?_|refine Q6 ?_|refine Q7 ?_|refine Q8 ?_|refine Q9 ?_|refine Qa ?_|refine Qb ?_|refine Qc ?_|refine Qd ?_|refine Qe ?_|refine Qf ?_)|((with_reducible refine Qo ?_ ?_);focus rfl)|((with_reducible first|refine QT 1 (l:=?_) ?_ ?_|refine QF 1 (l:=?_) ?_ ?_);rotate_left 1;focus (simp only [Zu,Nat.reduceSub,Nat.reduceBEq];with_reducible rfl))|((with_reducible refine QC (b:=?_) ?_ ?_);rotate_left 1;focus ((with_reducible refine QW ?_);simp only [Zg,seval,if_true,if_false,reduceCtorEq,Nat.reduceEqDiff];with_reducible rfl))));(with_reducible refine RunK.regCut (cfg_ok 3) Tab.none 0 (s1:=?_) ?_ ?_);rotate_left 1;(focus ((with_reducible refine QW ?_);simp only [Zg,seval,if_true,if_false,reduceCtorEq,Nat.reduceEqDiff];with_reducible rfl));simp only [List.toList_toArray,List.drop_succ_cons,List.drop_zero])
 refine ROps.callS (cfg_ok 3) rfl (d:=1) rfl (by decide) rfl rfl rfl rfl s_newForms ?_
 (refine ROps.opsT (cfg_ok 3) (T:=Tab.none.at' 20 hr) (s':=?_) ?_ ?_;rotate_left 1;focus (simp only [Zg,seval,if_true,if_false,reduceCtorEq,Nat.reduceEqDiff,frmD,List.map_cons,List.map_nil];with_reducible rfl))
 repeat' (first|with_reducible (first|refine Q1 ?_|refine Q2 ?_|refine Q3 ?_|refine Q4 ?_|refine Q5 ?_|refine Q6 ?_|refine Q7 ?_|refine Q8 ?_|refine Q9 ?_|refine Qa ?_|refine Qb ?_|refine Qc ?_|refine Qd ?_|refine Qe ?_|refine Qf ?_)|((with_reducible refine Qo ?_ ?_);focus rfl)|((with_reducible first|refine QT 1 (l:=?_) ?_ ?_|refine QF 1 (l:=?_) ?_ ?_);rotate_left 1;focus (simp only [Zu,Nat.reduceSub,Nat.reduceBEq];with_reducible rfl))|((with_reducible first|refine QS (cfg_ok 3) Tab.none (s':=?_) ?_ ?_|refine QC (b:=?_) ?_ ?_);rotate_left 1;focus ((with_reducible refine QW ?_);simp only [Zg,seval,if_true,if_false,reduceCtorEq,Nat.reduceEqDiff];with_reducible rfl)))
 (refine Ends.mk (by simp) (rs:=?_) (ks:=?_) hres hrts ?_ ?_ ?_;rotate_left 2;(focus (simp only [Ze,Zg,seval,if_true,if_false,reduceCtorEq,Nat.reduceEqDiff];with_reducible rfl));(focus simp);focus (first|with_reducible rfl|(simp only [Zv];done)))
theorem k_impl_ExactMap (w:World):Calls Try.prog 6 #[] w (RetO (RS RI) w exaM) :=
 AFn.oo encI a_impl_ExactMap args0
set_option maxRecDepth 20000 in
set_option maxHeartbeats 16000000 in
theorem a_l07Exact:AFn Try.prog 19 [] (· = [.own 1 (exaM.map eI) true]):=by
 have hto:AFn Try.prog 29 [[.int 6]] (· = [.val (.sl 1 (T6.map eL))]):=AFn.val1 (a_l03All 6 (by decide))
 obtain ⟨T,hT⟩:∃ T,T = T6.map eL:=⟨_,rfl⟩
 have hTl:T.length = 37:=by rw [hT,List.length_map,T6_len]
 rw [← hT] at hto
 refine AFn.of_runs (cfg_ok 22) Try.func19 rfl rfl rfl (by simp only [List.length_cons,List.length_nil];decide) ?_
 have hres:Try.f19.results.toList = [.tmp 0]:=rfl
 have hrts:Try.f19.resultTypes.toList = [22]:=rfl
 simp only [argRegs,argAV1,eL,eI,eLL,eB,Nat.zero_add,Nat.reduceAdd]
 intro M
 refine RunK.of ?_
 repeat' (first|with_reducible (first|refine Q1 ?_|refine Q2 ?_|refine Q3 ?_|refine Q4 ?_|refine Q5 ?_|refine Q6 ?_|refine Q7 ?_|refine Q8 ?_|refine Q9 ?_|refine Qa ?_|refine Qb ?_|refine Qc ?_|refine Qd ?_|refine Qe ?_|refine Qf ?_)|((with_reducible refine Qo ?_ ?_);focus rfl)|((with_reducible first|refine QT 4 (l:=?_) ?_ ?_|refine QF 4 (l:=?_) ?_ ?_);rotate_left 1;focus (simp only [Zu,Nat.reduceSub,Nat.reduceBEq];with_reducible rfl))|((with_reducible first|refine QS (cfg_ok 22) (Tab.none.at' 29 hto) (s':=?_) ?_ ?_|refine QC (b:=?_) ?_ ?_);rotate_left 1;focus ((with_reducible refine QW ?_);simp only [Zg,seval,if_true,if_false,reduceCtorEq,Nat.reduceEqDiff,hTl];with_reducible rfl)))
 refine RunK.loop (β:=Nat) (γ:=Unit) (fun i => ⟨[(1,.c (.val (.sl 1 T))),(2,.c (.own 2 (i + 1))),(3,.c (.val (.int i)))],[(2,.row 1 ((1 :: (T6.take i).map exaV).map eI) true)]⟩) (fun i => i ≤ 37) (fun i => 37 - i)
  (fun _ => ⟨[(2,.c (.own 2 38))],[(2,.row 1 (exaM.map eI) true)]⟩) (fun _ => True) 0 (Nat.zero_le _) ?_ ?_ ?_
 ·(repeat' (first|with_reducible refine Qn|((with_reducible refine Qr ?_ ?_);focus (first|with_reducible rfl|(simp only [Zz,Nat.reduceBEq,List.take_zero,List.map_nil,Int.natCast_zero,List.map_cons,eI];done)|rfl))|((with_reducible refine Qj (o':=?_) ?_ ?_ ?_);rotate_left 1;focus rfl)|((with_reducible refine Qw ?_ ?_);(focus (first|with_reducible rfl|(simp only [Zv,List.take_zero,List.map_nil,Int.natCast_zero,List.map_cons,eI];done)));focus (first|exact id|exact (fun h => nomatch h)|exact (fun _ => rfl)))))
 ·intro i hi
  have hi:i ≤ 37:=hi
  have hw:=w64_succ (n:=i) (by omega)
  by_cases hi37:i < 37
  ·have i1:((i:Int) < 37) = True:=eq_true (by omega)
   have i2:((0:Int) ≤ (i:Int)) = True:=eq_true (by omega)
   have hiT:i < T6.length:=by rw [T6_len];exact hi37
   obtain ⟨t,ht⟩:∃ t,t = T6[i]:=⟨_,rfl⟩
   have htm:t ∈ T6:=by rw [ht];exact List.getElem_mem _
   have hg:T[i]? = some [.sl 1 (t.map eI)]:=by rw [hT,map_get hiT,ht];rfl
   have hat:(1 :: (T6.take i).map exaV) ++ [exaV t] = 1 :: (T6.take (i + 1)).map exaV:=by
    rw [ht,List.take_succ_eq_append_getElem hiT,List.map_append];rfl
   obtain ⟨hct,hcl⟩:=T6_ok t htm
   obtain ⟨hlev,_⟩:=canT_lev hct
   have hd:=a_l03Density t hlev (by omega)
   have hf:=a_l01Frac1 (densF 8 t)
   have e:powG 14 (mP (densF 8 t)) 10005 1 = exaV t:=rfl
   rw [e] at hf
   simp only [eL,eI] at hd hf
   obtain ⟨R,hR⟩:∃ R,R = (1:Int) :: (T6.take i).map exaV:=⟨_,rfl⟩
   have hRm:(R.map eI).length = i + 1:=by rw [List.length_map,hR,List.length_cons,List.length_map,List.length_take];omega
   rw [← hR] at hat ⊢
   have q1:=big_le (n:=i + 1 + 1) (by omega)
   have q2:=big_mul (n:=i + 1 + 1) (c:=8) (by omega) (by omega)
   have q3:(i ≤ 140737488355326) = True:=eq_true (by omega)
   repeat' (first|with_reducible (first|refine Q1 ?_|refine Q2 ?_|refine Q3 ?_|refine Q4 ?_|refine Q5 ?_|refine Q6 ?_|refine Q7 ?_|refine Q8 ?_|refine Q9 ?_|refine Qa ?_|refine Qb ?_|refine Qc ?_|refine Qd ?_|refine Qe ?_|refine Qf ?_)|((with_reducible refine Qo ?_ ?_);focus rfl)|((with_reducible first|refine QT 4 (l:=?_) ?_ ?_|refine QF 4 (l:=?_) ?_ ?_);rotate_left 1;focus (simp only [Zu,Nat.reduceSub,Nat.reduceBEq];with_reducible rfl))|((with_reducible first|refine QS (cfg_ok 22) ((Tab.none.at' 31 hd).at' 30 hf) (s':=?_) ?_ ?_|refine QC (b:=?_) ?_ ?_);rotate_left 1;focus ((with_reducible refine QW ?_);simp only [Zg,seval,if_true,if_false,reduceCtorEq,Nat.reduceEqDiff,i1,i2,hg,hTl,hw,hRm,q1,q2,q3,Int.toNat_natCast];with_reducible rfl)))
   refine roundK.on (i + 1) ⟨by omega,by omega⟩ ?_
   rw [← hat,List.map_append]
   (repeat' (first|with_reducible refine Qn|((with_reducible refine Qr ?_ ?_);focus (first|with_reducible rfl|(simp only [Zz,Nat.reduceBEq,List.map_cons,List.map_nil,eI];done)|rfl))|((with_reducible refine Qj (o':=?_) ?_ ?_ ?_);rotate_left 1;focus rfl)|((with_reducible refine Qw ?_ ?_);(focus (first|with_reducible rfl|(simp only [Zv,List.map_cons,List.map_nil,eI];done)));focus (first|exact id|exact (fun h => nomatch h)|exact (fun _ => rfl)))))
  ·have i1:((i:Int) < 37) = False:=eq_false (by omega)
   obtain rfl:i = 37:=by omega
   repeat' (first|with_reducible (first|refine Q1 ?_|refine Q2 ?_|refine Q3 ?_|refine Q4 ?_|refine Q5 ?_|refine Q6 ?_|refine Q7 ?_|refine Q8 ?_|refine Q9 ?_|refine Qa ?_|refine Qb ?_|refine Qc ?_|refine Qd ?_|refine Qe ?_|refine Qf ?_)|((with_reducible refine Qo ?_ ?_);focus rfl)|((with_reducible first|refine QT 4 (l:=?_) ?_ ?_|refine QF 4 (l:=?_) ?_ ?_);rotate_left 1;focus (simp only [Zu,Nat.reduceSub,Nat.reduceBEq];with_reducible rfl))|((with_reducible first|refine QS (cfg_ok 22) Tab.none (s':=?_) ?_ ?_|refine QC (b:=?_) ?_ ?_);rotate_left 1;focus ((with_reducible refine QW ?_);simp only [Zg,seval,if_true,if_false,reduceCtorEq,Nat.reduceEqDiff,i1,hTl];with_reducible rfl)))
   refine roundK.out () trivial ?_
   rw [List.take_of_length_le (by rw [T6_len];omega),show exaM = 1 :: T6.map exaV from rfl,List.map_cons]
   (repeat' (first|with_reducible refine Qn|((with_reducible refine Qr ?_ ?_);focus (first|with_reducible rfl|(simp only [Zz,Nat.reduceBEq];done)|rfl))|((with_reducible refine Qj (o':=?_) ?_ ?_ ?_);rotate_left 1;focus rfl)|((with_reducible refine Qw ?_ ?_);(focus (first|with_reducible rfl|(simp only [Zv];done)));focus (first|exact id|exact (fun h => nomatch h)|exact (fun _ => rfl)))))
 ·rintro _ _
  repeat' (first|with_reducible (first|refine Q1 ?_|refine Q2 ?_|refine Q3 ?_|refine Q4 ?_|refine Q5 ?_|refine Q6 ?_|refine Q7 ?_|refine Q8 ?_|refine Q9 ?_|refine Qa ?_|refine Qb ?_|refine Qc ?_|refine Qd ?_|refine Qe ?_|refine Qf ?_)|((with_reducible refine Qo ?_ ?_);focus rfl)|((with_reducible first|refine QT 4 (l:=?_) ?_ ?_|refine QF 4 (l:=?_) ?_ ?_);rotate_left 1;focus (simp only [Zu,Nat.reduceSub,Nat.reduceBEq];with_reducible rfl))|((with_reducible first|refine QS (cfg_ok 22) Tab.none (s':=?_) ?_ ?_|refine QC (b:=?_) ?_ ?_);rotate_left 1;focus ((with_reducible refine QW ?_);simp only [Zg,seval,if_true,if_false,reduceCtorEq,Nat.reduceEqDiff];with_reducible rfl)))
  (refine Ends.mk (by simp) (rs:=?_) (ks:=?_) hres hrts ?_ ?_ ?_;rotate_left 2;(focus (simp only [Ze,Zg,seval,if_true,if_false,reduceCtorEq,Nat.reduceEqDiff];with_reducible rfl));(focus simp);focus (first|with_reducible rfl|(simp only [Zv];done)))
theorem a_spec_ExactMap:AFn Try.prog 5 [] (· = [.own 1 (exaM.map eI) true]):=by
 refine AFn.of_runs (cfg_ok 2) Try.func5 rfl rfl rfl (by simp only [List.length_cons,List.length_nil];decide) ?_
 have hres:Try.f5.results.toList = [.tmp 0]:=rfl
 have hrts:Try.f5.resultTypes.toList = [22]:=rfl
 simp only [argRegs,argAV1,eL,eI,eLL,eB,Nat.zero_add,Nat.reduceAdd]
 intro M
 refine RunK.of ?_
 repeat' (first|with_reducible (first|refine Q1 ?_|refine Q2 ?_|refine Q3 ?_|refine Q4 ?_|refine Q5 ?_|refine Q6 ?_|refine Q7 ?_|refine Q8 ?_|refine Q9 ?_|refine Qa ?_|refine Qb ?_|refine Qc ?_|refine Qd ?_|refine Qe ?_|refine Qf ?_)|((with_reducible refine Qo ?_ ?_);focus rfl)|((with_reducible first|refine QT 1 (l:=?_) ?_ ?_|refine QF 1 (l:=?_) ?_ ?_);rotate_left 1;focus (simp only [Zu,Nat.reduceSub,Nat.reduceBEq];with_reducible rfl))|((with_reducible first|refine QS (cfg_ok 2) (Tab.none.at' 19 a_l07Exact) (s':=?_) ?_ ?_|refine QC (b:=?_) ?_ ?_);rotate_left 1;focus ((with_reducible refine QW ?_);simp only [Zg,seval,if_true,if_false,reduceCtorEq,Nat.reduceEqDiff];with_reducible rfl)))
 (refine Ends.mk (by simp) (rs:=?_) (ks:=?_) hres hrts ?_ ?_ ?_;rotate_left 2;(focus (simp only [Ze,Zg,seval,if_true,if_false,reduceCtorEq,Nat.reduceEqDiff];with_reducible rfl));(focus simp);focus (first|with_reducible rfl|(simp only [Zv];done)))
theorem k_spec_ExactMap (w:World):Calls Try.prog 5 #[] w (RetO (RS RI) w exaM) :=
 AFn.oo encI a_spec_ExactMap args0
end Go.Proofs.Ytfhmonacgmakbaa
namespace Go.Proofs.Ytfhmonacgmakbaa
open Go.RowKit
set_option maxHeartbeats 1000000 in
theorem walk_FnExactExactMap   (w:World) :Calls Try.prog 3 #[] w (RetV w (.bool true)):=by
 go_enter Try.func3,Try.ntmps3
 go_wp2_with fail
 refine (k_spec_ExactMap   _ ).mono ?_
 rintro e w1 ⟨u1,rfl,o1,B1⟩
 have s1:=B1.size
 have BB:=B1.mono (B':=w.heap.size) (by omega)
 go_wp2_with fail
 refine (k_impl_ExactMap   _ ).mono ?_
 rintro e w2 ⟨u2,rfl,o2,B2⟩
 have s2:=B2.size
 replace o1:=o1.below B2 (by omega)
 replace BB:=BB.trans (B2.mono (B':=w.heap.size) (by omega))
 go_wp2_with fail
 refine (eqv_I _ _ exaM _ o2.rd o1.rd).mono ?_
 rintro e w3 ⟨rfl,B3⟩
 have s3:=B3.size
 replace o1:=o1.below B3 (by omega)
 replace o2:=o2.below B3 (by omega)
 replace BB:=BB.trans (B3.mono (B':=w.heap.size) (by omega))
 go_wp2_with fail
 have p4:=exaM_cnt
 refine (mark_I _ exaM _ _ 1 _ o2 (by omega) (by omega)).mono ?_
 rintro e w4 ⟨rfl,o2n,B4⟩
 have s4:=B4.size
 replace o1:=o1.apart B4 (by omega)
 replace o2:=o2n
 clear o2n
 replace BB:=BB.trans (B4.below (B:=w.heap.size) (by omega) (by omega))
 go_wp2_with fail
 refine (held_I _ exaM 1 _ o2.rd (by omega) (by omega)).mono ?_
 rintro e w5 ⟨rfl,rfl⟩
 go_wp2_with fail
 refine (k_impl_ExactMap   _ ).mono ?_
 rintro e w6 ⟨u6,rfl,o6,B6⟩
 have s6:=B6.size
 replace o1:=o1.below B6 (by omega)
 replace o2:=o2.below B6 (by omega)
 replace BB:=BB.trans (B6.mono (B':=w.heap.size) (by omega))
 go_wp2_with fail
 refine (eqv_I _ _ exaM _ o6.rd o1.rd).mono ?_
 rintro e w7 ⟨rfl,B7⟩
 have s7:=B7.size
 replace o1:=o1.below B7 (by omega)
 replace o2:=o2.below B7 (by omega)
 replace o6:=o6.below B7 (by omega)
 replace BB:=BB.trans (B7.mono (B':=w.heap.size) (by omega))
 go_wp2_with fail
 refine (held_I _ exaM 1 _ o2.rd (by omega) (by omega)).mono ?_
 rintro e w8 ⟨rfl,rfl⟩
 go_wp2_with fail
 go_ret
 exact ⟨rfl,BB⟩
end Go.Proofs.Ytfhmonacgmakbaa
namespace Go.Proofs.Ytfhmonacgmakbaa
open Go.RowKit
def nxtH (h:Int):Int:=IntKind.u64.wrap (IntKind.u64.wrap (h * 6364136223846793005) + 1442695040888963407)
def nxtB (h:Int):Int:=wrap64 (bits BinOp.and IntKind.u64 (nxtH h / 8589934592) 16777215)
def nxtX (code:List Int) (i:Nat) (h:Int):Int:=if hi:i < code.length then wrap64 (nxtB h + code[i]) else nxtB h
def nxtF (code:List Int) (s:Nat × Int) (n:Int):Int × Nat × Int:=if n < 1 then (0,s) else ((nxtX code s.1 s.2).tmod n,if s.1 < code.length then s.1 + 1 else s.1,nxtH s.2)
theorem nxtB_bd (h:Int):0 ≤ nxtB h∧nxtB h ≤ 16777215:=by
 have h0:0 ≤ nxtH h∧nxtH h < 18446744073709551616:=by unfold nxtH IntKind.wrap;simp [IntKind.signed,IntKind.bits];omega
 have e:=bits_and_u64_nat (nxtH h / 8589934592).toNat 16777215 (by omega) (by omega)
 have e1:(((nxtH h / 8589934592).toNat:Nat):Int) = nxtH h / 8589934592:=by omega
 rw [e1] at e
 have hle:(nxtH h / 8589934592).toNat &&& 16777215 ≤ 16777215:=Nat.and_le_right
 unfold nxtB
 have e2:((16777215:Nat):Int) = 16777215:=rfl
 rw [e2] at e
 rw [e]
 unfold wrap64
 omega
theorem nxtX_bd {code:List Int} (hc:∀ c ∈ code,0 ≤ c∧c < 256) (i:Nat) (h:Int):0 ≤ nxtX code i h∧nxtX code i h ≤ 16777470:=by
 have h1:=nxtB_bd h
 unfold nxtX
 split
 ·rename_i hi
  have h2:=hc code[i] (List.getElem_mem _)
  unfold wrap64
  omega
 ·omega
theorem nxtF_bd {code:List Int} (hc:∀ c ∈ code,0 ≤ c∧c < 256) (s:Nat × Int) (n:Int):0 ≤ (nxtF code s n).1∧((nxtF code s n).1 < n ∨ (n < 1∧(nxtF code s n).1 = 0)):=by
 unfold nxtF
 split
 ·rename_i h;exact ⟨Int.le_refl _,.inr ⟨h,rfl⟩⟩
 ·rename_i h
  have h1:=nxtX_bd hc s.1 s.2
  show 0 ≤ (nxtX code s.1 s.2).tmod n∧((nxtX code s.1 s.2).tmod n < n ∨ _)
  rw [Int.tmod_eq_emod_of_nonneg h1.1]
  exact ⟨Int.emod_nonneg _ (by omega),.inl (Int.emod_lt_of_pos _ (by omega))⟩
def Byt (w:World) (b:Nat) (oa:Option Addr) (code:List Int):Prop:=(∀ c ∈ code,0 ≤ c∧c < 256)∧(code = [] ∨ ∃ b2 off,oa = some ⟨b2,off,none⟩∧b2 ≠ b∧∀ i (h:i < code.length),w.cell? ⟨b2,off + i,none⟩ = some (.int .u8 code[i]))
theorem row_set {w:World} {b k cap0:Nat} {ds:List Value} (hr:Row w (slv (some b) 1 cap0) k 1 ds (some b)) (j:Nat) (u:Value):Row (w.setCell ⟨b,j,none⟩ u) (slv (some b) 1 cap0) k 1 (ds.set j u) (some b):=(hr.store j u).1
theorem bel_set {w0:World} {w:World} {b:Nat} (h:Bel ⟨w0,fun c => c = b⟩ w) (j:Nat) (u:Value):Bel ⟨w0,fun c => c = b⟩ (w.setCell ⟨b,j,none⟩ u) :=
 ⟨h.os,h.tape,h.output,by simpa using h.size,fun k hk hn => (heap_setCell_other w ⟨b,j,none⟩ k u (fun e => hn e)).trans (h.block k hk hn)⟩
theorem row_drew {w:World} {b k cap0:Nat} {ds:List Value} (hr:Row w (slv (some b) 1 cap0) k 1 ds (some b)) (n:Nat):Row (w.drewN n) (slv (some b) 1 cap0) k 1 ds (some b):=hr
theorem bel_drew {w0:World} {w:World} {b:Nat} (h:Bel ⟨w0,fun c => c = b⟩ w) (n:Nat):Bel ⟨w0,fun c => c = b⟩ (w.drewN n):=⟨h.os,h.tape,h.output,h.size,h.block⟩
theorem bel_refl (w:World) (b:Nat):Bel ⟨w,fun c => c = b⟩ w:=⟨rfl,rfl,rfl,Nat.le_refl _,fun _ _ _ => rfl⟩
def RetN (w:World) (b:Nat) (oa:Option Addr) (cap cap0:Nat) (code:List Int) (r:Int × Nat × Int) (e:Ending) (w':World):Prop :=
 e = .returned (.int .i64 r.1)∧Row w' (slv (some b) 1 cap0) 3 1 [.slice oa code.length cap,.int .i64 r.2.1,.int .u64 r.2.2] (some b)∧Bel ⟨w,fun c => c = b⟩ w'
set_option maxRecDepth 100000 in
set_option maxHeartbeats 1000000 in
theorem c_below (w:World) (b:Nat) (oa:Option Addr) (code:List Int) (cap cap0:Nat) (s:Nat × Int) (n:Int) (hr:Row w (slv (some b) 1 cap0) 3 1 [.slice oa code.length cap,.int .i64 s.1,.int .u64 s.2] (some b)) (hB:Byt w b oa code) (hn:In64 n) (hat:s.1 ≤ code.length) (hl:code.length ≤ 1000000000) :
  Calls Try.prog 13 #[.pointer (some ⟨b,0,none⟩),.int .i64 n] w (RetN w b oa cap cap0 code (nxtF code s n)):=by
 obtain ⟨i,h⟩:=s
 have c0:=hr.cells 0 _ rfl
 have c1:=hr.cells 1 _ rfl
 have c2:=hr.cells 2 _ rfl
 have f0:=hr.frozen 0
 have f1:=hr.frozen 1
 have f2:=hr.frozen 2
 have hlt:=hr.lt b rfl
 simp only at c0 c1 c2 hat
 have HR:=Lib.hid hr
 by_cases hn1:n < 1
 ·have hF:nxtF code (i,h) n = (0,i,h):=if_pos hn1
  rw [hF]
  clear hr hB hF
  go_enter Try.func13,Try.ntmps13
  go_wp2
  go_ret
  exact ⟨rfl,HR.out,bel_refl w b⟩
 ·have hF:nxtF code (i,h) n = ((nxtX code i h).tmod n,if i < code.length then i + 1 else i,nxtH h):=if_neg hn1
  rw [hF]
  by_cases ha:i < code.length
  ·obtain ⟨b2,off,e,hne,hg⟩:=hB.2.resolve_left (fun e => by rw [e] at ha;cases ha)
   have hgi:=hg i ha
   clear hg
   have hc:=hB.1 code[i] (List.getElem_mem _)
   have hX:nxtX code i h = wrap64 (nxtB h + code[i]):=dif_pos ha
   rw [hX,if_pos ha]
   obtain ⟨c,hce⟩:∃ c,c = code[i]:=⟨_,rfl⟩
   rw [← hce] at hgi hc ⊢
   have hwc:wrap64 c = c:=by unfold wrap64;omega
   subst e
   clear hr hB hce hF hX
   go_enter Try.func13,Try.ntmps13
   go_wp2
   go_quiet (fail)
   go_wp2
   go_quiet (fail)
   go_wp2
   go_ret
   exact ⟨rfl,row_set (row_drew (row_set HR.out 2 _) _) 1 _,bel_set (bel_drew (bel_set (bel_refl w b) 2 _) _) 1 _⟩
  ·have hX:nxtX code i h = nxtB h:=dif_neg ha
   rw [hX,if_neg ha]
   clear hr hB hF hX
   go_enter Try.func13,Try.ntmps13
   go_wp2
   go_quiet (fail)
   go_wp2
   go_ret
   exact ⟨rfl,row_drew (row_set HR.out 2 _) _,bel_drew (bel_set (bel_refl w b) 2 _) _⟩
def hshS (m:Int) (h c:Int):Int:=IntKind.u64.wrap (IntKind.u64.wrap (IntKind.u64.wrap (h * 1099511628211) + c) + m)
def hshF (m h0:Int) (code:List Int):Int:=code.foldl (hshS m) h0
theorem hshF_snoc (m h0:Int) (code:List Int) (k:Nat) (h:k < code.length):hshF m h0 (code.take (k + 1)) = hshS m (hshF m h0 (code.take k)) code[k]:=by
 unfold hshF
 rw [List.take_succ_eq_append_getElem h,List.foldl_append];rfl
def RetP (w:World) (oa:Option Addr) (cap:Nat) (code:List Int) (h:Int) (e:Ending) (w':World):Prop :=
 e = .returned (.pointer (some ⟨w.heap.size,0,none⟩))∧Row w' (slv (some w.heap.size) 1 1) 3 1 [.slice oa code.length cap,.int .i64 0,.int .u64 h] (some w.heap.size)∧Below w.heap.size w w'
theorem cell_lt {w:World} {b off:Nat} {v:Value} (h:w.cell? ⟨b,off,none⟩ = some v):b < w.heap.size:=by
 rcases Nat.lt_or_ge b w.heap.size with h1|h1
 ·exact h1
 ·rw [World.cell?] at h
  simp [Array.getElem?_eq_none h1] at h
theorem byt_below {w w':World} {n b off:Nat} {v:Value} (hb:Below n w w') (hlt:b < n) (h:w.cell? ⟨b,off,none⟩ = some v):w'.cell? ⟨b,off,none⟩ = some v:=by
 rw [World.cell?] at h ⊢
 rw [hb.block b hlt]
 exact h
set_option maxRecDepth 100000 in
set_option maxHeartbeats 2000000 in
theorem c_roll (w:World) (seed:Int) (hs:0 ≤ seed∧seed < 1000000) (oa:Option Addr) (code:List Int) (cap:Nat) (hB:Byt w w.heap.size oa code) (hcap:code.length ≤ cap) (hnil:oa = none→cap = 0) (hl:code.length ≤ 1000000000) :
  Calls Try.prog 11 #[.slice oa code.length cap,.int .u64 seed] w (RetP w oa cap code (hshF 5 (seed * 8111 + code.length) code)):=by
 unfold RetP
 have HB:=Lib.hid hB
 obtain ⟨h0,hh0⟩:∃ h0,h0 = seed * 8111 + (code.length:Int):=⟨_,rfl⟩
 rw [← hh0]
 have HH:=Lib.hid hh0
 clear hB hh0
 go_enter Try.func11,Try.ntmps11
 go_wp2
 go_loopw [6] (fun i wr => ∃ k:Nat,k ≤ code.length∧i = .int .i64 k∧Row wr (slv (some w.heap.size) 1 1) 3 1 [.slice oa code.length cap,.int .i64 0,.int .u64 (hshF 5 h0 (code.take k))] (some w.heap.size)∧Below w.heap.size w wr) (fun i _ => code.length - (intOf i).toNat)
 case atStart =>
  refine ⟨0,Nat.zero_le _,rfl,?_,?_⟩
  ·rw [List.take_zero]
   show Row _ _ 3 1 [_,_,.int .u64 h0] _
   rw [HH.out]
   exact Row.lit w #[.slice oa code.length cap,.int .i64 0,.int .u64 _] _ 3 1 (by decide) rfl
  ·exact (Below.refl _ _).alloc (Nat.le_refl _) _
 case round =>
  obtain ⟨k,hk,rfl,hrow,hbel⟩:=hrel
  have c0:=hrow.cells 0 _ rfl
  have c2:=hrow.cells 2 _ rfl
  have f2:=hrow.frozen 2
  have hlt:=hrow.lt _ rfl
  have HR:=Lib.hid hrow
  have HL:=Lib.hid hbel
  clear hrow hbel
  by_cases hlt1:k < code.length
  ·by_cases hlt2:k < code.length
   ·have hB:=HB.out
    obtain ⟨b2,off,e,hne,hg⟩:=hB.2.resolve_left (fun e => by rw [e] at hlt1;cases hlt1)
    have hgi:=byt_below HL.out (cell_lt (hg k hlt1)) (hg k hlt1)
    have hc:=hB.1 code[k] (List.getElem_mem _)
    have hst:=hshF_snoc 5 h0 code k hlt1
    obtain ⟨c,hce⟩:∃ c,c = code[k]:=⟨_,rfl⟩
    rw [← hce] at hgi hc hst
    subst e
    have HS:=Lib.hid hst
    clear hB hg hce hst
    obtain ⟨h,hh⟩:∃ h,h = hshF 5 h0 (code.take k):=⟨_,rfl⟩
    rw [← hh] at HR HS c2
    clear hh
    go_wp2_with fail
    go_region
    go_wp2_with fail
    go_roundw
    case rel =>
     refine ⟨k + 1,by omega,by go_num,?_,?_⟩
     ·rw [HS.out]
      exact row_set HR.out 2 _
     ·have hz:Below w.heap.size w (wr.setCell ⟨w.heap.size,2,none⟩ (.int .u64 (hshS 5 h c))):=HL.out.setCell (Nat.le_refl _) _
      exact ⟨hz.os,hz.tape,hz.output,hz.size,hz.block⟩
    case measure => simp [intOf];omega
   ·exact absurd hlt1 hlt2
  ·have e:code.take k = code:=List.take_of_length_le (by omega)
   have HE:=Lib.hid e
   clear e
   go_wp2_with fail
   go_ret
   have hq:=HR.out
   rw [HE.out] at hq
   exact ⟨rfl,hq,HL.out⟩
end Go.Proofs.Ytfhmonacgmakbaa
namespace Go.Proofs.Ytfhmonacgmakbaa
open Go.RowKit
structure AFnP (P:Program) (f:FuncId) (ds:List (List D)) (r:List D):Prop where
 call:∀ args w,(callFunc f args).run P w = .ok (.enter f args) w
 fn:∀ (A:Nat→Prop) w vs,(∀ b,A b→b < w.heap.size)→relArgs A w ds vs →
  Calls P f vs.toArray w (fun e w' => ∃ b ds',e = .returned (.pointer (some ⟨b,0,none⟩))∧w.heap.size ≤ b∧Below w.heap.size w w'∧Row w' (slv (some b) 1 1) r.length 1 ds' (some b)∧0 < r.length∧rdCs (fun c => (A c ∨ w.heap.size ≤ c)∧c ≠ b) w' ds' r)
section
variable {P:Program} {cfg:Cfg} {M:Nat→Prop} {ops:Array Oper} {s s':St} {w0:W0} {w:World} {Ok:Nat→Prop} {N:Nat} {σ:Asg} {a:Act} {fs:List Fr} {Q:Exit→St→Prop} {T:Tab P} {H:List (Nat × Obj)}
theorem rdR_one {A:Nat→Prop} {w:World} {k:Nat} {ds:List Value} {r:List D} (h:rdR k A w ds [r]):rdCs A w ds r:=by
 obtain ⟨c,e,rfl,_,_,h1,h2⟩:=h.cons_inv
 have he:e = []:=List.eq_nil_of_length_eq_zero (by rw [h2.len];simp)
 rw [he,List.append_nil];exact h1
theorem ROps.callR (C:CfgOK P cfg) {o:Oper} {l:List Oper} {Q:St→Prop} (hg:o.guard = Option.none) {d:Nat} (hd:o.dst = some d) (hdN:d < cfg.N) {f:Operand} {args:Array Operand} {ts:Array TypeId} (ho:o.op = .call ⟨.value f,args,ts⟩) {g:FuncId} (hf:((opv s.regs f).bind avD).bind fnId = some g)
  {ds:List (List D)} (hds:aargs cfg (fun k => look k s.heap) s.regs args.toList ts.toList = some ds) (hs:opRefs s.regs args.toList = []) {r:List D} (hfn:AFnP P g ds r) (hfr:fresh s d = true) (h:∀ b,ROps P cfg M ops l Q ⟨insR d (.optr d 0 0) s.regs,insR d (.pin (some b) 1 r.length [r]) s.heap⟩):ROps P cfg M ops (o :: l) Q s:=by
 intro w0 Ok σ a w Q' hM hS hQ
 refine wpList_step (fun K hK => ?_)
 have hw:awanted ops s.regs o = some true:=by unfold awanted;rw [hg]
 rw [awanted_spec hS hw]
 simp only [if_true]
 obtain ⟨_,l2⟩:=aargs_rel C hS hds
 have hfv:a.eval f = .func (.func g) #[] #[]:=fnId_rel hS hf
 have hrun:(execOp a.eval o).run P w = .ok (.enter g (args.map a.eval)) w:=by
  unfold execOp
  rw [ho]
  simp [resolve,Deferred.ofValue,hfv,invoke,hfn.call]
 have hcall:=hfn.fn (Zn σ s.heap w) w (args.toList.map a.eval) (fun _ h => h.1) (l2 hs)
 unfold Oper.wp
 rw [hrun,Oper.upon_enter]
 have e:(args.toList.map a.eval).toArray = args.map a.eval:=by rw [← Array.toList_map,Array.toArray_toList]
 rw [← e]
 refine hcall.mono ?_
 rintro e w' ⟨b,ds',rfl,hb,hB,hrow,hk,hrd⟩
 have hfree:=fresh_free hfr
 obtain ⟨σ',k0,k1,k2,hZ,hS'⟩:=hS.new hB d (.row r.length [r] false) hfree (some b) 1 [] ds' hrow hk (fun σ' hok hF hg' hgo hZ hst => by
  show rdR r.length (Zn σ' _ w') w' ds' [r]
  refine rdR.single hk rfl (hrd.mono (fun c hc hlt => ?_))
  rcases hc.1 with h1|h1
  ·exact (hZ c h1).1
  ·refine ⟨hlt,by rw [hok];exact hS.ok1 c (.inl (Nat.le_trans hS.below.size h1)),fun q u hq e => ?_⟩
   simp only [look] at hq
   by_cases hqd:d = q
   ·subst hqd
    rw [hg'] at e
    cases e
    exact hc.2 rfl
   ·rw [if_neg hqd] at hq
    rw [hgo q (fun e => hqd e.symm)] at e
    have:=fp_lt hS hq c (fp_out e)
    omega) (fun c hc => by
   have hc:c ∈ [b] ++ []:=hc
   rw [List.append_nil,List.mem_singleton] at hc
   rw [hc];exact hb) (by simp)
 have hS2:=Sim.setObj hS' (key:=d) (u:=.row r.length [r] false) (ob:=.pin (some b) 1 r.length [r]) (by simp [look]) rfl rfl rfl (fun H' hm _ ds _ hel => by
  have hel:rdR r.length (Zn σ' _ w') w' ds [r]:=hel
  exact ⟨k1,k2,hel.mono (fun c hc _ => hm c hc)⟩)
 have hS3:Sim w0 Ok cfg.N σ' ⟨s.regs,insR d (.pin (some b) 1 r.length [r]) s.heap⟩ a w':=hS2.forget (fun _ _ h => h) (fun q o' ho' => by
  rw [look_ins] at ho'
  rw [look_ins]
  by_cases e:d = q
  ·rw [if_pos e] at ho' ⊢;exact ho'
  ·rw [if_neg e] at ho' ⊢
   simp only [look]
   rw [if_neg e];exact ho')
 show K (a.put o.dst _) _
 rw [hd]
 refine hK _ _ (h b w0 Ok σ' _ _ Q' hM (Sim.ins hS3 hdN ?_) hQ)
 intro o' ho'
 rw [look_ins,if_pos rfl] at ho'
 cases ho'
 exact ⟨Nat.zero_lt_one,b,k1,by simp⟩
end
def eU (c:Int):List D:=[.raw (.int .u8 c)]
def dCode (code:List Int):D:=.sl 1 (code.map eU)
def eCode (code:List Int):List D:=[dCode code]
def srcD (code:List Int) (s:Nat × Int):List D:=[.sl 1 (code.map eU),.int s.1,.raw (.int .u64 s.2)]
def Bytes (code:List Int):Prop:=∀ c ∈ code,0 ≤ c∧c < 256
theorem rdU {A:Nat→Prop} {w:World}:∀ {code:List Int} {ds:List Value} {d:Nat} {hk:0 < 1},rdL (RK 1 hk (RC d)) A w ds (code.map eU)→ds = code.map fun c => Value.int .u8 c
 | [],_,_,_,h => h
 | c :: code,ds,d,hk,⟨c1,d1,e,h1,h2⟩ => by
  obtain ⟨_,_,h3⟩:=h1
  have h3:=rdL_one1.1 h3
  have hc:c1 = [Value.int .u8 c]:=by
   have:rdV A w (c1.headD undef) (.raw (.int .u8 c)):=by
    obtain ⟨x,rfl⟩:∃ x,c1 = [x]:=by
     have:=(RC d).rd_len h3
     rw [RC_k] at this
     match c1,this with
     | [x],_ => exact ⟨x,rfl⟩
    exact ⟨d,h3⟩
   have hl:=(RC d).rd_len h3
   rw [RC_k] at hl
   match c1,hl,this with
   | [x],_,this => rw [show x = _ from (rdV_raw.1 this).1]
  rw [e,hc,rdU h2];rfl
theorem byt_of {A:Nat→Prop} {w:World} {v:Value} {code:List Int} {b:Nat} (hb:¬ A b) (hc:Bytes code) (h:rdV A w v (.sl 1 (code.map eU))):∃ oa cap,v = .slice oa code.length cap∧code.length ≤ cap∧cap ≤ maxLen∧(oa = none→cap = 0)∧Byt w b oa code:=by
 obtain ⟨oa,cap,ds,rfl,h1,h2,h3,h4,h5⟩:=rdV_sl.1 h
 rw [List.length_map] at h1 ⊢
 refine ⟨oa,cap,rfl,h1,h2,h3,hc,?_⟩
 obtain ⟨d,hk,h4⟩:=h4
 have e:=rdU h4
 rcases h5 with h5|⟨b2,off,h5,h6,h7⟩
 ·left
  rw [h5] at e
  cases code with
  | nil => rfl
  | cons => cases e
 ·by_cases hn:code = []
  ·exact .inl hn
  ·refine .inr ⟨b2,off,h5,fun e => hb (e ▸ h6),fun i hi => h7 i _ ?_⟩
   rw [e,List.getElem?_map,List.getElem?_eq_getElem hi];rfl
theorem nxtF_at {code:List Int} {s:Nat × Int} {n:Int} (h:s.1 ≤ code.length):(nxtF code s n).2.1 ≤ code.length:=by
 unfold nxtF
 split
 ·exact h
 ·show (if s.1 < code.length then s.1 + 1 else s.1) ≤ _
  split <;> omega
noncomputable def nxtG (code:List Int) (k:Nat) (xs:List (List D)) (post:List (List D)):Option (List Res × List (List D)):=by
 classical
 exact if h:∃ p:(Nat × Int) × Int,p.1.1 ≤ code.length∧k = 3∧xs = [srcD code p.1]∧post = [eI p.2] then some ([.val (.int (nxtF code h.choose.1 h.choose.2).1)],[srcD code (nxtF code h.choose.1 h.choose.2).2]) else none
noncomputable def nxtE (code:List Int):PinE:=⟨true,nxtG code⟩
theorem srcD_inj {code:List Int} {s s':Nat × Int} (h:srcD code s = srcD code s'):s = s':=by
 unfold srcD at h
 simp only [List.cons.injEq,D.int.injEq,D.raw.injEq,Value.int.injEq,true_and,and_true] at h
 exact Prod.ext (by omega) h.2
theorem nxtE_eq (code:List Int) (s:Nat × Int) (n:Int) (h:s.1 ≤ code.length):nxtG code 3 [srcD code s] [eI n] = some ([.val (.int (nxtF code s n).1)],[srcD code (nxtF code s n).2]):=by
 unfold nxtG
 have hx:∃ p:(Nat × Int) × Int,p.1.1 ≤ code.length∧3 = 3∧[srcD code s] = [srcD code p.1]∧[eI n] = [eI p.2]:=⟨(s,n),h,rfl,rfl,rfl⟩
 rw [dif_pos hx]
 obtain ⟨_,_,h2,h3⟩:=hx.choose_spec
 have e1:=srcD_inj (List.cons.inj h2).1
 have e2:n = hx.choose.2:=by
  exact D.int.inj (List.cons.inj (List.cons.inj h3).1).1
 rw [← e1,← e2]
section
variable {P:Program} {f:FuncId} {code:List Int} (hc:Bytes code) (eg:∀ args w,(callFunc f args).run P w = .ok (.enter f args) w)
 (hw:∀ (w:World) (b:Nat) (oa:Option Addr) (cap cap0:Nat) (s:Nat × Int) (n:Int),Row w (slv (some b) 1 cap0) 3 1 [.slice oa code.length cap,.int .i64 s.1,.int .u64 s.2] (some b)→Byt w b oa code→In64 n→s.1 ≤ code.length→code.length ≤ 1000000000 →
  Calls P f #[.pointer (some ⟨b,0,none⟩),.int .i64 n] w (RetN w b oa cap cap0 code (nxtF code s n)))
include hc eg hw
theorem nxt_ok (hl:code.length ≤ 1000000000) (k:Nat) (xs:List (List D)) (post:List (List D)) (x:List Res × List (List D)) (hx:(nxtE code).fn k xs post = some x):AEp P f (nxtE code).ptr k xs post (fun rs xs' => rs = x.1∧xs' = x.2):=by
 have hx:nxtG code k xs post = some x:=hx
 have key:∃ (s:Nat × Int) (n:Int),s.1 ≤ code.length∧k = 3∧xs = [srcD code s]∧post = [eI n]:=by
  unfold nxtG at hx
  split at hx
  ·rename_i h;obtain ⟨p,h1,h2,h3,h4⟩:=h;exact ⟨p.1,p.2,h1,h2,h3,h4⟩
  ·cases hx
 obtain ⟨s,n,h1,rfl,rfl,rfl⟩:=key
 rw [nxtE_eq code s n h1] at hx
 cases hx
 refine ⟨eg,fun A w us og cap0 ds hA hu hrow hk hrd hb => ?_⟩
 obtain ⟨b,hog⟩:=hrow.some_of (j:=0) Nat.zero_lt_one
 subst hog
 obtain ⟨cap1,hcv,_,_⟩:=hrow.slice
 have hb:=hb b rfl
 obtain ⟨u,us',rfl,hu1,hu2⟩:=hu
 have hu2:us' = []:=hu2
 subst hu2
 obtain ⟨rfl,hn⟩:=rdV_int.1 hu1
 have hrd:=rdR_one hrd
 obtain ⟨v0,ds1,rfl,hv0,hrd⟩:=hrd.cons_inv
 obtain ⟨v1,ds2,rfl,hv1,hrd⟩:=hrd.cons_inv
 obtain ⟨v2,ds3,rfl,hv2,hrd⟩:=hrd.cons_inv
 have hd3:ds3 = []:=List.eq_nil_of_length_eq_zero hrd.len
 subst hd3
 obtain ⟨rfl,hi⟩:=rdV_int.1 hv1
 obtain ⟨rfl,_⟩:=rdV_raw.1 hv2
 obtain ⟨oa,cap,rfl,hcap,hcm,hnil,hB⟩:=byt_of hb hc hv0
 refine (hw w b oa cap cap0 s n hrow hB hn h1 hl).mono ?_
 rintro e w' ⟨rfl,hrow',hbel⟩
 have hbd:=nxtF_bd hc s n
 have hin:In64 (nxtF code s n).1:=by unfold In64 at hn ⊢;omega
 have hat:=nxtF_at (n:=n) h1
 refine ⟨_,_,_,[.slice oa code.length cap,.int .i64 (nxtF code s n).2.1,.int .u64 (nxtF code s n).2.2],[.int .i64 (nxtF code s n).1],[],[],rfl,⟨rfl,rfl⟩,⟨hbel.os,hbel.tape,hbel.output,hbel.size,fun c hc hne => hbel.block c hc (fun e => hne (by show some b = some c;rw [show c = b from e]))⟩,rfl,List.nodup_nil,(by simp),?_,rfl,hrow',?_⟩
 ·exact ⟨_,[],[],[],[],[],rfl,rfl,rfl,rfl,⟨rdV_int.2 ⟨rfl,hin⟩,rfl,rfl⟩,rfl,rfl,rfl⟩
 ·refine rdR.single (by decide) rfl (.cons ((hv0.frame (fun c hA' hlt => hbel.block c hlt (fun e => hb (e ▸ hA')))).mono (fun c hA' _ => ⟨.inl hA',by simp,fun e => hb (by cases e;exact hA')⟩)) (.cons (rdV_int.2 ⟨rfl,?_⟩) (.cons (rdV_raw.2 ⟨rfl,rfl⟩) .nil)))
  unfold In64;omega
end
section
variable {P:Program} {f:FuncId} {code:List Int} (hc:Bytes code)
include hc
theorem frm_ok (eg:∀ args w,(callFunc f args).run P w = .ok (.enter f args) w) {xs:List (List D)} {us0:List Value} (hxs:∀ A w us,relArgs A w xs us→us = us0) {h:Int}
  (hw:∀ (w:World) (oa:Option Addr) (cap:Nat),Byt w w.heap.size oa code→code.length ≤ cap→(oa = none→cap = 0)→Calls P f (.slice oa code.length cap :: us0).toArray w (RetP w oa cap code h)) :
  AFnP P f (eCode code :: xs) (srcD code (0,h)):=by
 refine ⟨eg,fun A w vs hA hv => ?_⟩
 obtain ⟨v,us,rfl,hv1,hv2⟩:=hv
 obtain rfl:=hxs _ _ _ hv2
 have hv1:rdV A w v (.sl 1 (code.map eU)):=hv1
 obtain ⟨oa,cap,rfl,hcap,hcm,hnil,hB⟩:=byt_of (b:=w.heap.size) (fun h => Nat.lt_irrefl _ (hA _ h)) hc hv1
 refine (hw w oa cap hB hcap hnil).mono ?_
 rintro e w' ⟨rfl,hrow,hbel⟩
 refine ⟨_,_,rfl,Nat.le_refl _,hbel,hrow,(by show 0 < 3;omega),?_⟩
 refine .cons ((hv1.frame (fun c hA' hlt => hbel.block c hlt)).mono (fun c hA' _ => ⟨.inl hA',by have:=hA c hA';omega⟩)) (.cons (rdV_int.2 ⟨rfl,by unfold In64;omega⟩) (.cons (rdV_raw.2 ⟨rfl,rfl⟩) .nil))
end
theorem nxt_below {code:List Int} (hc:Bytes code) (hl:code.length ≤ 1000000000) (k:Nat) (xs:List (List D)) (post:List (List D)) (x:List Res × List (List D)) (hx:(nxtE code).fn k xs post = some x):AEp Try.prog 13 (nxtE code).ptr k xs post (fun rs xs' => rs = x.1∧xs' = x.2) :=
 nxt_ok hc (enters_of Try.func13 rfl rfl) (fun w b oa cap cap0 s n h1 h2 h3 h4 h5 => c_below w b oa code cap cap0 s n h1 h2 h3 h4 h5) hl k xs post x hx
def dice0 (seed:Int) (code:List Int):Nat × Int:=(0,hshF 5 (seed * 8111 + code.length) code)
theorem p_roll {code:List Int} (hc:Bytes code) (hl:code.length ≤ 1000000000) (seed:Int) (hs:0 ≤ seed∧seed < 1000000):AFnP Try.prog 11 [eCode code,[.raw (.int .u64 seed)]] (srcD code (dice0 seed code)) :=
 frm_ok (xs:=[[.raw (.int .u64 seed)]]) hc (enters_of Try.func11 rfl rfl) (us0:=[.int .u64 seed]) (fun A w us h => by
  obtain ⟨v,us',rfl,h1,h2⟩:=h
  have h2:us' = []:=h2
  rw [h2,(rdV_raw.1 h1).1]) (fun w oa cap h1 h2 h3 => c_roll w seed hs oa code cap h1 h2 h3 hl)
end Go.Proofs.Ytfhmonacgmakbaa
namespace Go.Proofs.Ytfhmonacgmakbaa
open Go.RowKit
def RU:Rep Int where
 k:=1
 rd:=fun _ _ cs n => cs = [.int .u8 n]∧0 ≤ n∧n ≤ 255
 own:=fun _ cs n F => (cs = [.int .u8 n]∧0 ≤ n∧n ≤ 255)∧F = []
 kpos:=by decide
 rd_len:=by intro A w cs x h;rw [h.1];rfl
 rd_one:=by intro A w cs x h v hv;rw [h.1] at hv;simp at hv;subst hv;rfl
 rd_frame:=fun h _ => h
 rd_mono:=fun h _ => h
 own_rd:=fun h => h.1
 own_frame:=fun h _ => h
 own_lt:=by intro w cs x F h b hb;rw [h.2] at hb;simp at hb
abbrev RBytes:Rep (List Int):=RS RU
theorem opU8:Opens Try.prog RU 5:=by
 intro H enc w base spare held fuel cs x h
 obtain ⟨n,rfl,_,hw⟩:=DataW.trod_int Try.underlying5 h
 exact ⟨n,rfl,bounds_u8 hw⟩
theorem opBytes:Opens Try.prog RBytes 27:=Opens.slice Try.underlying27 (by kernel_rfl) opU8
theorem rdU_to {A:Nat→Prop} {w:World}:∀ {code:List Int} {ds:List Value},rdL RU A w ds code→rdL (RK 1 (by decide) (RC 0)) A w ds (code.map eU)∧Bytes code
 | [],_,h => ⟨h,fun c hc => nomatch hc⟩
 | c :: code,ds,⟨c1,d1,e,⟨h1,h2,h3⟩,h4⟩ => by
  obtain ⟨h5,h6⟩:=rdU_to h4
  refine ⟨⟨c1,d1,e,⟨by rw [h1];rfl,rfl,?_⟩,h5⟩,fun x hx => ?_⟩
  ·rw [h1]
   exact rdL_one1.2 ⟨rfl,rfl⟩
  ·rcases List.mem_cons.1 hx with rfl|hx
   ·omega
   ·exact h6 x hx
theorem arg_bytes {w:World} {u:Value} {code:List Int} (h:Rd RBytes w [u] code):relArg (· < w.heap.size) w (eCode code) u∧Bytes code:=by
 obtain ⟨oa,cap,ds,h1,h2,h3,h4,h5,h6⟩:=h
 obtain ⟨k1,k2⟩:=rdU_to h5
 refine ⟨?_,k2⟩
 show rdV _ w u (.sl 1 (code.map eU))
 rw [rdV_sl]
 rw [List.length_map]
 exact ⟨oa,cap,ds,(List.cons.inj h1).1,h2,h3,h4,⟨0,by decide,k1⟩,h6⟩
theorem law_code {f:FuncId} (hf:∀ code:List Int,Bytes code→AFn Try.prog f [eCode code] (· = [.val (.bool true)])) (v:Value) (code:List Int) (w:World) (h:Rd RBytes w [v] code):Calls Try.prog f #[v] w (RetV w (.bool true)):=by
 obtain ⟨h1,h2⟩:=arg_bytes h
 exact AFn.one (fun _ _ _ h => rdV_bool.1 h) (hf code h2) (args1 h1)
theorem a_big (code:List Int):AFn Try.prog 10 [eCode code] (· = [.val (.bool (decide (4096 < code.length)))]):=by
 by_cases h:4096 < code.length
 ·have i1:((code.length:Int) > 4096) = True:=eq_true (by omega)
  rw [decide_eq_true h]
  refine AFn.of_runs (cfg_ok 6) Try.func10 rfl rfl rfl (by simp only [List.length_cons,List.length_nil];decide) ?_
  have hres:Try.f10.results.toList = [.tmp 2]:=rfl
  have hrts:Try.f10.resultTypes.toList = [4]:=rfl
  simp only [argRegs,argAV1,eL,eI,eLL,eB,Nat.zero_add,Nat.reduceAdd,eCode,dCode]
  intro M
  refine RunK.of ?_
  repeat' (first|with_reducible (first|refine Q1 ?_|refine Q2 ?_|refine Q3 ?_|refine Q4 ?_|refine Q5 ?_|refine Q6 ?_|refine Q7 ?_|refine Q8 ?_|refine Q9 ?_|refine Qa ?_|refine Qb ?_|refine Qc ?_|refine Qd ?_|refine Qe ?_|refine Qf ?_)|((with_reducible refine Qo ?_ ?_);focus rfl)|((with_reducible first|refine QT 3 (l:=?_) ?_ ?_|refine QF 3 (l:=?_) ?_ ?_);rotate_left 1;focus (simp only [Zu,Nat.reduceSub,Nat.reduceBEq];with_reducible rfl))|((with_reducible first|refine QS (cfg_ok 6) Tab.none (s':=?_) ?_ ?_|refine QC (b:=?_) ?_ ?_);rotate_left 1;focus ((with_reducible refine QW ?_);simp only [Zg,seval,if_true,if_false,reduceCtorEq,Nat.reduceEqDiff,i1,List.length_map];with_reducible rfl)))
  (refine Ends.mk (by simp) (rs:=?_) (ks:=?_) hres hrts ?_ ?_ ?_;rotate_left 2;(focus (simp only [Ze,Zg,seval,if_true,if_false,reduceCtorEq,Nat.reduceEqDiff];with_reducible rfl));(focus simp);focus (first|with_reducible rfl|(simp only [Zv];done)))
 ·have i1:((code.length:Int) > 4096) = False:=eq_false (by omega)
  rw [decide_eq_false h]
  refine AFn.of_runs (cfg_ok 6) Try.func10 rfl rfl rfl (by simp only [List.length_cons,List.length_nil];decide) ?_
  have hres:Try.f10.results.toList = [.tmp 2]:=rfl
  have hrts:Try.f10.resultTypes.toList = [4]:=rfl
  simp only [argRegs,argAV1,eL,eI,eLL,eB,Nat.zero_add,Nat.reduceAdd,eCode,dCode]
  intro M
  refine RunK.of ?_
  repeat' (first|with_reducible (first|refine Q1 ?_|refine Q2 ?_|refine Q3 ?_|refine Q4 ?_|refine Q5 ?_|refine Q6 ?_|refine Q7 ?_|refine Q8 ?_|refine Q9 ?_|refine Qa ?_|refine Qb ?_|refine Qc ?_|refine Qd ?_|refine Qe ?_|refine Qf ?_)|((with_reducible refine Qo ?_ ?_);focus rfl)|((with_reducible first|refine QT 3 (l:=?_) ?_ ?_|refine QF 3 (l:=?_) ?_ ?_);rotate_left 1;focus (simp only [Zu,Nat.reduceSub,Nat.reduceBEq];with_reducible rfl))|((with_reducible first|refine QS (cfg_ok 6) Tab.none (s':=?_) ?_ ?_|refine QC (b:=?_) ?_ ?_);rotate_left 1;focus ((with_reducible refine QW ?_);simp only [Zg,seval,if_true,if_false,reduceCtorEq,Nat.reduceEqDiff,i1,List.length_map];with_reducible rfl)))
  (refine Ends.mk (by simp) (rs:=?_) (ks:=?_) hres hrts ?_ ?_ ?_;rotate_left 2;(focus (simp only [Ze,Zg,seval,if_true,if_false,reduceCtorEq,Nat.reduceEqDiff];with_reducible rfl));(focus simp);focus (first|with_reducible rfl|(simp only [Zv];done)))
theorem a_mod9 (n:Int):AFn Try.prog 18 [eI n] (· = [.val (.int (mP n))]):=by
 have hb:=tmod_bd n
 have hw:w64 (n.tmod 10007 + 10007) = n.tmod 10007 + 10007:=w64_eq (by omega)
 rw [← tmod_mP n]
 refine AFn.of_runs (cfg_ok 7) Try.func18 rfl rfl rfl (by simp only [List.length_cons,List.length_nil];decide) ?_
 have hres:Try.f18.results.toList = [.tmp 2]:=rfl
 have hrts:Try.f18.resultTypes.toList = [2]:=rfl
 simp only [argRegs,argAV1,eL,eI,eLL,eB,Nat.zero_add,Nat.reduceAdd]
 intro M
 refine RunK.of ?_
 repeat' (first|with_reducible (first|refine Q1 ?_|refine Q2 ?_|refine Q3 ?_|refine Q4 ?_|refine Q5 ?_|refine Q6 ?_|refine Q7 ?_|refine Q8 ?_|refine Q9 ?_|refine Qa ?_|refine Qb ?_|refine Qc ?_|refine Qd ?_|refine Qe ?_|refine Qf ?_)|((with_reducible refine Qo ?_ ?_);focus rfl)|((with_reducible first|refine QT 3 (l:=?_) ?_ ?_|refine QF 3 (l:=?_) ?_ ?_);rotate_left 1;focus (simp only [Zu,Nat.reduceSub,Nat.reduceBEq];with_reducible rfl))|((with_reducible first|refine QS (cfg_ok 7) Tab.none (s':=?_) ?_ ?_|refine QC (b:=?_) ?_ ?_);rotate_left 1;focus ((with_reducible refine QW ?_);simp only [Zg,seval,if_true,if_false,reduceCtorEq,Nat.reduceEqDiff,hw,z10007];with_reducible rfl)))
 (refine Ends.mk (by simp) (rs:=?_) (ks:=?_) hres hrts ?_ ?_ ?_;rotate_left 2;(focus (simp only [Ze,Zg,seval,if_true,if_false,reduceCtorEq,Nat.reduceEqDiff];with_reducible rfl));(focus simp);focus (first|with_reducible rfl|(simp only [Zv];done)))
end Go.Proofs.Ytfhmonacgmakbaa
namespace Go.Proofs.Ytfhmonacgmakbaa
open Go.RowKit
def valM (a:List Int) (ps:List Int):Int:=ps.foldl (fun o p => mP (o * a.getD p.toNat 0)) 1
theorem valM_snoc (a ps:List Int) (p:Int):valM a (ps ++ [p]) = mP (valM a ps * a.getD p.toNat 0):=by unfold valM;rw [List.foldl_append];rfl
theorem valM_bd (a:List Int) (ps:List Int):0 ≤ valM a ps∧valM a ps < 10007:=by
 rcases List.eq_nil_or_concat ps with rfl|⟨l,x,rfl⟩
 ·exact (by decide:(0:Int) ≤ 1∧(1:Int) < 10007)
 ·rw [List.concat_eq_append,valM_snoc];exact mP_bd _
theorem isMap_bd {a:List Int} (h:isMap a = true):a.length = 38∧∀ i,0 ≤ a.getD i 0∧a.getD i 0 < 10007:=by
 unfold isMap at h
 rw [Bool.and_eq_true] at h
 refine ⟨of_decide_eq_true h.1,fun i => ?_⟩
 by_cases hi:i < a.length
 ·rw [getD_at hi]
  have:=List.all_eq_true.1 h.2 _ (List.getElem_mem hi)
  unfold isNum inR at this
  simp at this
  omega
 ·rw [List.getD_eq_getElem?_getD,List.getElem?_eq_none (by omega)];decide
theorem mul_bdM {a b:Int} (h1:0 ≤ a∧a < 10007) (h2:0 ≤ b∧b < 10007):0 ≤ a * b∧a * b ≤ 100140049:=by
 refine ⟨Int.mul_nonneg h1.1 h2.1,?_⟩
 have:=Int.mul_le_mul (a:=a) (b:=b) (c:=10007) (d:=10007) (by omega) (by omega) h2.1 (by omega)
 omega
theorem a_impl_IsMap (a:List Int):AFn Try.prog 22 [eL a] (· = [.val (.bool (isMap a))]) :=
 afn_L_s (v:=.bool _) (enters_of Try.func22 rfl rfl) (fun _ _ => rdV_bool.2 rfl) (fun u w h => c_impl_IsMap u a w h)
theorem a_valueOf (a ps:List Int) (ha:isMap a = true) (hp:∀ p ∈ ps,0 ≤ p∧p < 38) (hl:ps.length ≤ 1000000):AFn Try.prog 38 [eL a,eL ps] (· = [.val (.int (valM a ps))]):=by
 obtain ⟨hal,hab⟩:=isMap_bd ha
 refine AFn.of_runs (cfg_ok 23) Try.func38 rfl rfl rfl (by simp only [List.length_cons,List.length_nil];decide) ?_
 have hres:Try.f38.results.toList = [.tmp 4]:=rfl
 have hrts:Try.f38.resultTypes.toList = [2]:=rfl
 simp only [argRegs,argAV1,eL,eI,eLL,eB,Nat.zero_add,Nat.reduceAdd]
 intro M
 refine RunK.of ?_
 repeat' (first|with_reducible (first|refine Q1 ?_|refine Q2 ?_|refine Q3 ?_|refine Q4 ?_|refine Q5 ?_|refine Q6 ?_|refine Q7 ?_|refine Q8 ?_|refine Q9 ?_|refine Qa ?_|refine Qb ?_|refine Qc ?_|refine Qd ?_|refine Qe ?_|refine Qf ?_)|((with_reducible refine Qo ?_ ?_);focus rfl)|((with_reducible first|refine QT 11 (l:=?_) ?_ ?_|refine QF 11 (l:=?_) ?_ ?_);rotate_left 1;focus (simp only [Zu,Nat.reduceSub,Nat.reduceBEq];with_reducible rfl))|((with_reducible first|refine QS (cfg_ok 23) Tab.none (s':=?_) ?_ ?_|refine QC (b:=?_) ?_ ?_);rotate_left 1;focus ((with_reducible refine QW ?_);simp only [Zg,seval,if_true,if_false,reduceCtorEq,Nat.reduceEqDiff,List.length_map];with_reducible rfl)))
 refine RunK.loop (β:=Nat) (γ:=Unit) (fun k => ⟨[(0,.c (.val (.sl 1 (a.map eI)))),(5,.c (.val (.int (valM a (ps.take k))))),(8,.c (.val (.sl 1 (ps.map eI)))),(9,.c (.val (.int ps.length))),(10,.c (.val (.int k)))],[]⟩) (fun k => k ≤ ps.length) (fun k => ps.length - k)
  (fun _ => ⟨[(5,.c (.val (.int (valM a ps))))],[]⟩) (fun _ => True) 0 (Nat.zero_le _) ?_ ?_ ?_
 ·(repeat' (first|with_reducible refine Qn|((with_reducible refine Qr ?_ ?_);focus (first|with_reducible rfl|(simp only [Zz,Nat.reduceBEq,List.take_zero,show valM a [] = 1 from rfl,Int.natCast_zero];done)|rfl))|((with_reducible refine Qj (o':=?_) ?_ ?_ ?_);rotate_left 1;focus rfl)|((with_reducible refine Qw ?_ ?_);(focus (first|with_reducible rfl|(simp only [Zv,List.take_zero,show valM a [] = 1 from rfl,Int.natCast_zero];done)));focus (first|exact id|exact (fun h => nomatch h)|exact (fun _ => rfl)))))
 ·intro k hk
  have hk:k ≤ ps.length:=hk
  have hw:=w64_succ (n:=k) (by omega)
  by_cases h:k < ps.length
  ·have i1:((k:Int) < (ps.length:Int)) = True:=eq_true (by omega)
   have i2:((0:Int) ≤ (k:Int)) = True:=eq_true (by omega)
   obtain ⟨p,hpe⟩:∃ p,p = ps[k]:=⟨_,rfl⟩
   obtain ⟨p1,p2⟩:=hp ps[k] (List.getElem_mem _)
   rw [← hpe] at p1 p2
   obtain ⟨m,rfl⟩:∃ m:Nat,p = m:=⟨p.toNat,by omega⟩
   have hm:m < a.length:=by omega
   have hle1:(ps.map eI).length = ps.length:=List.length_map _
   have hle2:(a.map eI).length = 38:=by rw [List.length_map,hal]
   have hg1:(ps.map eI)[k]? = some [.int (m:Int)]:=by rw [map_get h,← hpe];rfl
   have hg2:(a.map eI)[m]? = some [.int (a.getD m 0)]:=by rw [map_get hm,getD_at hm];rfl
   have hst:valM a (ps.take (k + 1)) = mP (valM a (ps.take k) * a.getD m 0):=by rw [List.take_succ_eq_append_getElem h,valM_snoc,← hpe];rfl
   have i3:((m:Int) < 38) = True:=eq_true (by omega)
   have i4:((0:Int) ≤ (m:Int)) = True:=eq_true (by omega)
   have hmb:=mul_bdM (valM_bd a (ps.take k)) (hab m)
   have hw2:w64 (valM a (ps.take k) * a.getD m 0) = valM a (ps.take k) * a.getD m 0:=w64_eq (by omega)
   have hnum:=a_num (valM a (ps.take k) * a.getD m 0)
   simp only [eI] at hnum
   repeat' (first|with_reducible (first|refine Q1 ?_|refine Q2 ?_|refine Q3 ?_|refine Q4 ?_|refine Q5 ?_|refine Q6 ?_|refine Q7 ?_|refine Q8 ?_|refine Q9 ?_|refine Qa ?_|refine Qb ?_|refine Qc ?_|refine Qd ?_|refine Qe ?_|refine Qf ?_)|((with_reducible refine Qo ?_ ?_);focus rfl)|((with_reducible first|refine QT 11 (l:=?_) ?_ ?_|refine QF 11 (l:=?_) ?_ ?_);rotate_left 1;focus (simp only [Zu,Nat.reduceSub,Nat.reduceBEq];with_reducible rfl))|((with_reducible first|refine QS (cfg_ok 23) (Tab.none.at' 33 hnum) (s':=?_) ?_ ?_|refine QC (b:=?_) ?_ ?_);rotate_left 1;focus ((with_reducible refine QW ?_);simp only [Zg,seval,if_true,if_false,reduceCtorEq,Nat.reduceEqDiff,i1,i2,i3,i4,hle1,hle2,hg1,hg2,hw,hw2,Int.toNat_natCast];with_reducible rfl)))
   refine roundK.on (k + 1) ⟨h,by omega⟩ ?_
   rw [hst]
   (repeat' (first|with_reducible refine Qn|((with_reducible refine Qr ?_ ?_);focus (first|with_reducible rfl|(simp only [Zz,Nat.reduceBEq];done)|rfl))|((with_reducible refine Qj (o':=?_) ?_ ?_ ?_);rotate_left 1;focus rfl)|((with_reducible refine Qw ?_ ?_);(focus (first|with_reducible rfl|(simp only [Zv];done)));focus (first|exact id|exact (fun h => nomatch h)|exact (fun _ => rfl)))))
  ·have i1:((k:Int) < (ps.length:Int)) = False:=eq_false (by omega)
   repeat' (first|with_reducible (first|refine Q1 ?_|refine Q2 ?_|refine Q3 ?_|refine Q4 ?_|refine Q5 ?_|refine Q6 ?_|refine Q7 ?_|refine Q8 ?_|refine Q9 ?_|refine Qa ?_|refine Qb ?_|refine Qc ?_|refine Qd ?_|refine Qe ?_|refine Qf ?_)|((with_reducible refine Qo ?_ ?_);focus rfl)|((with_reducible first|refine QT 11 (l:=?_) ?_ ?_|refine QF 11 (l:=?_) ?_ ?_);rotate_left 1;focus (simp only [Zu,Nat.reduceSub,Nat.reduceBEq];with_reducible rfl))|((with_reducible first|refine QS (cfg_ok 23) Tab.none (s':=?_) ?_ ?_|refine QC (b:=?_) ?_ ?_);rotate_left 1;focus ((with_reducible refine QW ?_);simp only [Zg,seval,if_true,if_false,reduceCtorEq,Nat.reduceEqDiff,i1];with_reducible rfl)))
   refine roundK.out () trivial ?_
   rw [List.take_of_length_le (by omega)]
   (repeat' (first|with_reducible refine Qn|((with_reducible refine Qr ?_ ?_);focus (first|with_reducible rfl|(simp only [Zz,Nat.reduceBEq];done)|rfl))|((with_reducible refine Qj (o':=?_) ?_ ?_ ?_);rotate_left 1;focus rfl)|((with_reducible refine Qw ?_ ?_);(focus (first|with_reducible rfl|(simp only [Zv];done)));focus (first|exact id|exact (fun h => nomatch h)|exact (fun _ => rfl)))))
 ·rintro _ _
  repeat' (first|with_reducible (first|refine Q1 ?_|refine Q2 ?_|refine Q3 ?_|refine Q4 ?_|refine Q5 ?_|refine Q6 ?_|refine Q7 ?_|refine Q8 ?_|refine Q9 ?_|refine Qa ?_|refine Qb ?_|refine Qc ?_|refine Qd ?_|refine Qe ?_|refine Qf ?_)|((with_reducible refine Qo ?_ ?_);focus rfl)|((with_reducible first|refine QT 11 (l:=?_) ?_ ?_|refine QF 11 (l:=?_) ?_ ?_);rotate_left 1;focus (simp only [Zu,Nat.reduceSub,Nat.reduceBEq];with_reducible rfl))|((with_reducible first|refine QS (cfg_ok 23) Tab.none (s':=?_) ?_ ?_|refine QC (b:=?_) ?_ ?_);rotate_left 1;focus ((with_reducible refine QW ?_);simp only [Zg,seval,if_true,if_false,reduceCtorEq,Nat.reduceEqDiff];with_reducible rfl)))
  (refine Ends.mk (by simp) (rs:=?_) (ks:=?_) hres hrts ?_ ?_ ?_;rotate_left 2;(focus (simp only [Ze,Zg,seval,if_true,if_false,reduceCtorEq,Nat.reduceEqDiff];with_reducible rfl));(focus simp);focus (first|with_reducible rfl|(simp only [Zv];done)))
end Go.Proofs.Ytfhmonacgmakbaa
namespace Go.Proofs.Ytfhmonacgmakbaa
open Go.RowKit
def cutV (a b:List Int) (m:MC):Int:=mP (m.1 * mP (valM a m.2.1 * b.getD m.2.2.toNat 0))
def rowV (a b:List Int) (L:List MC):Int:=mP ((L.map (cutV a b)).sum)
def cvM (a b:List Int):List Int:=b.getD 0 0 :: T6.map fun t => rowV a b (cutsM t)
theorem cutV_bd (a b:List Int) (m:MC):0 ≤ cutV a b m∧cutV a b m < 10007:=mP_bd _
theorem sumV_bd (a b:List Int):∀ (L:List MC),0 ≤ (L.map (cutV a b)).sum∧(L.map (cutV a b)).sum ≤ 10007 * L.length
 | [] => by simp
 | m :: L => by
  have h1:=cutV_bd a b m
  have h2:=sumV_bd a b L
  rw [List.map_cons,List.sum_cons,List.length_cons];omega
theorem sumV_snoc (a b:List Int) (L:List MC) (m:MC):((L ++ [m]).map (cutV a b)).sum = (L.map (cutV a b)).sum + cutV a b m:=by
 rw [List.map_append,List.sum_append];simp
theorem cutsM_ok {t:List Int} (ht:t ∈ T6):(cutsM t).length ≤ 256∧∀ m ∈ cutsM t,(1 ≤ m.1∧m.1 ≤ 256)∧(∀ p ∈ m.2.1,1 ≤ p∧p < 38)∧m.2.1.length ≤ 8∧0 ≤ m.2.2∧m.2.2 < 38:=by
 obtain ⟨h1,h2⟩:=cuts6 ht
 refine ⟨by unfold cutsM;rw [List.length_map];exact h1,fun m hm => ?_⟩
 obtain ⟨x,hx,rfl⟩:=List.mem_map.1 hm
 obtain ⟨k1,k2,k3,k4⟩:=h2 x hx
 refine ⟨k1,fun p hp => ?_,by show (x.1.1.map plc).length ≤ 8;rw [List.length_map];exact k3,?_⟩
 ·obtain ⟨c,hc,rfl⟩:=List.mem_map.1 hp
  exact plc_lt (k2 c hc).1 (k2 c hc).2
 ·show 0 ≤ (if x.1.2 = [] then 0 else plc x.1.2)∧(if x.1.2 = [] then 0 else plc x.1.2) < 38
  split
  ·omega
  ·rename_i h
   have:=plc_lt (k4.resolve_left h).1 (k4.resolve_left h).2
   omega
noncomputable def TNm:Tab Try.prog:=Tab.none.add 33 (tab1 codI fun n => some [.val (.int (mP n))]) (tab1_ok fun n rs h => by cases h;exact a_num n)
set_option maxRecDepth 20000 in
set_option maxHeartbeats 16000000 in
theorem a_convolve (X:List (List D)) (a b:List Int) (ha:isMap a = true) (hb:isMap b = true):AFn Try.prog 26 [[.sl 1 X,.sl 1 ((T6.map cutsM).map eMs)],eL a,eL b] (· = [.own 1 ((cvM a b).map eI) true]):=by
 obtain ⟨hal,hab⟩:=isMap_bd ha
 obtain ⟨hbl,hbb⟩:=isMap_bd hb
 obtain ⟨Y,hY⟩:∃ Y,Y = (T6.map cutsM).map eMs:=⟨_,rfl⟩
 have hYl:Y.length = 37:=by rw [hY,List.length_map,List.length_map,T6_len]
 have hbm:(b.map eI).length = 38:=by rw [List.length_map,hbl]
 have hb0:(b.map eI)[0]? = some [.int (b.getD 0 0)]:=by rw [map_get (by omega),getD_at (by omega)];rfl
 rw [← hY]
 refine AFn.of_runs (cfg_ok 55) Try.func26 rfl rfl rfl (by simp only [List.length_cons,List.length_nil];decide) ?_
 have hres:Try.f26.results.toList = [.tmp 6]:=rfl
 have hrts:Try.f26.resultTypes.toList = [22]:=rfl
 simp only [argRegs,argAV1,eL,eI,eLL,eB,Nat.zero_add,Nat.reduceAdd]
 intro M
 refine RunK.of ?_
 repeat' (first|with_reducible (first|refine Q1 ?_|refine Q2 ?_|refine Q3 ?_|refine Q4 ?_|refine Q5 ?_|refine Q6 ?_|refine Q7 ?_|refine Q8 ?_|refine Q9 ?_|refine Qa ?_|refine Qb ?_|refine Qc ?_|refine Qd ?_|refine Qe ?_|refine Qf ?_)|((with_reducible refine Qo ?_ ?_);focus rfl)|((with_reducible first|refine QT 27 (l:=?_) ?_ ?_|refine QF 27 (l:=?_) ?_ ?_);rotate_left 1;focus (simp only [Zu,Nat.reduceSub,Nat.reduceBEq];with_reducible rfl))|((with_reducible first|refine QS (cfg_ok 55) Tab.none (s':=?_) ?_ ?_|refine QC (b:=?_) ?_ ?_);rotate_left 1;focus ((with_reducible refine QW ?_);simp only [Zg,seval,if_true,if_false,reduceCtorEq,Nat.reduceEqDiff,hYl,hbm,hb0,Int.toNat_zero];with_reducible rfl))|((with_reducible refine QD (cfg_ok 55) Tab.none mixed_ok (tr:=?_) (s':=?_) ?_ ?_ ?_);rotate_left 2;(focus ((with_reducible refine QW ?_);simp only [Zg,Zd,seval,if_true,if_false,reduceCtorEq,Nat.reduceEqDiff,hYl,hbm,hb0,Int.toNat_zero];with_reducible rfl));focus ((with_reducible refine QK ?_);simp only [Zk];kernel_rfl)))
 refine RunK.loop (β:=Nat) (γ:=Unit) (fun i => ⟨[(1,.c (.val (.sl 1 (a.map eI)))),(2,.c (.val (.sl 1 (b.map eI)))),(7,.c (.own 7 (i + 1))),(18,.c (.val (.sl 1 Y))),(19,.c (.val (.int 37))),(20,.c (.val (.int i)))],[(7,.row 1 ((b.getD 0 0 :: (T6.take i).map fun t => rowV a b (cutsM t)).map eI) true)]⟩) (fun i => i ≤ 37) (fun i => 37 - i)
  (fun _ => ⟨[(7,.c (.own 7 38))],[(7,.row 1 ((cvM a b).map eI) true)]⟩) (fun _ => True) 0 (Nat.zero_le _) ?_ ?_ ?_
 ·(repeat' (first|with_reducible refine Qn|((with_reducible refine Qr ?_ ?_);focus (first|with_reducible rfl|(simp only [Zz,Nat.reduceBEq,List.take_zero,List.map_nil,Int.natCast_zero,List.map_cons,eI];done)|rfl))|((with_reducible refine Qj (o':=?_) ?_ ?_ ?_);rotate_left 1;focus rfl)|((with_reducible refine Qw ?_ ?_);(focus (first|with_reducible rfl|(simp only [Zv,List.take_zero,List.map_nil,Int.natCast_zero,List.map_cons,eI];done)));focus (first|exact id|exact (fun h => nomatch h)|exact (fun _ => rfl)))))
 ·intro i hi
  have hi:i ≤ 37:=hi
  have hw:=w64_succ (n:=i) (by omega)
  by_cases hi37:i < 37
  ·have i1:((i:Int) < 37) = True:=eq_true (by omega)
   have i2:((0:Int) ≤ (i:Int)) = True:=eq_true (by omega)
   have hiT:i < T6.length:=by rw [T6_len];exact hi37
   obtain ⟨t,ht⟩:∃ t,t = T6[i]:=⟨_,rfl⟩
   have htm:t ∈ T6:=by rw [ht];exact List.getElem_mem _
   have hg:Y[i]? = some [.sl 3 ((cutsM t).map eM)]:=by rw [hY,List.map_map,map_get hiT,← ht];rfl
   have hat:(b.getD 0 0 :: (T6.take i).map fun t => rowV a b (cutsM t)) ++ [rowV a b (cutsM t)] = b.getD 0 0 :: (T6.take (i + 1)).map fun t => rowV a b (cutsM t):=by
    rw [ht,List.take_succ_eq_append_getElem hiT,List.map_append];rfl
   obtain ⟨R,hR⟩:∃ R,R = b.getD 0 0 :: (T6.take i).map fun t => rowV a b (cutsM t):=⟨_,rfl⟩
   have hRm:(R.map eI).length = i + 1:=by rw [List.length_map,hR,List.length_cons,List.length_map,List.length_take];omega
   rw [← hR] at hat ⊢
   obtain ⟨hLn,hLok⟩:=cutsM_ok htm
   obtain ⟨L,hL⟩:∃ L,L = cutsM t:=⟨_,rfl⟩
   rw [← hL] at hg hat hLn hLok
   have hLm:(L.map eM).length = L.length:=List.length_map _
   repeat' (first|with_reducible (first|refine Q1 ?_|refine Q2 ?_|refine Q3 ?_|refine Q4 ?_|refine Q5 ?_|refine Q6 ?_|refine Q7 ?_|refine Q8 ?_|refine Q9 ?_|refine Qa ?_|refine Qb ?_|refine Qc ?_|refine Qd ?_|refine Qe ?_|refine Qf ?_)|((with_reducible refine Qo ?_ ?_);focus rfl)|((with_reducible first|refine QT 27 (l:=?_) ?_ ?_|refine QF 27 (l:=?_) ?_ ?_);rotate_left 1;focus (simp only [Zu,Nat.reduceSub,Nat.reduceBEq];with_reducible rfl))|((with_reducible first|refine QS (cfg_ok 55) Tab.none (s':=?_) ?_ ?_|refine QC (b:=?_) ?_ ?_);rotate_left 1;focus ((with_reducible refine QW ?_);simp only [Zg,seval,if_true,if_false,reduceCtorEq,Nat.reduceEqDiff,i1,i2,hg,hYl,hLm,Int.toNat_natCast];with_reducible rfl))|((with_reducible refine QD (cfg_ok 55) Tab.none mixed_ok (tr:=?_) (s':=?_) ?_ ?_ ?_);rotate_left 2;(focus ((with_reducible refine QW ?_);simp only [Zg,Zd,seval,if_true,if_false,reduceCtorEq,Nat.reduceEqDiff,i1,i2,hg,hYl,hLm,Int.toNat_natCast];with_reducible rfl));focus ((with_reducible refine QK ?_);simp only [Zk];kernel_rfl)))
   refine RunK.loop (β:=Nat) (γ:=Unit) (fun j => ⟨[(1,.c (.val (.sl 1 (a.map eI)))),(2,.c (.val (.sl 1 (b.map eI)))),(7,.c (.own 7 (i + 1))),(10,.c (.val (.int ((L.take j).map (cutV a b)).sum))),(18,.c (.val (.sl 1 Y))),(19,.c (.val (.int 37))),(20,.c (.val (.int i))),(24,.c (.val (.sl 3 (L.map eM)))),(25,.c (.val (.int L.length))),(26,.c (.val (.int j)))],[(7,.row 1 (R.map eI) true)]⟩) (fun j => j ≤ L.length) (fun j => L.length - j)
    (fun _ => ⟨[(1,.c (.val (.sl 1 (a.map eI)))),(2,.c (.val (.sl 1 (b.map eI)))),(7,.c (.own 7 (i + 1))),(10,.c (.val (.int (L.map (cutV a b)).sum))),(18,.c (.val (.sl 1 Y))),(19,.c (.val (.int 37))),(20,.c (.val (.int i)))],[(7,.row 1 (R.map eI) true)]⟩) (fun _ => True) 0 (Nat.zero_le _) ?_ ?_ ?_
   ·(repeat' (first|with_reducible refine Qn|((with_reducible refine Qr ?_ ?_);focus (first|with_reducible rfl|(simp only [Zz,Nat.reduceBEq,List.take_zero,List.map_nil,Int.natCast_zero,List.sum_nil];done)|rfl))|((with_reducible refine Qj (o':=?_) ?_ ?_ ?_);rotate_left 1;focus rfl)|((with_reducible refine Qw ?_ ?_);(focus (first|with_reducible rfl|(simp only [Zv,List.take_zero,List.map_nil,Int.natCast_zero,List.sum_nil];done)));focus (first|exact id|exact (fun h => nomatch h)|exact (fun _ => rfl)))))
   ·intro j hj
    have hj:j ≤ L.length:=hj
    have hwj:=w64_succ (n:=j) (by omega)
    by_cases hjL:j < L.length
    ·have j1:((j:Int) < (L.length:Int)) = True:=eq_true (by omega)
     have j2:((0:Int) ≤ (j:Int)) = True:=eq_true (by omega)
     obtain ⟨m,hm⟩:∃ m,m = L[j]:=⟨_,rfl⟩
     have hmg:(L.map eM)[j]? = some [.int m.1,.sl 1 (m.2.1.map eI),.int m.2.2]:=by rw [map_get hjL,hm];rfl
     obtain ⟨m1,m2,m3,m4,m5⟩:=hLok L[j] (List.getElem_mem _)
     rw [← hm] at m1 m2 m3 m4 m5
     have hst:((L.take (j + 1)).map (cutV a b)).sum = ((L.take j).map (cutV a b)).sum + cutV a b m:=by
      rw [List.take_succ_eq_append_getElem hjL,sumV_snoc,← hm]
     have hsb:=sumV_bd a b (L.take j)
     have htl:(L.take j).length ≤ 256:=by rw [List.length_take];omega
     obtain ⟨n,ps,z⟩:=m
     simp only at hmg m1 m2 m3 m4 m5
     obtain ⟨q,rfl⟩:∃ q:Nat,z = q:=⟨z.toNat,by omega⟩
     have hq:q < b.length:=by omega
     have k1:((q:Int) < 38) = True:=eq_true (by omega)
     have k2:((0:Int) ≤ (q:Int)) = True:=eq_true (by omega)
     have hbg:(b.map eI)[q]? = some [.int (b.getD q 0)]:=by rw [map_get hq,getD_at hq];rfl
     have hv:=a_valueOf a ps ha (fun p hp => by have:=m2 p hp;omega) (by omega)
     simp only [eL] at hv
     have hvb:=valM_bd a ps
     have hm1:=mul_bdM hvb (hbb q)
     have hw1:w64 (valM a ps * b.getD q 0) = valM a ps * b.getD q 0:=w64_eq (by omega)
     have hm2:=mul_bdM (a:=n) (by omega) (mP_bd (valM a ps * b.getD q 0))
     have hw2:w64 (n * mP (valM a ps * b.getD q 0)) = n * mP (valM a ps * b.getD q 0):=w64_eq (by omega)
     have hcv:cutV a b (n,ps,(q:Int)) = mP (n * mP (valM a ps * b.getD q 0)):=rfl
     have hcb:=cutV_bd a b (n,ps,(q:Int))
     have hw3:w64 (((L.take j).map (cutV a b)).sum + mP (n * mP (valM a ps * b.getD q 0))) = ((L.take j).map (cutV a b)).sum + mP (n * mP (valM a ps * b.getD q 0)):=w64_eq (by rw [← hcv];omega)
     rw [hcv] at hst
     repeat' (first|with_reducible (first|refine Q1 ?_|refine Q2 ?_|refine Q3 ?_|refine Q4 ?_|refine Q5 ?_|refine Q6 ?_|refine Q7 ?_|refine Q8 ?_|refine Q9 ?_|refine Qa ?_|refine Qb ?_|refine Qc ?_|refine Qd ?_|refine Qe ?_|refine Qf ?_)|((with_reducible refine Qo ?_ ?_);focus rfl)|((with_reducible first|refine QT 27 (l:=?_) ?_ ?_|refine QF 27 (l:=?_) ?_ ?_);rotate_left 1;focus (simp only [Zu,Nat.reduceSub,Nat.reduceBEq];with_reducible rfl))|((with_reducible first|refine QS (cfg_ok 55) ((TNm.at' 38 hv)) (s':=?_) ?_ ?_|refine QC (b:=?_) ?_ ?_);rotate_left 1;focus ((with_reducible refine QW ?_);simp only [Zg,seval,if_true,if_false,reduceCtorEq,Nat.reduceEqDiff,TNm,j1,j2,hmg,hLm,hbm,hbg,k1,k2,hw1,hw2,hw3,hwj,Int.toNat_natCast];with_reducible rfl))|((with_reducible refine QD (cfg_ok 55) ((TNm.at' 38 hv)) mixed_ok (tr:=?_) (s':=?_) ?_ ?_ ?_);rotate_left 2;(focus ((with_reducible refine QW ?_);simp only [Zg,Zd,seval,if_true,if_false,reduceCtorEq,Nat.reduceEqDiff,TNm,j1,j2,hmg,hLm,hbm,hbg,k1,k2,hw1,hw2,hw3,hwj,Int.toNat_natCast];with_reducible rfl));focus ((with_reducible refine QK ?_);simp only [Zk];kernel_rfl)))
     refine roundK.on (j + 1) ⟨hjL,by omega⟩ ?_
     rw [hst]
     (repeat' (first|with_reducible refine Qn|((with_reducible refine Qr ?_ ?_);focus (first|with_reducible rfl|(simp only [Zz,Nat.reduceBEq];done)|rfl))|((with_reducible refine Qj (o':=?_) ?_ ?_ ?_);rotate_left 1;focus rfl)|((with_reducible refine Qw ?_ ?_);(focus (first|with_reducible rfl|(simp only [Zv];done)));focus (first|exact id|exact (fun h => nomatch h)|exact (fun _ => rfl)))))
    ·have j1:((j:Int) < (L.length:Int)) = False:=eq_false (by omega)
     obtain rfl:j = L.length:=by omega
     repeat' (first|with_reducible (first|refine Q1 ?_|refine Q2 ?_|refine Q3 ?_|refine Q4 ?_|refine Q5 ?_|refine Q6 ?_|refine Q7 ?_|refine Q8 ?_|refine Q9 ?_|refine Qa ?_|refine Qb ?_|refine Qc ?_|refine Qd ?_|refine Qe ?_|refine Qf ?_)|((with_reducible refine Qo ?_ ?_);focus rfl)|((with_reducible first|refine QT 27 (l:=?_) ?_ ?_|refine QF 27 (l:=?_) ?_ ?_);rotate_left 1;focus (simp only [Zu,Nat.reduceSub,Nat.reduceBEq];with_reducible rfl))|((with_reducible first|refine QS (cfg_ok 55) Tab.none (s':=?_) ?_ ?_|refine QC (b:=?_) ?_ ?_);rotate_left 1;focus ((with_reducible refine QW ?_);simp only [Zg,seval,if_true,if_false,reduceCtorEq,Nat.reduceEqDiff,j1];with_reducible rfl))|((with_reducible refine QD (cfg_ok 55) Tab.none mixed_ok (tr:=?_) (s':=?_) ?_ ?_ ?_);rotate_left 2;(focus ((with_reducible refine QW ?_);simp only [Zg,Zd,seval,if_true,if_false,reduceCtorEq,Nat.reduceEqDiff,j1];with_reducible rfl));focus ((with_reducible refine QK ?_);simp only [Zk];kernel_rfl)))
     refine roundK.out () trivial ?_
     rw [List.take_length]
     (repeat' (first|with_reducible refine Qn|((with_reducible refine Qr ?_ ?_);focus (first|with_reducible rfl|(simp only [Zz,Nat.reduceBEq];done)|rfl))|((with_reducible refine Qj (o':=?_) ?_ ?_ ?_);rotate_left 1;focus rfl)|((with_reducible refine Qw ?_ ?_);(focus (first|with_reducible rfl|(simp only [Zv];done)));focus (first|exact id|exact (fun h => nomatch h)|exact (fun _ => rfl)))))
   ·rintro _ _
    have q1:=big_le (n:=i + 1 + 1) (by omega)
    have q2:=big_mul (n:=i + 1 + 1) (c:=8) (by omega) (by omega)
    have q3:(i ≤ 140737488355326) = True:=eq_true (by omega)
    repeat' (first|with_reducible (first|refine Q1 ?_|refine Q2 ?_|refine Q3 ?_|refine Q4 ?_|refine Q5 ?_|refine Q6 ?_|refine Q7 ?_|refine Q8 ?_|refine Q9 ?_|refine Qa ?_|refine Qb ?_|refine Qc ?_|refine Qd ?_|refine Qe ?_|refine Qf ?_)|((with_reducible refine Qo ?_ ?_);focus rfl)|((with_reducible first|refine QT 27 (l:=?_) ?_ ?_|refine QF 27 (l:=?_) ?_ ?_);rotate_left 1;focus (simp only [Zu,Nat.reduceSub,Nat.reduceBEq];with_reducible rfl))|((with_reducible first|refine QS (cfg_ok 55) TNm (s':=?_) ?_ ?_|refine QC (b:=?_) ?_ ?_);rotate_left 1;focus ((with_reducible refine QW ?_);simp only [Zg,seval,if_true,if_false,reduceCtorEq,Nat.reduceEqDiff,TNm,TNm,hRm,q1,q2,q3,hw];with_reducible rfl))|((with_reducible refine QD (cfg_ok 55) TNm mixed_ok (tr:=?_) (s':=?_) ?_ ?_ ?_);rotate_left 2;(focus ((with_reducible refine QW ?_);simp only [Zg,Zd,seval,if_true,if_false,reduceCtorEq,Nat.reduceEqDiff,TNm,TNm,hRm,q1,q2,q3,hw];with_reducible rfl));focus ((with_reducible refine QK ?_);simp only [Zk];kernel_rfl)))
    refine roundK.on (i + 1) ⟨by omega,by omega⟩ ?_
    rw [← hat,List.map_append]
    (repeat' (first|with_reducible refine Qn|((with_reducible refine Qr ?_ ?_);focus (first|with_reducible rfl|(simp only [Zz,Nat.reduceBEq,List.map_cons,List.map_nil,eI,rowV];done)|rfl))|((with_reducible refine Qj (o':=?_) ?_ ?_ ?_);rotate_left 1;focus rfl)|((with_reducible refine Qw ?_ ?_);(focus (first|with_reducible rfl|(simp only [Zv,List.map_cons,List.map_nil,eI,rowV];done)));focus (first|exact id|exact (fun h => nomatch h)|exact (fun _ => rfl)))))
  ·have i1:((i:Int) < 37) = False:=eq_false (by omega)
   obtain rfl:i = 37:=by omega
   repeat' (first|with_reducible (first|refine Q1 ?_|refine Q2 ?_|refine Q3 ?_|refine Q4 ?_|refine Q5 ?_|refine Q6 ?_|refine Q7 ?_|refine Q8 ?_|refine Q9 ?_|refine Qa ?_|refine Qb ?_|refine Qc ?_|refine Qd ?_|refine Qe ?_|refine Qf ?_)|((with_reducible refine Qo ?_ ?_);focus rfl)|((with_reducible first|refine QT 27 (l:=?_) ?_ ?_|refine QF 27 (l:=?_) ?_ ?_);rotate_left 1;focus (simp only [Zu,Nat.reduceSub,Nat.reduceBEq];with_reducible rfl))|((with_reducible first|refine QS (cfg_ok 55) Tab.none (s':=?_) ?_ ?_|refine QC (b:=?_) ?_ ?_);rotate_left 1;focus ((with_reducible refine QW ?_);simp only [Zg,seval,if_true,if_false,reduceCtorEq,Nat.reduceEqDiff,i1];with_reducible rfl))|((with_reducible refine QD (cfg_ok 55) Tab.none mixed_ok (tr:=?_) (s':=?_) ?_ ?_ ?_);rotate_left 2;(focus ((with_reducible refine QW ?_);simp only [Zg,Zd,seval,if_true,if_false,reduceCtorEq,Nat.reduceEqDiff,i1];with_reducible rfl));focus ((with_reducible refine QK ?_);simp only [Zk];kernel_rfl)))
   refine roundK.out () trivial ?_
   rw [List.take_of_length_le (by rw [T6_len];omega)]
   (repeat' (first|with_reducible refine Qn|((with_reducible refine Qr ?_ ?_);focus (first|with_reducible rfl|(simp only [Zz,Nat.reduceBEq];done)|rfl))|((with_reducible refine Qj (o':=?_) ?_ ?_ ?_);rotate_left 1;focus rfl)|((with_reducible refine Qw ?_ ?_);(focus (first|with_reducible rfl|(simp only [Zv];done)));focus (first|exact id|exact (fun h => nomatch h)|exact (fun _ => rfl)))))
   all_goals exact ⟨rfl,rfl,id⟩
 ·rintro _ _
  repeat' (first|with_reducible (first|refine Q1 ?_|refine Q2 ?_|refine Q3 ?_|refine Q4 ?_|refine Q5 ?_|refine Q6 ?_|refine Q7 ?_|refine Q8 ?_|refine Q9 ?_|refine Qa ?_|refine Qb ?_|refine Qc ?_|refine Qd ?_|refine Qe ?_|refine Qf ?_)|((with_reducible refine Qo ?_ ?_);focus rfl)|((with_reducible first|refine QT 27 (l:=?_) ?_ ?_|refine QF 27 (l:=?_) ?_ ?_);rotate_left 1;focus (simp only [Zu,Nat.reduceSub,Nat.reduceBEq];with_reducible rfl))|((with_reducible first|refine QS (cfg_ok 55) Tab.none (s':=?_) ?_ ?_|refine QC (b:=?_) ?_ ?_);rotate_left 1;focus ((with_reducible refine QW ?_);simp only [Zg,seval,if_true,if_false,reduceCtorEq,Nat.reduceEqDiff];with_reducible rfl))|((with_reducible refine QD (cfg_ok 55) Tab.none mixed_ok (tr:=?_) (s':=?_) ?_ ?_ ?_);rotate_left 2;(focus ((with_reducible refine QW ?_);simp only [Zg,Zd,seval,if_true,if_false,reduceCtorEq,Nat.reduceEqDiff];with_reducible rfl));focus ((with_reducible refine QK ?_);simp only [Zk];kernel_rfl)))
  (refine Ends.mk (by simp) (rs:=?_) (ks:=?_) hres hrts ?_ ?_ ?_;rotate_left 2;(focus (simp only [Ze,Zg,seval,if_true,if_false,reduceCtorEq,Nat.reduceEqDiff];with_reducible rfl));(focus simp);focus (first|with_reducible rfl|(simp only [Zv];done)))
end Go.Proofs.Ytfhmonacgmakbaa
namespace Go.Proofs.Ytfhmonacgmakbaa
open Go.RowKit
theorem isMap_get0 {a:List Int} (h:isMap a = true):(a.map eI).length = 38∧(a.map eI)[0]? = some [.int (a.getD 0 0)]:=by
 obtain ⟨h1,_⟩:=isMap_bd h
 exact ⟨by rw [List.length_map,h1],by rw [map_get (by omega),getD_at (by omega)];rfl⟩
end Go.Proofs.Ytfhmonacgmakbaa
namespace Go.Proofs.Ytfhmonacgmakbaa
theorem mP_id (x:Int):mP (mP x) = mP x:=by unfold mP;omega
abbrev Mon:=List Nat
abbrev Pol:=List (Int × Mon)
def monV (a:List Int):Mon→Int
 | [] => 1
 | p :: m => a.getD p 0 * monV a m
def polV (a:List Int):Pol→Int
 | [] => 0
 | x :: p => x.1 * monV a x.2 + polV a p
def RelP (a L:List Int) (P:List Pol):Prop:=L.length = P.length∧∀ i,mP (L.getD i 0) = mP (polV a (P.getD i []))
theorem RelP.snoc {a L:List Int} {P:List Pol} (h:RelP a L P) {x:Int} {p:Pol} (hx:mP x = mP (polV a p)):RelP a (L ++ [x]) (P ++ [p]):=by
 obtain ⟨h1,h2⟩:=h
 refine ⟨by rw [List.length_append,List.length_append,h1];rfl,fun i => ?_⟩
 rw [List.getD_eq_getElem?_getD,List.getD_eq_getElem?_getD]
 by_cases hi:i < L.length
 ·rw [List.getElem?_append_left hi,List.getElem?_append_left (by omega),← List.getD_eq_getElem?_getD,← List.getD_eq_getElem?_getD]
  exact h2 i
 ·by_cases he:i = L.length
  ·subst he
   rw [List.getElem?_append_right (Nat.le_refl _),List.getElem?_append_right (by omega),h1,Nat.sub_self]
   exact hx
  ·rw [List.getElem?_eq_none (by rw [List.length_append];show L.length + 1 ≤ i;omega),List.getElem?_eq_none (by rw [List.length_append];show P.length + 1 ≤ i;omega)]
   rfl
def cutI (a L:List Int) (m:MC):Int:=if m.2.2 = 0 then 0 else mP (m.1 * mP (valM L m.2.1 * a.getD m.2.2.toNat 0))
def rowI (a L:List Int) (cs:List MC):Int:=mP (-((cs.map (cutI a L)).sum))
def invI (a:List Int) (C:List (List MC)):List Int:=C.foldl (fun L cs => L ++ [rowI a L cs]) [1]
theorem small_go (f:List Int→List MC→Int) (hf:∀ L cs,mP (f L cs) = f L cs):∀ (C:List (List MC)) (L:List Int),(∀ x ∈ L,mP x = x)→∀ x ∈ C.foldl (fun L cs => L ++ [f L cs]) L,mP x = x
 | [],_,h => h
 | cs :: C,L,h => small_go f hf C _ (fun x hx => by
   rcases List.mem_append.1 hx with hx|hx
   ·exact h x hx
   ·rw [List.mem_singleton.1 hx];exact hf _ _)
theorem invI_small (a:List Int) (C:List (List MC)):∀ x ∈ invI a C,mP x = x:=small_go (rowI a) (fun _ _ => mP_id _) C _ (by intro x hx;rw [List.mem_singleton.1 hx];rfl)
end Go.Proofs.Ytfhmonacgmakbaa

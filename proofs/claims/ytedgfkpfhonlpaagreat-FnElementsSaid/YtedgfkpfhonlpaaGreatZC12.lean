/- Lemmas (12). -/
import Derived.Ground.SlsfProg
import Derived.Laws.Shifts
import Derived.Laws.Small
import Derived.Lib.AppendZeros
import Derived.Shelf.SlSortCmp.NoneTotal
import Derived.Shelf.SlSortCmp.WholeK
import Derived.WalkArith
import Derived.Test.YtedgfkpfhonlpaaGreatZC3
import Derived.Test.YtedgfkpfhonlpaaGreatZC4
import Derived.Test.YtedgfkpfhonlpaaGreatZC5
import Derived.Test.YtedgfkpfhonlpaaGreatZC6
import Derived.Test.YtedgfkpfhonlpaaGreatZC7
import Derived.Test.YtedgfkpfhonlpaaGreatZC8
import Derived.Test.YtedgfkpfhonlpaaGreatZC9
import Derived.Test.YtedgfkpfhonlpaaGreatZC10
import Derived.Test.YtedgfkpfhonlpaaGreatZC11
set_option maxHeartbeats 16000000
set_option maxRecDepth 100000
set_option linter.unusedSimpArgs false
set_option linter.unusedVariables false
namespace Go.Proofs.YtedgfkpfhonlpaaGreat
open Go.RowKit
theorem c_slicesGrowL (n:Nat) (w:World) (hn:n ≤ 1000000000):Calls Tryz.prog 183 #[.slice none 0 0,.int .i64 n] w (RetO (RS (RS RI)) w []):=by
 by_cases h0:n = 0
 ·subst h0
  go_enter Tryz.func183,Tryz.ntmps183
  go_wp2_with fail
  go_ret
  exact ⟨_,rfl,Own.nil _ _,Below.refl _ _⟩
 ·obtain ⟨ht,⟨i,hi,hz,hsz,hby⟩,_,_⟩:=tI64S
  have hr:=Lib.run_append_nil_zeros (P:=Tryz.prog) w 36 3 36 24 i (.slice none 0 0) .i64 .i64 ht Tryz.underlying3 hi hz n (by omega) (by omega) (by omega) (by rw [hby];omega)
  have hge:=grownCap_ge w n 0 24
  have hcm:grownCap w n 0 24 ≤ maxLen:=grownCap_le_maxLen w n 0 24 (by unfold maxLen;omega)
  obtain ⟨cp,hcp⟩:∃ cp,cp = grownCap w n 0 24:=⟨_,rfl⟩
  rw [← hcp] at hr hge hcm
  obtain ⟨cur,hcur⟩:∃ cur,cur = Builtin.zeroCells (Value.slice none 0 0).cells n ++ Builtin.zeroCells (Value.slice none 0 0).cells (cp - n):=⟨_,rfl⟩
  have hcs:cur.size = cp * 1:=by
   rw [hcur,Array.size_append,size_zeroCells,size_zeroCells]
   show n * 1 + (cp - n) * 1 = cp * 1
   omega
  rw [← hcur] at hr
  have hrow:Row (w.drew.alloc (.cells cur 24)) (.slice (some ⟨w.heap.size,0,none⟩) 0 cp) 1 0 [] (some w.heap.size) :=
   ⟨rfl,.inr ⟨w.heap.size,cp,cur,24,rfl,rfl,Go.heap_alloc_new w.drew _,Nat.zero_le _,hcm,hcs,by simp⟩⟩
  have hown:Own (RS (RS RI)) w.heap.size (w.drew.alloc (.cells cur 24)).heap.size (w.drew.alloc (.cells cur 24)) [.slice (some ⟨w.heap.size,0,none⟩) 0 cp] [] :=
   Own.mk' (og:=some w.heap.size) (F:=[]) (ds:=[]) hrow ⟨rfl,rfl⟩ (by simp) (fun b hb => by simp at hb;subst hb;simp)
  have hbel:Below w.heap.size w (w.drew.alloc (.cells cur 24)):=⟨rfl,rfl,rfl,by simp,fun k hk => Below.heap_alloc w.drew _ k hk⟩
  have HR:=Lib.hid hr
  have HO:=Lib.hid hown
  have hp:(0:Int) < (n:Int):=by omega
  have hp2:¬ ((n:Int) < 0):=by omega
  unfold maxLen at hcm
  clear hr hown hrow hcp hcur hi hz hsz hby ht hcs
  go_enter Tryz.func183,Tryz.ntmps183
  go_wp2_with (at_builtin;refine yA (o:=⟨some 22,_,_,_,_,_⟩) ?_)
  refine jX.go ?_
  refine Lib.wpList_append_run w rfl _ _ _ _ rfl _ _ rfl rfl _ _ HR.out ?_
  go_wp2_with fail
  go_ret
  exact ⟨_,rfl,HO.out,hbel⟩
theorem a_slicesGrowL (n:Nat) (hn:n ≤ 1000000000):AFn Tryz.prog 183 [[.raw (.slice none 0 0)],eI n] (· = [.own 1 [] true]) :=
 AFn.of_o (xs:=[]) (encS encI) (enters_of Tryz.func183 rfl rfl) (fun w A vs ⟨v1,_,e1,h1,v2,_,e2,h2,e3⟩ => by
  subst e3;subst e2;subst e1
  rw [arg_int h2,(yK.1 h1).1]
  exact c_slicesGrowL n w hn)
def eLLL' (x:List (List Int)):List D:=[.sl 1 (x.map eL)]
def cntL (bs:List (List (List Int))):Nat:=(bs.map List.length).sum
theorem jH0 (bs:List (List (List Int))) (k:Nat) (h:k < bs.length):cntL (bs.take (k + 1)) = cntL (bs.take k) + bs[k].length:=by
 unfold cntL
 rw [List.take_succ_eq_append_getElem h,List.map_append,List.sum_append];simp
theorem cntL_flat (bs:List (List (List Int))):bs.flatten.length = cntL bs:=by simp [cntL,List.length_flatten]
theorem cntL_take (bs:List (List (List Int))) (k:Nat):cntL (bs.take k) ≤ cntL bs:=by
 rw [← cntL_flat,← cntL_flat]
 conv => rhs;rw [← List.take_append_drop k bs]
 rw [List.flatten_append,List.length_append]
 omega
theorem a_slicesConcatL (bs:List (List (List Int))) (hsz:cntL bs ≤ 1000000) (hl:bs.length ≤ 1000000):AFn Tryz.prog 123 [[.sl 1 (bs.map eLLL')]] (· = [.own 1 (bs.flatten.map eL) false]):=by
 refine AFn.of_runs (qQ 36) Tryz.func123 rfl rfl rfl gz ?_
 have hres:Tryz.f123.results.toList = [.tmp 2]:=rfl
 have hrts:Tryz.f123.resultTypes.toList = [36]:=rfl
 simp only [qV,qU,eL,eI,eLL,eB,Nat.zero_add,Nat.reduceAdd]
 intro M
 refine qJ.of ?_
 refine gw129 ?_
 refine qJ.loop (β:=Nat) (γ:=Unit) (fun i => ⟨[(0,.c (.val (.sl 1 (bs.map eLLL')))),(3,.c (.val (.int (cntL (bs.take i):Nat)))),(9,.c (.val (.sl 1 (bs.map eLLL')))),(10,.c (.val (.int bs.length))),(11,.c (.val (.int i)))],[]⟩) (fun i => i ≤ bs.length) (fun i => bs.length - i)
  (fun _ => ⟨[(0,.c (.val (.sl 1 (bs.map eLLL')))),(3,.c (.val (.int (cntL bs:Nat))))],[]⟩) (fun _ => True) 0 (Nat.zero_le _) ?_ ?_ ?_
 ·exact gw130 (show cntL [] = 0 from rfl)
 ·intro i hi
  have hi:i ≤ bs.length:=hi
  have hw:=jW (n:=i) (by omega)
  by_cases h:i < bs.length
  ·have i1:((i:Int) < (bs.length:Int)) = True:=eq_true (by omega)
   have i2:((0:Int) ≤ (i:Int)) = True:=eq_true (by omega)
   obtain ⟨f,hf⟩:∃ f,f = bs[i]:=⟨_,rfl⟩
   have hg:(bs.map eLLL')[i]? = some [.sl 1 (f.map eL)]:=by rw [qN h,hf];rfl
   have hst:=jH0 bs i h
   have hle:=cntL_take bs (i + 1)
   rw [← hf] at hst
   have hws:w64 ((cntL (bs.take i):Int) + (f.length:Int)) = ((cntL (bs.take (i + 1)):Nat):Int):=by rw [qG (by omega)];omega
   have j1:(((cntL (bs.take (i + 1)):Nat):Int) < 0) = False:=eq_false (by omega)
   refine gw131 (Y6 i1 i2 hg hw hws j1) ?_
   refine qW.on (i + 1) ⟨h,by omega⟩ ?_
   exact gw7 Y0
  ·have i1:((i:Int) < (bs.length:Int)) = False:=eq_false (by omega)
   obtain rfl:i = bs.length:=by omega
   rw [List.take_length]
   refine gw132 i1 ?_
   refine qW.out () trivial ?_
   exact gw7 Y0
 ·rintro _ _
  have hgr:=a_slicesGrowL (cntL bs) (by omega)
  refine gw129 ?_
  refine qJ.regCut (qQ 36) Tab.none 1 (s1:=?_) ?_ ?_
  rotate_left 1
  focus (refine Work.mk ?_;simp only [Zg,Zi,seval,reduceCtorEq,Nat.reduceEqDiff];with_reducible rfl)
  simp only [List.toList_toArray,List.drop_succ_cons,List.drop_zero]
  refine qZ.callNilP (qQ 36) (d:=24) (g:=183) (xs:=[]) (tx:=[]) (pre:=[]) (ys:=[.tmp 23]) (ty:=[3]) (post:=[eI (cntL bs:Nat)]) rfl (by decide) rfl rfl rfl rfl rfl rfl rfl rfl hgr rfl ?_
  refine qZ.opsT (qQ 36) (T:=Tab.none) (s':=?_) ?_ ?_
  rotate_left 1
  focus (simp only [Zg,Zi,seval,reduceCtorEq,Nat.reduceEqDiff];with_reducible rfl)
  refine gw129 ?_
  refine qJ.loop (β:=Nat) (γ:=Unit) (fun i => ⟨[(6,.c (.own 6 (bs.take i).flatten.length)),(25,.c (.val (.sl 1 (bs.map eLLL')))),(26,.c (.val (.int bs.length))),(27,.c (.val (.int i)))],[(6,.row 1 ((bs.take i).flatten.map eL) false)]⟩) (fun i => i ≤ bs.length) (fun i => bs.length - i)
   (fun _ => ⟨[(6,.c (.own 6 bs.flatten.length))],[(6,.row 1 (bs.flatten.map eL) false)]⟩) (fun _ => True) 0 (Nat.zero_le _) ?_ ?_ ?_
  ·exact gw133
  ·intro i hi
   have hi:i ≤ bs.length:=hi
   have hw:=jW (n:=i) (by omega)
   by_cases h:i < bs.length
   ·have i1:((i:Int) < (bs.length:Int)) = True:=eq_true (by omega)
    have i2:((0:Int) ≤ (i:Int)) = True:=eq_true (by omega)
    obtain ⟨f,hf⟩:∃ f,f = bs[i]:=⟨_,rfl⟩
    have hg:(bs.map eLLL')[i]? = some [.sl 1 (f.map eL)]:=by rw [qN h,hf];rfl
    have hst:=jH0 bs i h
    have hle:=cntL_take bs (i + 1)
    rw [← hf] at hst
    have hfl:(bs.take (i + 1)).flatten = (bs.take i).flatten ++ f:=by rw [List.take_succ_eq_append_getElem h,List.flatten_append,hf];simp
    have hcl:=cntL_flat (bs.take i)
    have q1:=jI (n:=(bs.take i).flatten.length + f.length) (by omega)
    have q2:=jH (n:=(bs.take i).flatten.length + f.length) (c:=24) (by omega) (by omega)
    refine gw131 (Y6 i1 i2 hg hw q1 q2) ?_
    refine qW.on (i + 1) ⟨h,by omega⟩ ?_
    rw [hfl]
    exact gw7 Y0
   ·have i1:((i:Int) < (bs.length:Int)) = False:=eq_false (by omega)
    obtain rfl:i = bs.length:=by omega
    rw [List.take_length]
    refine gw132 i1 ?_
    refine qW.out () trivial ?_
    exact gw7 Y0
  ·rintro _ _
   refine gw132 Y0 ?_
   exact gw2
end Go.Proofs.YtedgfkpfhonlpaaGreat
namespace Go.Proofs.YtedgfkpfhonlpaaGreat
open Go.RowKit
theorem addS_app (d M N:Elt):addS cmpF d (M ++ N) = addS cmpF (addS cmpF d M) N:=by unfold addS;rw [List.foldl_append]
theorem mulE_one {e:Elt} (h:OkE e):mulE 1 e = e:=by
 unfold mulE
 conv => rhs;rw [← List.map_id e]
 refine List.map_congr_left fun p hp => ?_
 have:=(h p hp).1
 rw [Int.one_mul,mP_small (by omega) this.2];rfl
theorem addS_two {d e:Elt} (hd:NfS cmpF d):addS cmpF d e = sumS cmpF (d ++ e):=by
 have h:=sumS_self (c:=cmpF) jK hd
 unfold sumS at h ⊢
 rw [addS_app,h]
theorem appE_ok {d e:Elt} (hd:OkE d) (he:OkE e):∀ q ∈ d ++ e,(0 ≤ q.1∧q.1 < 10007)∧SmF q.2:=fun q hq => by
 rcases List.mem_append.1 hq with h|h
 ·exact ⟨⟨by have:=(hd q h).1;omega,(hd q h).1.2⟩,(hd q h).2⟩
 ·exact ⟨⟨by have:=(he q h).1;omega,(he q h).1.2⟩,(he q h).2⟩
theorem c_slicesGrowP (n:Nat) (w:World) (hn:n ≤ 1000000000):Calls Tryz.prog 155 #[.slice none 0 0,.int .i64 n] w (RetO (RS yM) w []):=by
 by_cases h0:n = 0
 ·subst h0
  go_enter Tryz.func155,Tryz.ntmps155
  go_wp2_with fail
  go_ret
  exact ⟨_,rfl,Own.nil _ _,Below.refl _ _⟩
 ·obtain ⟨ht,⟨i,hi,hz,hsz,hby⟩,_,_⟩:=tPartI
  have hr:=Lib.run_append_nil_zeros (P:=Tryz.prog) w 50 3 50 71 i (.agg #[.int .i64 0,.slice none 0 0]) .i64 .i64 ht Tryz.underlying3 hi hz n (by omega) (by omega) (by omega) (by rw [hby];omega)
  have hge:=grownCap_ge w n 0 71
  have hcm:grownCap w n 0 71 ≤ maxLen:=grownCap_le_maxLen w n 0 71 (by unfold maxLen;omega)
  obtain ⟨cp,hcp⟩:∃ cp,cp = grownCap w n 0 71:=⟨_,rfl⟩
  rw [← hcp] at hr hge hcm
  obtain ⟨cur,hcur⟩:∃ cur,cur = Builtin.zeroCells (Value.agg #[.int .i64 0,.slice none 0 0]).cells n ++ Builtin.zeroCells (Value.agg #[.int .i64 0,.slice none 0 0]).cells (cp - n):=⟨_,rfl⟩
  have hcs:cur.size = cp * 2:=by
   rw [hcur,Array.size_append,size_zeroCells,size_zeroCells]
   show n * 2 + (cp - n) * 2 = cp * 2
   omega
  rw [← hcur] at hr
  have hrow:Row (w.drew.alloc (.cells cur 71)) (.slice (some ⟨w.heap.size,0,none⟩) 0 cp) 2 0 [] (some w.heap.size) :=
   ⟨rfl,.inr ⟨w.heap.size,cp,cur,71,rfl,rfl,Go.heap_alloc_new w.drew _,Nat.zero_le _,hcm,hcs,by simp⟩⟩
  have hown:Own (RS yM) w.heap.size (w.drew.alloc (.cells cur 71)).heap.size (w.drew.alloc (.cells cur 71)) [.slice (some ⟨w.heap.size,0,none⟩) 0 cp] [] :=
   Own.mk' (og:=some w.heap.size) (F:=[]) (ds:=[]) hrow ⟨rfl,rfl⟩ (by simp) (fun b hb => by simp at hb;subst hb;simp)
  have hbel:Below w.heap.size w (w.drew.alloc (.cells cur 71)):=⟨rfl,rfl,rfl,by simp,fun k hk => Below.heap_alloc w.drew _ k hk⟩
  have HR:=Lib.hid hr
  have HO:=Lib.hid hown
  have hp:(0:Int) < (n:Int):=by omega
  have hp2:¬ ((n:Int) < 0):=by omega
  unfold maxLen at hcm
  clear hr hown hrow hcp hcur hi hz hsz hby ht hcs
  go_enter Tryz.func155,Tryz.ntmps155
  go_wp2_with (at_builtin;refine yA (o:=⟨some 22,_,_,_,_,_⟩) ?_)
  refine jX.go ?_
  refine Lib.wpList_append_run w rfl _ _ _ _ rfl _ _ rfl rfl _ _ HR.out ?_
  go_wp2_with fail
  go_ret
  exact ⟨_,rfl,HO.out,hbel⟩
theorem a_slicesGrowP (n:Nat) (hn:n ≤ 1000000000):AFn Tryz.prog 155 [[.raw (.slice none 0 0)],eI n] (· = [.own 2 [] true]) :=
 AFn.of_o (xs:=[]) encPt (enters_of Tryz.func155 rfl rfl) (fun w A vs ⟨v1,_,e1,h1,v2,_,e2,h2,e3⟩ => by
  subst e3;subst e2;subst e1
  rw [arg_int h2,(yK.1 h1).1]
  exact c_slicesGrowP n w hn)
def ePP (x:Elt):List D:=[.sl 2 (x.map ePt)]
theorem jK0 (bs:List Elt) (k:Nat) (h:k < bs.length):(bs.take (k + 1)).flatten = (bs.take k).flatten ++ bs[k]:=by
 rw [List.take_succ_eq_append_getElem h,List.flatten_append];simp
theorem jE0 (bs:List Elt) (k:Nat):(bs.take k).flatten.length ≤ bs.flatten.length:=by
 conv => rhs;rw [← List.take_append_drop k bs]
 rw [List.flatten_append,List.length_append]
 omega
theorem a_slicesConcatP (bs:List Elt) (hsz:bs.flatten.length ≤ 1000000) (hl:bs.length ≤ 1000000):AFn Tryz.prog 90 [[.sl 1 (bs.map ePP)]] (· = [.own 2 (bs.flatten.map ePt) false]):=by
 refine AFn.of_runs (qQ 36) Tryz.func90 rfl rfl rfl gz ?_
 have hres:Tryz.f90.results.toList = [.tmp 2]:=rfl
 have hrts:Tryz.f90.resultTypes.toList = [50]:=rfl
 simp only [qV,qU,eL,eI,eLL,eB,Nat.zero_add,Nat.reduceAdd]
 intro M
 refine qJ.of ?_
 refine gw129 ?_
 refine qJ.loop (β:=Nat) (γ:=Unit) (fun i => ⟨[(0,.c (.val (.sl 1 (bs.map ePP)))),(3,.c (.val (.int ((bs.take i).flatten.length:Nat)))),(9,.c (.val (.sl 1 (bs.map ePP)))),(10,.c (.val (.int bs.length))),(11,.c (.val (.int i)))],[]⟩) (fun i => i ≤ bs.length) (fun i => bs.length - i)
  (fun _ => ⟨[(0,.c (.val (.sl 1 (bs.map ePP)))),(3,.c (.val (.int (bs.flatten.length:Nat))))],[]⟩) (fun _ => True) 0 (Nat.zero_le _) ?_ ?_ ?_
 ·exact gw134
 ·intro i hi
  have hi:i ≤ bs.length:=hi
  have hw:=jW (n:=i) (by omega)
  by_cases h:i < bs.length
  ·have i1:((i:Int) < (bs.length:Int)) = True:=eq_true (by omega)
   have i2:((0:Int) ≤ (i:Int)) = True:=eq_true (by omega)
   obtain ⟨f,hf⟩:∃ f,f = bs[i]:=⟨_,rfl⟩
   have hg:(bs.map ePP)[i]? = some [.sl 2 (f.map ePt)]:=by rw [qN h,hf];rfl
   have hst:=congrArg List.length (jK0 bs i h)
   have hle:=jE0 bs (i + 1)
   rw [← hf,List.length_append] at hst
   obtain ⟨A,hA⟩:∃ A,A = (bs.take i).flatten.length:=⟨_,rfl⟩
   obtain ⟨B,hB⟩:∃ B,B = (bs.take (i + 1)).flatten.length:=⟨_,rfl⟩
   rw [← hA,← hB] at hst
   rw [← hB] at hle
   have hws:w64 ((A:Int) + (f.length:Int)) = ((B:Nat):Int):=by rw [qG (by omega)];omega
   have j1:(((B:Nat):Int) < 0) = False:=eq_false (by omega)
   rw [← hA]
   refine gw131 (Y6 i1 i2 hg hw hws j1) ?_
   refine qW.on (i + 1) ⟨h,by omega⟩ ?_
   rw [← hB]
   exact gw7 Y0
  ·have i1:((i:Int) < (bs.length:Int)) = False:=eq_false (by omega)
   obtain rfl:i = bs.length:=by omega
   rw [List.take_length]
   refine gw132 i1 ?_
   refine qW.out () trivial ?_
   exact gw7 Y0
 ·rintro _ _
  have hgr:=a_slicesGrowP bs.flatten.length (by omega)
  refine gw129 ?_
  refine qJ.regCut (qQ 36) Tab.none 1 (s1:=?_) ?_ ?_
  rotate_left 1
  focus (refine Work.mk ?_;simp only [Zg,Zi,seval,reduceCtorEq,Nat.reduceEqDiff];with_reducible rfl)
  simp only [List.toList_toArray,List.drop_succ_cons,List.drop_zero]
  refine qZ.callNilP (qQ 36) (d:=24) (g:=155) (xs:=[]) (tx:=[]) (pre:=[]) (ys:=[.tmp 23]) (ty:=[3]) (post:=[eI (bs.flatten.length:Nat)]) rfl (by decide) rfl rfl rfl rfl rfl rfl rfl rfl hgr rfl ?_
  refine qZ.opsT (qQ 36) (T:=Tab.none) (s':=?_) ?_ ?_
  rotate_left 1
  focus (simp only [Zg,Zi,seval,reduceCtorEq,Nat.reduceEqDiff];with_reducible rfl)
  refine gw129 ?_
  refine qJ.loop (β:=Nat) (γ:=Unit) (fun i => ⟨[(6,.c (.own 6 (bs.take i).flatten.length)),(25,.c (.val (.sl 1 (bs.map ePP)))),(26,.c (.val (.int bs.length))),(27,.c (.val (.int i)))],[(6,.row 2 ((bs.take i).flatten.map ePt) false)]⟩) (fun i => i ≤ bs.length) (fun i => bs.length - i)
   (fun _ => ⟨[(6,.c (.own 6 bs.flatten.length))],[(6,.row 2 (bs.flatten.map ePt) false)]⟩) (fun _ => True) 0 (Nat.zero_le _) ?_ ?_ ?_
  ·exact gw133
  ·intro i hi
   have hi:i ≤ bs.length:=hi
   have hw:=jW (n:=i) (by omega)
   by_cases h:i < bs.length
   ·have i1:((i:Int) < (bs.length:Int)) = True:=eq_true (by omega)
    have i2:((0:Int) ≤ (i:Int)) = True:=eq_true (by omega)
    obtain ⟨f,hf⟩:∃ f,f = bs[i]:=⟨_,rfl⟩
    have hg:(bs.map ePP)[i]? = some [.sl 2 (f.map ePt)]:=by rw [qN h,hf];rfl
    have hle:=jE0 bs (i + 1)
    have hfl:=jK0 bs i h
    rw [← hf] at hfl
    have hst:=congrArg List.length hfl
    rw [List.length_append] at hst
    have q1:=jI (n:=(bs.take i).flatten.length + f.length) (by omega)
    have q2:=jH (n:=(bs.take i).flatten.length + f.length) (c:=32) (by omega) (by omega)
    refine gw131 (Y6 i1 i2 hg hw q1 q2) ?_
    refine qW.on (i + 1) ⟨h,by omega⟩ ?_
    rw [hfl]
    exact gw7 Y0
   ·have i1:((i:Int) < (bs.length:Int)) = False:=eq_false (by omega)
    obtain rfl:i = bs.length:=by omega
    rw [List.take_length]
    refine gw132 i1 ?_
    refine qW.out () trivial ?_
    exact gw7 Y0
  ·rintro _ _
   refine gw132 Y0 ?_
   exact gw2
noncomputable def TEA:Tab Tryz.prog:=Tab.none.add 32 (tab1 (codS 2 codPt) fun e => if e.length + szN e ≤ 1048576 then some [.val (.bool (elB e))] else none) (yJ fun e rs h => by split at h;cases h;rename_i hz;exact vI e hz;cases h)
noncomputable def TEAS:Tab Tryz.prog:=Tab.none.add 70 (tab1 (codS 2 codPt) fun e => if e.length + szN e ≤ 1048576 then some [.val (.bool (elB e))] else none) (yJ fun e rs h => by split at h;cases h;rename_i hz;exact a_l06Is e hz;cases h)
theorem yI0 (d e:Elt) (hzd:szP d) (hz:szP e):AFn Tryz.prog 38 [[.sl 2 (d.map ePt)],[.sl 2 (e.map ePt)]] (· = [.own 2 ((addOf d e).1.map ePt) true,.val (.int (addOf d e).2)]):=by
 have h1:=vI d hzd
 have s1:(d.length + szN d ≤ 1048576) = True:=eq_true hzd
 have s2:(e.length + szN e ≤ 1048576) = True:=eq_true hz
 unfold addOf
 refine AFn.of_runs (qQ 21) Tryz.func38 rfl rfl rfl gz ?_
 have hres:Tryz.f38.results.toList = [.tmp 4,.tmp 5]:=rfl
 have hrts:Tryz.f38.resultTypes.toList = [50,2]:=rfl
 simp only [qV,qU,eL,eI,eLL,eB,Nat.zero_add,Nat.reduceAdd]
 intro M
 refine qJ.of ?_
 by_cases hD:elB d = true
 rotate_left
 ·have hD':elB d = false:=by simpa using hD
  rw [if_neg (by rw [hD',Bool.false_and];decide)]
  rw [hD'] at h1
  refine gw135 ?_
  exact gw2
 rw [hD] at h1
 by_cases hE:elB e = true
 rotate_left
 ·have hE':elB e = false:=by simpa using hE
  rw [if_neg (by rw [hE',Bool.and_false];decide)]
  refine gw136 (Y4 s1 s2 hD hE') ?_
  exact gw2
 rw [if_pos (by rw [hD,hE];rfl)]
 obtain ⟨hod,hld,_⟩:=yN hD
 obtain ⟨hoe,hle,_⟩:=yN hE
 have hc:=a_slicesConcatP [d,e] (by simp;omega) (by simp)
 simp only [ePP,List.map_cons,List.map_nil,List.flatten_cons,List.flatten_nil,List.append_nil] at hc
 have h4:=a_limited (d ++ e) (by rw [List.length_append];omega) (appE_ok hod hoe)
 refine gw137 (Y4 s1 s2 hD hE) ?_
 exact gw2
theorem yH0 (d e:Elt) (hzd:szP d) (hz:szP e):∃ b,AFn Tryz.prog 39 [[.sl 2 (d.map ePt)],[.sl 2 (e.map ePt)]] (· = [.own 2 ((addOf d e).1.map ePt) b,.val (.int (addOf d e).2)]):=by
 have h1:=a_l06Is d hzd
 have s1:(d.length + szN d ≤ 1048576) = True:=eq_true hzd
 have s2:(e.length + szN e ≤ 1048576) = True:=eq_true hz
 unfold addOf
 by_cases hD:elB d = true
 rotate_left
 ·have hD':elB d = false:=by simpa using hD
  rw [if_neg (by rw [hD',Bool.false_and];decide)]
  rw [hD'] at h1
  refine ⟨true,?_⟩
  refine AFn.of_runs (qQ 20) Tryz.func39 rfl rfl rfl gz ?_
  have hres:Tryz.f39.results.toList = [.tmp 4,.tmp 5]:=rfl
  have hrts:Tryz.f39.resultTypes.toList = [50,2]:=rfl
  simp only [qV,qU,eL,eI,eLL,eB,Nat.zero_add,Nat.reduceAdd]
  intro M
  refine qJ.of ?_
  refine gw138 ?_
  exact gw2
 by_cases hE:elB e = true
 rotate_left
 ·have hE':elB e = false:=by simpa using hE
  rw [if_neg (by rw [hE',Bool.and_false];decide)]
  refine ⟨true,?_⟩
  refine AFn.of_runs (qQ 20) Tryz.func39 rfl rfl rfl gz ?_
  have hres:Tryz.f39.results.toList = [.tmp 4,.tmp 5]:=rfl
  have hrts:Tryz.f39.resultTypes.toList = [50,2]:=rfl
  simp only [qV,qU,eL,eI,eLL,eB,Nat.zero_add,Nat.reduceAdd]
  intro M
  refine qJ.of ?_
  refine gw139 (Y4 s1 s2 hD hE') ?_
  exact gw2
 rw [if_pos (by rw [hD,hE];rfl)]
 obtain ⟨hod,hld,_⟩:=yN hD
 obtain ⟨hoe,hle,_⟩:=yN hE
 have h3:=a_l06Add d e 1 hod hoe (by omega) (by omega)
 rw [mulE_one hoe,addS_two (yF hD).2.1] at h3
 obtain ⟨b,h4⟩:=a_l06Own (sumS cmpF (d ++ e)) (kE OkE.nil (appE_ok hod hoe)) (by have:=kC (d ++ e) [];rw [List.length_append] at this;simp only [List.length_nil] at this;show (addS cmpF [] _).length ≤ _;omega)
 refine ⟨b,?_⟩
 simp only [eI] at h3
 refine AFn.of_runs (qQ 20) Tryz.func39 rfl rfl rfl gz ?_
 have hres:Tryz.f39.results.toList = [.tmp 4,.tmp 5]:=rfl
 have hrts:Tryz.f39.resultTypes.toList = [50,2]:=rfl
 simp only [qV,qU,eL,eI,eLL,eB,Nat.zero_add,Nat.reduceAdd]
 intro M
 refine qJ.of ?_
 refine gw140 (Y4 s1 s2 hD hE) ?_
 exact gw2
end Go.Proofs.YtedgfkpfhonlpaaGreat
namespace Go.Proofs.YtedgfkpfhonlpaaGreat
open Go.RowKit
theorem prodL_len:∀ (d e:Elt),(prodL d e).length = d.length * e.length
 | [],e => by simp [prodL]
 | p :: d,e => by
  have:=prodL_len d e
  unfold prodL at this ⊢
  rw [List.flatMap_cons,List.length_append,List.length_map,this,List.length_cons,Nat.succ_mul]
  omega
theorem mul_sm {f g:List (List Int)} (hf:f.length ≤ 8∧qX f ≤ 8) (hg:g.length ≤ 8∧qX g ≤ 8):SmF (mulF f g):=by
 refine ⟨?_,?_⟩
 ·rw [kP];omega
 ·rw [xC];omega
theorem tim_ok {d e:Elt} (hd:elB d = true) (he:elB e = true):∀ q ∈ prodL d e,(0 ≤ q.1∧q.1 < 10007)∧SmF q.2:=fun q hq => by
 unfold prodL at hq
 obtain ⟨p,hp,hq⟩:=List.mem_flatMap.1 hq
 obtain ⟨r,hr,rfl⟩:=List.mem_map.1 hq
 exact ⟨jO _,mul_sm ((yN hd).2.2 p hp) ((yN he).2.2 r hr)⟩
theorem vS {d e:Elt} (hd:d.length ≤ 300) (he:e.length ≤ 300):(prodL d e).length ≤ 90000:=by
 rw [prodL_len]
 exact Nat.le_trans (Nat.mul_le_mul hd he) (by decide)
theorem degE_snoc (L:Elt) (p:Int × List (List Int)):degE (L ++ [p]) = qX p.2:=by
 unfold degE
 rw [List.getLast?_eq_getElem?]
 simp
theorem snoc_ofE {e:Elt} (h:0 ≤ degE e):∃ L p,e = L ++ [p]:=by
 rcases List.eq_nil_or_concat e with rfl|⟨L,p,rfl⟩
 ·exact absurd h (by decide)
 ·exact ⟨L,p,by simp⟩
theorem tim_far {d e:Elt} (hd:elB d = true) (he:elB e = true) (h0:0 ≤ degE d) (h1:0 ≤ degE e) (h2:8 < degE d + degE e):limS (sumS cmpF (prodL d e)) = ([],3):=by
 obtain ⟨L,p,rfl⟩:=snoc_ofE h0
 obtain ⟨M,q,rfl⟩:=snoc_ofE h1
 rw [degE_snoc,degE_snoc] at h2
 obtain ⟨_,n1,s1,_⟩:=yF hd
 obtain ⟨_,n2,s2,_⟩:=yF he
 obtain ⟨r,hr,hs⟩:=prod_deg n1 n2 s1 s2
 unfold limS
 rw [if_neg]
 rintro ⟨_,h⟩
 have:=h r hr
 omega
theorem degE_bd {e:Elt} (h:elB e = true):degE e ≤ 8∧-1 ≤ degE e:=by
 rcases List.eq_nil_or_concat e with rfl|⟨L,p,rfl⟩
 ·exact ⟨by decide,by decide⟩
 ·rw [List.concat_eq_append] at h ⊢
  rw [degE_snoc]
  have:=((yN h).2.2 p (by simp)).2
  omega
theorem a_products (d e:Elt) (hd:∀ q ∈ d,(0 ≤ q.1∧q.1 < 10007)∧q.2.length ≤ 9∧qX q.2 ≤ 50) (he:∀ q ∈ e,(0 ≤ q.1∧q.1 < 10007)∧q.2.length ≤ 9∧qX q.2 ≤ 50) (hl:d.length ≤ 300) (hl2:e.length ≤ 300) :
  AFn Tryz.prog 83 [[.sl 2 (d.map ePt)],[.sl 2 (e.map ePt)]] (· = [.own 2 ((sumS cmpF (prodL d e)).map ePt) true]):=by
 have hpl:∀ i,(prodL (d.take i) e).length ≤ 90000:=fun i => vS (by rw [List.length_take];omega) hl2
 refine AFn.of_runs (qQ 44) Tryz.func83 rfl rfl rfl gz ?_
 have hres:Tryz.f83.results.toList = [.tmp 4]:=rfl
 have hrts:Tryz.f83.resultTypes.toList = [50]:=rfl
 simp only [qV,qU,eL,eI,eLL,eB,Nat.zero_add,Nat.reduceAdd]
 intro M
 refine qJ.of ?_
 refine gw141 Y0 ?_
 refine qJ.loop (β:=Nat) (γ:=Unit) (fun i => ⟨[(1,.c (.val (.sl 2 (e.map ePt)))),(5,.c (.own 5 (prodL (d.take i) e).length)),(11,.c (.val (.sl 2 (d.map ePt)))),(12,.c (.val (.int d.length))),(13,.c (.val (.int i)))],[(5,.row 2 ((prodL (d.take i) e).map ePt) false)]⟩) (fun i => i ≤ d.length) (fun i => d.length - i)
  (fun _ => ⟨[(5,.c (.own 5 (prodL d e).length))],[(5,.row 2 ((prodL d e).map ePt) false)]⟩) (fun _ => True) 0 (Nat.zero_le _) ?_ ?_ ?_
 ·exact gw107 (show prodL [] e = [] from rfl)
 ·intro i hi
  have hi:i ≤ d.length:=hi
  have hw:=jW (n:=i) (by omega)
  by_cases h:i < d.length
  ·have i1:((i:Int) < (d.length:Int)) = True:=eq_true (by omega)
   have i2:((0:Int) ≤ (i:Int)) = True:=eq_true (by omega)
   obtain ⟨z,hz⟩:∃ z,z = d[i]:=⟨_,rfl⟩
   obtain ⟨hz1,hz2,hz3⟩:=hd d[i] (List.getElem_mem _)
   have hg:(d.map ePt)[i]? = some [.int z.1,.sl 1 (z.2.map eL)]:=by rw [qN h,hz];rfl
   rw [← hz] at hz1 hz2 hz3
   have htk:prodL (d.take (i + 1)) e = prodL (d.take i) e ++ e.map fun q => (mP (z.1 * q.1),mulF z.2 q.2):=by rw [hz,List.take_succ_eq_append_getElem h,prodL_snoc]
   have hR:=hpl i
   obtain ⟨R,hRe⟩:∃ R,R = prodL (d.take i) e:=⟨_,rfl⟩
   rw [← hRe] at hR htk ⊢
   have hle:(d.map ePt).length = d.length:=List.length_map _
   refine gw142 (Y4 i1 i2 hg hle) ?_
   refine qJ.loop (β:=Nat) (γ:=Unit) (fun j => ⟨[(1,.c (.val (.sl 2 (e.map ePt)))),(5,.c (.own 5 (R ++ (e.take j).map fun q => (mP (z.1 * q.1),mulF z.2 q.2)).length)),(7,.optr 7 0 0),(11,.c (.val (.sl 2 (d.map ePt)))),(12,.c (.val (.int d.length))),(13,.c (.val (.int i))),(17,.c (.val (.sl 2 (e.map ePt)))),(18,.c (.val (.int e.length))),(19,.c (.val (.int j)))],
     [(5,.row 2 ((R ++ (e.take j).map fun q => (mP (z.1 * q.1),mulF z.2 q.2)).map ePt) false),(7,.row 2 [[.int z.1,.sl 1 (z.2.map eL)]] false)]⟩) (fun j => j ≤ e.length) (fun j => e.length - j)
    (fun _ => ⟨[(1,.c (.val (.sl 2 (e.map ePt)))),(5,.c (.own 5 (R ++ e.map fun q => (mP (z.1 * q.1),mulF z.2 q.2)).length)),(11,.c (.val (.sl 2 (d.map ePt)))),(12,.c (.val (.int d.length))),(13,.c (.val (.int i)))],[(5,.row 2 ((R ++ e.map fun q => (mP (z.1 * q.1),mulF z.2 q.2)).map ePt) false)]⟩) (fun _ => True) 0 (Nat.zero_le _) ?_ ?_ ?_
   ·exact gw143
   ·intro j hj
    have hj:j ≤ e.length:=hj
    have hwj:=jW (n:=j) (by omega)
    by_cases g:j < e.length
    ·have j1:((j:Int) < (e.length:Int)) = True:=eq_true (by omega)
     have j2:((0:Int) ≤ (j:Int)) = True:=eq_true (by omega)
     obtain ⟨y,hy⟩:∃ y,y = e[j]:=⟨_,rfl⟩
     obtain ⟨hy1,hy2,hy3⟩:=he e[j] (List.getElem_mem _)
     have hgj:(e.map ePt)[j]? = some [.int y.1,.sl 1 (y.2.map eL)]:=by rw [qN g,hy];rfl
     rw [← hy] at hy1 hy2 hy3
     have hej:(e.map ePt).length = e.length:=List.length_map _
     have hb:=vN hz1 hy1
     have hwm:=qG (n:=z.1 * y.1) (by omega)
     have hc:=AFn.val1 (a_slicesConcatL [z.2,y.2] (by simp [cntL];omega) (by simp))
     have ho:=AFn.valT (a_forestOf (z.2 ++ y.2) (by rw [List.length_append];omega) (by rw [vV];omega))
     simp only [eLLL',eLL,List.map_cons,List.map_nil,List.flatten_cons,List.flatten_nil,List.append_nil] at hc ho
     have hmf:mulF z.2 y.2 = forest (z.2 ++ y.2):=rfl
     have htj:(R ++ (e.take (j + 1)).map fun q => (mP (z.1 * q.1),mulF z.2 q.2)) = (R ++ (e.take j).map fun q => (mP (z.1 * q.1),mulF z.2 q.2)) ++ [(mP (z.1 * y.1),mulF z.2 y.2)]:=by rw [hy,List.take_succ_eq_append_getElem g,List.map_append,List.append_assoc];rfl
     have hKl:(R ++ (e.take j).map fun q => (mP (z.1 * q.1),mulF z.2 q.2)).length ≤ 100000:=by rw [List.length_append,List.length_map,List.length_take];omega
     obtain ⟨K,hK⟩:∃ K,K = R ++ (e.take j).map fun q => (mP (z.1 * q.1),mulF z.2 q.2):=⟨_,rfl⟩
     rw [← hK] at hKl htj ⊢
     have hlt:(K.map ePt).length = K.length:=List.length_map _
     have q1:=jI (n:=K.length + 1) (by omega)
     have q2:=jH (n:=K.length + 1) (c:=32) (by omega) (by omega)
     refine gw142 (Y6 j1 j2 hgj hwj hlt hej) ?_
     (((with_reducible refine qJ.wFz (qQ 44) ((TSm.at' 123 hc).at' 102 ho) qB [34] (tr:=?_) (s1:=?_) (rest:=?_) ?_ ?_ ?_);rotate_left 3;(focus ((with_reducible refine QW ?_);simp only [Zg,Zd,Zi,seval,reduceCtorEq,Nat.reduceEqDiff,drunF,devalF,devalB,valD,dregF_mk,List.contains_cons,List.contains_nil,TSm,hwm,q1,q2,hlt];with_reducible rfl));focus ((with_reducible refine QK ?_);simp only [Zk];kernel_rfl));(refine qZ.opsT (qQ 44) (T:=((TSm.at' 123 hc).at' 102 ho)) (s':=?_) ?_ ?_;rotate_left 1;focus (simp only [Zg,Zi,seval,reduceCtorEq,Nat.reduceEqDiff,TSm,hwm,q1,q2,hlt];with_reducible rfl)))
     refine gw141 hwj ?_
     refine qW.on (j + 1) ⟨g,by omega⟩ ?_
     rw [htj]
     exact gw46 hmf
    ·have j1:((j:Int) < (e.length:Int)) = False:=eq_false (by omega)
     obtain rfl:j = e.length:=by omega
     rw [List.take_length]
     refine gw144 j1 ?_
     refine qW.out () trivial ?_
     exact gw7 Y0
   ·rintro _ _
    refine gw141 hw ?_
    refine qW.on (i + 1) ⟨h,by omega⟩ ?_
    rw [htk]
    exact gw7 Y0
  ·have i1:((i:Int) < (d.length:Int)) = False:=eq_false (by omega)
   obtain rfl:i = d.length:=by omega
   rw [List.take_length]
   refine gw144 i1 ?_
   refine qW.out () trivial ?_
   exact gw7 Y0
 ·rintro _ _
  have hp:∀ z ∈ prodL d e,(0 ≤ z.1∧z.1 < 10007)∧z.2.length ≤ 19∧qX z.2 ≤ 1000:=fun z hz => by
   unfold prodL at hz
   obtain ⟨p,hp,hz⟩:=List.mem_flatMap.1 hz
   obtain ⟨r,hr,rfl⟩:=List.mem_map.1 hz
   have h1:=(hd p hp).2
   have h2:=(he r hr).2
   refine ⟨jO _,?_,?_⟩
   ·simp only;rw [kP];omega
   ·simp only;rw [xC];omega
  have h4:=a_summed (prodL d e) (by have:=vS hl hl2;omega) (fun z hz' => ⟨(hp z hz').1,by have:=(hp z hz').2.1;omega,by have:=(hp z hz').2.2;omega⟩)
  refine gw145 ?_
  exact gw2
theorem elB_sm {e:Elt} (h:elB e = true):∀ q ∈ e,(0 ≤ q.1∧q.1 < 10007)∧q.2.length ≤ 9∧qX q.2 ≤ 50:=fun q hq => by
 obtain ⟨h1,_,h3⟩:=yN h
 have h4:=(h1 q hq).1
 have h5:=h3 q hq
 exact ⟨⟨by omega,h4.2⟩,by omega,by omega⟩
theorem yE0 (d e:Elt) (hzd:szP d) (hz:szP e):AFn Tryz.prog 30 [[.sl 2 (d.map ePt)],[.sl 2 (e.map ePt)]] (· = [.own 2 ((timOf d e).1.map ePt) true,.val (.int (timOf d e).2)]):=by
 have h1:=vI d hzd
 have s1:(d.length + szN d ≤ 1048576) = True:=eq_true hzd
 have s2:(e.length + szN e ≤ 1048576) = True:=eq_true hz
 unfold timOf
 refine AFn.of_runs (qQ 20) Tryz.func30 rfl rfl rfl gz ?_
 have hres:Tryz.f30.results.toList = [.tmp 4,.tmp 5]:=rfl
 have hrts:Tryz.f30.resultTypes.toList = [50,2]:=rfl
 simp only [qV,qU,eL,eI,eLL,eB,Nat.zero_add,Nat.reduceAdd]
 intro M
 refine qJ.of ?_
 by_cases hD:elB d = true
 rotate_left
 ·have hD':elB d = false:=by simpa using hD
  rw [if_neg (by rw [hD',Bool.false_and];decide)]
  rw [hD'] at h1
  refine gw146 ?_
  exact gw2
 rw [hD] at h1
 by_cases hE:elB e = true
 rotate_left
 ·have hE':elB e = false:=by simpa using hE
  rw [if_neg (by rw [hE',Bool.and_false];decide)]
  refine gw147 (Y4 s1 s2 hD hE') ?_
  exact gw2
 rw [if_pos (by rw [hD,hE];rfl)]
 have hld:=(yN hD).2.1
 have hle:=(yN hE).2.1
 have hc:=a_products d e (elB_sm hD) (elB_sm hE) hld hle
 have hok:=tim_ok hD hE
 have hsl:=kC (prodL d e) []
 simp only [List.length_nil] at hsl
 have hpl:=vS hld hle
 have h4:=a_limited (sumS cmpF (prodL d e)) (by show (addS cmpF [] _).length ≤ _;omega) (fun q hq => by
  have:=kE OkE.nil hok q hq
  exact ⟨⟨by have:=this.1;omega,this.1.2⟩,this.2⟩)
 rw [sumS_self jK (kU jK (fun q hq => (hok q hq).1))] at h4
 refine gw148 (Y4 s1 s2 hD hE) ?_
 exact gw2
theorem a_l06Times (d e:Elt) (hd:∀ q ∈ d,(0 ≤ q.1∧q.1 < 10007)∧q.2.length ≤ 9∧qX q.2 ≤ 50) (he:∀ q ∈ e,(0 ≤ q.1∧q.1 < 10007)∧q.2.length ≤ 9∧qX q.2 ≤ 50) (hl:d.length ≤ 300) (hl2:e.length ≤ 300) :
  AFn Tryz.prog 85 [[.sl 2 (d.map ePt)],[.sl 2 (e.map ePt)]] (· = [.val (.sl 2 ((sumS cmpF (prodL d e)).map ePt))]):=by
 have hpl:∀ i,(prodL (d.take i) e).length ≤ 90000:=fun i => vS (by rw [List.length_take];omega) hl2
 have hok:∀ i,∀ q ∈ prodL (d.take i) e,(0 ≤ q.1∧q.1 < 10007)∧SmF q.2:=fun i q hq => by
  unfold prodL at hq
  obtain ⟨p,hp,hq⟩:=List.mem_flatMap.1 hq
  obtain ⟨r,hr,rfl⟩:=List.mem_map.1 hq
  have h1:=(hd p (List.mem_of_mem_take hp)).2
  have h2:=(he r hr).2
  refine ⟨jO _,?_,?_⟩
  ·simp only;rw [kP];omega
  ·simp only;rw [xC];omega
 refine AFn.of_runs (qQ 46) Tryz.func85 rfl rfl rfl gz ?_
 have hres:Tryz.f85.results.toList = [.tmp 4]:=rfl
 have hrts:Tryz.f85.resultTypes.toList = [50]:=rfl
 simp only [qV,qU,eL,eI,eLL,eB,Nat.zero_add,Nat.reduceAdd]
 intro M
 refine qJ.of ?_
 refine gw149 Y0 ?_
 refine qJ.frz 5 ?_
 refine qJ.fits (s0:=⟨[(0,.c (.val (.sl 2 (d.map ePt)))),(1,.c (.val (.sl 2 (e.map ePt)))),(5,.c (.val (.sl 2 []))),(6,.c (.val (.int 0)))],[]⟩) ?_ ?_
 ·exact gw150
 refine qJ.loop (β:=Nat) (γ:=Unit) (fun i => ⟨[(0,.c (.val (.sl 2 (d.map ePt)))),(1,.c (.val (.sl 2 (e.map ePt)))),(5,.c (.val (.sl 2 ((sumS cmpF (prodL (d.take i) e)).map ePt)))),(6,.c (.val (.int i)))],[]⟩) (fun i => i ≤ d.length) (fun i => d.length - i)
  (fun _ => ⟨[(5,.c (.val (.sl 2 ((sumS cmpF (prodL d e)).map ePt))))],[]⟩) (fun _ => True) 0 (Nat.zero_le _) ?_ ?_ ?_
 ·exact gw151 (Yp (show prodL [] e = [] from rfl) (show sumS cmpF [] = [] from rfl))
 ·intro i hi
  have hi:i ≤ d.length:=hi
  have hw:=jW (n:=i) (by omega)
  by_cases h:i < d.length
  ·have i1:((i:Int) < (d.length:Int)) = True:=eq_true (by omega)
   have i2:((0:Int) ≤ (i:Int)) = True:=eq_true (by omega)
   obtain ⟨z,hz⟩:∃ z,z = d[i]:=⟨_,rfl⟩
   obtain ⟨hz1,hz2,hz3⟩:=hd d[i] (List.getElem_mem _)
   have hg:(d.map ePt)[i]? = some [.int z.1,.sl 1 (z.2.map eL)]:=by rw [qN h,hz];rfl
   rw [← hz] at hz1 hz2 hz3
   have htk:sumS cmpF (prodL (d.take (i + 1)) e) = addS cmpF (sumS cmpF (prodL (d.take i) e)) (e.map fun q => (mP (z.1 * q.1),mulF z.2 q.2)):=by
    rw [hz,List.take_succ_eq_append_getElem h,prodL_snoc]
    exact addS_app _ _ _
   have hR:=kC (prodL (d.take i) e) []
   have hRk:OkE (sumS cmpF (prodL (d.take i) e)):=kE OkE.nil (hok i)
   have hR2:=hpl i
   simp only [List.length_nil] at hR
   have hR:(sumS cmpF (prodL (d.take i) e)).length ≤ 90000:=by show (addS cmpF [] _).length ≤ _;omega
   obtain ⟨R,hRe⟩:∃ R,R = sumS cmpF (prodL (d.take i) e):=⟨_,rfl⟩
   rw [← hRe] at hR hRk htk ⊢
   have hM:∀ q ∈ e.map (fun q => (mP (z.1 * q.1),mulF z.2 q.2)),(0 ≤ q.1∧q.1 < 10007)∧SmF q.2:=fun q hq => by
    obtain ⟨r,hr,rfl⟩:=List.mem_map.1 hq
    have h2:=(he r hr).2
    refine ⟨jO _,?_,?_⟩
    ·simp only;rw [kP];omega
    ·simp only;rw [xC];omega
   obtain ⟨M',hMe⟩:∃ M',M' = e.map fun q => (mP (z.1 * q.1),mulF z.2 q.2):=⟨_,rfl⟩
   have hMl:M'.length = e.length:=by rw [hMe,List.length_map]
   rw [← hMe] at hM htk
   have hle:(d.map ePt).length = d.length:=List.length_map _
   refine gw152 (Y3 i1 i2 hle) ?_
   refine qJ.loop (β:=Nat) (γ:=Unit) (fun j => ⟨[(0,.c (.val (.sl 2 (d.map ePt)))),(1,.c (.val (.sl 2 (e.map ePt)))),(5,.c (.val (.sl 2 ((addS cmpF R (M'.take j)).map ePt)))),(6,.c (.val (.int i))),(7,.c (.val (.int j)))],[]⟩) (fun j => j ≤ e.length) (fun j => e.length - j)
    (fun _ => ⟨[(0,.c (.val (.sl 2 (d.map ePt)))),(1,.c (.val (.sl 2 (e.map ePt)))),(5,.c (.val (.sl 2 ((addS cmpF R M').map ePt)))),(6,.c (.val (.int i)))],[]⟩) (fun _ => True) 0 (Nat.zero_le _) ?_ ?_ ?_
   ·exact gw153 (show addS cmpF R [] = R from rfl)
   ·intro j hj
    have hj:j ≤ e.length:=hj
    have hwj:=jW (n:=j) (by omega)
    by_cases g:j < e.length
    ·have j1:((j:Int) < (e.length:Int)) = True:=eq_true (by omega)
     have j2:((0:Int) ≤ (j:Int)) = True:=eq_true (by omega)
     obtain ⟨y,hy⟩:∃ y,y = e[j]:=⟨_,rfl⟩
     obtain ⟨hy1,hy2,hy3⟩:=he e[j] (List.getElem_mem _)
     have hgj:(e.map ePt)[j]? = some [.int y.1,.sl 1 (y.2.map eL)]:=by rw [qN g,hy];rfl
     rw [← hy] at hy1 hy2 hy3
     have hej:(e.map ePt).length = e.length:=List.length_map _
     have hm:=vJ z.1 y.1 (by have:=vN hz1 hy1;omega)
     have ht:=AFn.valT (a_l03Times z.2 y.2 (by omega) (fun b hb => by have:=xV hb;omega) (by omega) (fun b hb => by have:=xV hb;omega))
     have hsf:SmF (mulF z.2 y.2):=by
      refine ⟨?_,?_⟩
      ·rw [kP];omega
      ·rw [xC];omega
     have hput:=a_l06Put (addS cmpF R (M'.take j)) (mP (z.1 * y.1)) (mulF z.2 y.2) (by
      have:=kC (M'.take j) R
      rw [List.length_take] at this;omega) (kE hRk (fun q hq => hM q (List.mem_of_mem_take hq))) (jO _) hsf
     have hst:addS cmpF R (M'.take (j + 1)) = putS cmpF (addS cmpF R (M'.take j)) (mP (z.1 * y.1)) (mulF z.2 y.2):=by
      have hj':j < M'.length:=by rw [hMl];exact g
      have hgm:M'[j]'hj' = (mP (z.1 * y.1),mulF z.2 y.2):=by simp only [hMe,hy];exact List.getElem_map _
      rw [List.take_succ_eq_append_getElem hj',addS_snoc,hgm]
     simp only [eI,eLL] at hm hput ht
     refine gw154 (Y9 i1 i2 j1 j2 hg hgj hwj hle hej) ?_
     refine qW.on (j + 1) ⟨g,by omega⟩ ?_
     rw [hst]
     exact gw7 Y0
    ·have j1:((j:Int) < (e.length:Int)) = False:=eq_false (by omega)
     obtain rfl:j = e.length:=by omega
     rw [← hMl,List.take_length,hMl]
     refine gw155 j1 ?_
     refine qW.out () trivial ?_
     exact gw7 Y0
   ·rintro _ _
    refine gw149 hw ?_
    refine qW.on (i + 1) ⟨h,by omega⟩ ?_
    rw [htk]
    exact gw7 Y0
  ·have i1:((i:Int) < (d.length:Int)) = False:=eq_false (by omega)
   obtain rfl:i = d.length:=by omega
   rw [List.take_length]
   refine gw155 i1 ?_
   refine qW.out () trivial ?_
   exact gw7 Y0
 ·rintro _ _
  refine gw149 Y0 ?_
  exact gw2
noncomputable def TTS:Tab Tryz.prog:=TEAS.add 84 (tab1 (codS 2 codPt) fun e => if e.length + szN e ≤ 1048576 then some [.val (.int (degE e))] else none) (yJ fun e rs h => by split at h;cases h;rename_i hz;exact a_l06Degree e hz;cases h)
theorem yG0 (d e:Elt) (hzd:szP d) (hz:szP e):∃ b,AFn Tryz.prog 31 [[.sl 2 (d.map ePt)],[.sl 2 (e.map ePt)]] (· = [.own 2 ((timOf d e).1.map ePt) b,.val (.int (timOf d e).2)]):=by
 have h1:=a_l06Is d hzd
 have s1:(d.length + szN d ≤ 1048576) = True:=eq_true hzd
 have s2:(e.length + szN e ≤ 1048576) = True:=eq_true hz
 unfold timOf
 by_cases hD:elB d = true
 rotate_left
 ·have hD':elB d = false:=by simpa using hD
  rw [if_neg (by rw [hD',Bool.false_and];decide)]
  rw [hD'] at h1
  refine ⟨true,?_⟩
  refine AFn.of_runs (qQ 36) Tryz.func31 rfl rfl rfl gz ?_
  have hres:Tryz.f31.results.toList = [.tmp 4,.tmp 5]:=rfl
  have hrts:Tryz.f31.resultTypes.toList = [50,2]:=rfl
  simp only [qV,qU,eL,eI,eLL,eB,Nat.zero_add,Nat.reduceAdd]
  intro M
  refine qJ.of ?_
  refine gw156 ?_
  exact gw2
 by_cases hE:elB e = true
 rotate_left
 ·have hE':elB e = false:=by simpa using hE
  rw [if_neg (by rw [hE',Bool.and_false];decide)]
  refine ⟨true,?_⟩
  refine AFn.of_runs (qQ 36) Tryz.func31 rfl rfl rfl gz ?_
  have hres:Tryz.f31.results.toList = [.tmp 4,.tmp 5]:=rfl
  have hrts:Tryz.f31.resultTypes.toList = [50,2]:=rfl
  simp only [qV,qU,eL,eI,eLL,eB,Nat.zero_add,Nat.reduceAdd]
  intro M
  refine qJ.of ?_
  refine gw157 (Y4 s1 s2 hD hE') ?_
  exact gw2
 rw [if_pos (by rw [hD,hE];rfl)]
 obtain ⟨d1,d2⟩:=degE_bd hD
 obtain ⟨e1,e2⟩:=degE_bd hE
 have hw:=qG (n:=degE d + degE e) (by omega)
 by_cases hT:0 ≤ degE d∧0 ≤ degE e∧8 < degE d + degE e
 ·rw [tim_far hD hE hT.1 hT.2.1 hT.2.2]
  have i1:(degE d ≥ 0) = True:=eq_true hT.1
  have i2:(degE e ≥ 0) = True:=eq_true hT.2.1
  have i3:(degE d + degE e > 8) = True:=eq_true hT.2.2
  refine ⟨true,?_⟩
  refine AFn.of_runs (qQ 36) Tryz.func31 rfl rfl rfl gz ?_
  have hres:Tryz.f31.results.toList = [.tmp 4,.tmp 5]:=rfl
  have hrts:Tryz.f31.resultTypes.toList = [50,2]:=rfl
  simp only [qV,qU,eL,eI,eLL,eB,Nat.zero_add,Nat.reduceAdd]
  intro M
  refine qJ.of ?_
  refine gw158 (Y8 s1 s2 hD hE hw i1 i2 i3) ?_
  exact gw2
 have hld:=(yN hD).2.1
 have hle:=(yN hE).2.1
 have h3:=a_l06Times d e (elB_sm hD) (elB_sm hE) hld hle
 have hsl:=kC (prodL d e) []
 simp only [List.length_nil] at hsl
 have hpl:=vS hld hle
 obtain ⟨b,h4⟩:=a_l06Own (sumS cmpF (prodL d e)) (kE OkE.nil (tim_ok hD hE)) (by show (addS cmpF [] _).length ≤ _;omega)
 refine ⟨b,?_⟩
 refine AFn.of_runs (qQ 36) Tryz.func31 rfl rfl rfl gz ?_
 have hres:Tryz.f31.results.toList = [.tmp 4,.tmp 5]:=rfl
 have hrts:Tryz.f31.resultTypes.toList = [50,2]:=rfl
 simp only [qV,qU,eL,eI,eLL,eB,Nat.zero_add,Nat.reduceAdd]
 intro M
 refine qJ.of ?_
 by_cases g1:0 ≤ degE d
 rotate_left
 ·have i1:(degE d ≥ 0) = False:=eq_false g1
  refine gw159 (Y5 s1 s2 hD hE i1) ?_
  exact gw2
 have i1:(degE d ≥ 0) = True:=eq_true g1
 by_cases g2:0 ≤ degE e
 rotate_left
 ·have i2:(degE e ≥ 0) = False:=eq_false g2
  refine gw159 (Y6 s1 s2 hD hE i1 i2) ?_
  exact gw2
 have i2:(degE e ≥ 0) = True:=eq_true g2
 have i3:(degE d + degE e > 8) = False:=eq_false (by omega)
 refine gw159 (Y8 s1 s2 hD hE hw i1 i2 i3) ?_
 exact gw2
end Go.Proofs.YtedgfkpfhonlpaaGreat
namespace Go.Proofs.YtedgfkpfhonlpaaGreat
open Go.RowKit
theorem AFn.valT2 {P:Program} {f:FuncId} {ds:List (List D)} {k:Nat} {xs:List (List D)} {c:Int} (h:AFn P f ds (· = [.own k xs true,.val (.int c)])):AFn P f ds (· = [.val (.sl k xs),.val (.int c)]):=by
 refine ⟨h.call,fun A w vs hA hr => (h.fn A w vs hA hr).mono ?_⟩
 rintro e w' ⟨v,rs,rfl,rfl,hb,us,G,X,rfl,hG1,hG2,hrel⟩
 obtain ⟨v1,us1,G1,G2,Y1,Y2,rfl,e1,e2,ho,⟨og,cap,F,dd,rfl,hrow,hk,e3,e4,hel⟩,hrest⟩:=hrel
 have hel:ownR k w' dd xs F:=hel
 have hv:=ownV_sl.2 ⟨og,dd,F,hrow,hel,rfl⟩
 obtain ⟨v2,us2,G3,G4,Y3,Y4,rfl,f1,f2,ho2,⟨hv2,f3,f4⟩,hend⟩:=hrest
 have hend:us2 = []∧G4 = []∧Y4 = []:=hend
 obtain ⟨rfl,rfl,rfl⟩:=hend
 refine ⟨_,_,rfl,rfl,hb,[_,_],[],[],rfl,List.nodup_nil,(fun b hb => nomatch hb),_,[_],[],[],[],[],rfl,rfl,rfl,ho,⟨?_,rfl,rfl⟩,_,[],[],[],[],[],rfl,rfl,rfl,ho2,⟨jQ.2 (jQ.1 hv2),rfl,rfl⟩,rfl,rfl,rfl⟩
 exact hv.rd.mono (fun b hb _ => ⟨.inr (hG2 b (by
  rw [e1,e3]
  exact List.mem_append_left _ (by simpa using hb))),by simp⟩)
theorem AFn.valF2 {P:Program} {f:FuncId} {ds:List (List D)} {k:Nat} {xs:List (List D)} {c:Int} (h:AFn P f ds (· = [.own k xs false,.val (.int c)])):AFn P f ds (· = [.val (.sl k xs),.val (.int c)]):=by
 refine ⟨h.call,fun A w vs hA hr => (h.fn A w vs hA hr).mono ?_⟩
 rintro e w' ⟨v,rs,rfl,rfl,hb,us,G,X,rfl,hG1,hG2,hrel⟩
 obtain ⟨v1,us1,G1,G2,Y1,Y2,rfl,e1,e2,ho,⟨og,cap,F,dd,rfl,hrow,hk,e3,e4,hel⟩,hrest⟩:=hrel
 obtain ⟨v2,us2,G3,G4,Y3,Y4,rfl,f1,f2,ho2,⟨hv2,f3,f4⟩,hend⟩:=hrest
 have hend:us2 = []∧G4 = []∧Y4 = []:=hend
 obtain ⟨rfl,rfl,rfl⟩:=hend
 have hel:rdR k (fun b => (A b ∨ w.heap.size ≤ b)∧b ∉ X) w' dd xs:=hel
 refine ⟨_,_,rfl,rfl,hb,[_,_],[],[],rfl,List.nodup_nil,(fun b hb => nomatch hb),_,[_],[],[],[],[],rfl,rfl,rfl,ho,⟨?_,rfl,rfl⟩,_,[],[],[],[],[],rfl,rfl,rfl,ho2,⟨jQ.2 (jQ.1 hv2),rfl,rfl⟩,rfl,rfl,rfl⟩
 obtain ⟨oa,c',e,h1,h2,h3,h4⟩:=kK hrow
 refine yE.2 ⟨oa,c',dd,e,h1,h2,h3,hel.mono (fun b hb _ => ⟨hb.1,by simp⟩),?_⟩
 cases og with
 | none =>
  left
  have:=hrow.len0
  exact List.eq_nil_of_length_eq_zero (by rw [hrow.1,this,Nat.zero_mul])
 | some g =>
  refine .inr ⟨g,0,h4,⟨.inr (hG2 g (by rw [e1,e3];simp)),by simp⟩,fun j u hj => ?_⟩
  rw [Nat.zero_add]
  exact hrow.cells j u hj
theorem AFn.valB2 {P:Program} {f:FuncId} {ds:List (List D)} {k:Nat} {xs:List (List D)} {c:Int} {b:Bool} (h:AFn P f ds (· = [.own k xs b,.val (.int c)])):AFn P f ds (· = [.val (.sl k xs),.val (.int c)]):=by
 cases b with
 | true => exact h.valT2
 | false => exact h.valF2
end Go.Proofs.YtedgfkpfhonlpaaGreat
namespace Go.Proofs.YtedgfkpfhonlpaaGreat
open Go.RowKit
section
variable {P:Program} {cfg:Cfg} {M:Nat→Prop} {ops:Array Oper} {s:St}
theorem qZ.givesW (o:Oper) {l:List Oper} {Q:St→Prop} {d:Nat} {av:AV} (hw:qL ops s.regs o = some true) (hd:o.dst = some d) (hdN:d < cfg.N)
  (hG:∀ {w0:W0} {Ok σ a w},Sim w0 Ok cfg.N σ s a w→yH P a w o (relAV σ s.heap w av)) (h:qZ P cfg M ops l Q ⟨insR d av s.regs,s.heap⟩):qZ P cfg M ops (o :: l) Q s:=by
 intro w0 Ok σ a w Q' hM hS hQ
 refine wpList_step (fun K hK => ?_)
 rw [xZ hS hw]
 simp only [if_true]
 obtain ⟨v,h1,h2⟩:=hG hS
 unfold Oper.wp
 rw [h1]
 show K (a.put o.dst _) _
 rw [hd]
 exact hK _ _ (h w0 Ok σ _ _ Q' hM (Sim.ins hS hdN h2) hQ)
theorem bool_at {w0:W0} {Ok:Nat→Prop} {N:Nat} {σ:Asg} {a:Act} {w:World} (hS:Sim w0 Ok N σ s a w) {z:Operand} {k:Bool} (hz:(opv s.regs z).bind avB = some k):a.eval z = .bool k:=by
 obtain ⟨hv,h3,h4⟩:=bind_some hz
 have hr:=qF hS h3
 unfold avB at h4
 split at h4
 ·cases h4;exact jD.1 hr.2
 ·cases h4
theorem qZ.boolNe {o:Oper} {l:List Oper} {Q:St→Prop} {x y:Operand} {t u:TypeId} {d:Nat} {m n:Bool} (hu:P.underlying t = some .bool) (ho:o.op = .binOp .neq t x y u) (hw:qL ops s.regs o = some true) (hd:o.dst = some d) (hdN:d < cfg.N)
  (hx:(opv s.regs x).bind avB = some m) (hy:(opv s.regs y).bind avB = some n) (h:qZ P cfg M ops l Q ⟨insR d (dval (.bool (m != n))) s.regs,s.heap⟩):qZ P cfg M ops (o :: l) Q s:=by
 refine qZ.givesW o hw hd hdN (fun {w0 Ok σ a w} hS => ?_) h
 have e1:=bool_at hS hx
 have e2:=bool_at hS hy
 refine ⟨.bool (m != n),?_,rfl,jD.2 rfl⟩
 unfold execOp
 rw [ho]
 cases m <;> cases n <;> simp [e1,e2,eqGuard,Go.binOp,run_equal_bool w t _ _ hu]
end
end Go.Proofs.YtedgfkpfhonlpaaGreat
namespace Go.Proofs.YtedgfkpfhonlpaaGreat
section
variable {κ:Type} (c:κ→κ→Int)
def putN:List (κ × Int)→Int→κ→List (κ × Int)
 | [],k,x => [(x,k)]
 | p :: L,k,x => if c x p.1 < 0 then (x,k) :: p :: L else if c x p.1 = 0 then (p.1,p.2 + k) :: L else p :: putN L k x
def expN (L:List (κ × Int)):List κ:=L.flatMap fun p => List.replicate p.2.toNat p.1
def NfN (L:List (κ × Int)):Prop:=L.Pairwise (fun p q => c p.1 q.1 < 0)∧∀ q ∈ L,1 ≤ q.2
def IsN (L:List (κ × Int)) (M:List κ):Prop:=NfN c L∧(expN L).Perm M
end
section
variable {κ:Type} {c:κ→κ→Int}
theorem xD (p:κ × Int) (L:List (κ × Int)):expN (p :: L) = List.replicate p.2.toNat p.1 ++ expN L:=rfl
theorem expN_mem {L:List (κ × Int)} {x:κ} (h:x ∈ expN L):∃ p ∈ L,p.1 = x:=by
 obtain ⟨p,hp,h⟩:=List.mem_flatMap.1 h
 exact ⟨p,hp,(List.eq_of_mem_replicate h).symm⟩
theorem mem_expN {L:List (κ × Int)} {p:κ × Int} (h:p ∈ L) (h1:1 ≤ p.2):p.1 ∈ expN L :=
 List.mem_flatMap.2 ⟨p,h,List.mem_replicate.2 ⟨by omega,rfl⟩⟩
theorem NfN.nil:NfN c []:=⟨List.Pairwise.nil,fun q hq => nomatch hq⟩
theorem IsN.nil:IsN c [] []:=⟨NfN.nil,List.Perm.refl _⟩
theorem IsN.perm {L:List (κ × Int)} {M M':List κ} (h:IsN c L M) (hp:M.Perm M'):IsN c L M':=⟨h.1,h.2.trans hp⟩
theorem NfN.tail {p:κ × Int} {L:List (κ × Int)} (h:NfN c (p :: L)):NfN c L:=⟨(List.pairwise_cons.1 h.1).2,fun q hq => h.2 q (List.mem_cons_of_mem _ hq)⟩
variable (hc:Cmp c)
include hc
theorem NfN.ext:∀ {L L':List (κ × Int)},NfN c L→NfN c L'→(expN L).Perm (expN L')→L = L'
 | [],[],_,_,_ => rfl
 | [],q :: L',_,h',hp => by
  have:=hp.length_eq
  have h1:=h'.2 q (by simp)
  rw [xD,List.length_append,List.length_replicate] at this
  simp [expN] at this;omega
 | p :: L,[],h,_,hp => by
  have:=hp.length_eq
  have h1:=h.2 p (by simp)
  rw [xD,List.length_append,List.length_replicate] at this
  simp [expN] at this;omega
 | p :: L,q :: L',h,h',hp => by
  have hp1:=h.2 p (by simp)
  have hq1:=h'.2 q (by simp)
  have low:∀ {p:κ × Int} {L:List (κ × Int)},NfN c (p :: L)→∀ x ∈ expN (p :: L),c p.1 x ≤ 0:=fun {p L} h x hx => by
   obtain ⟨r,hr,rfl⟩:=expN_mem hx
   rcases List.mem_cons.1 hr with rfl|hr
   ·rw [hc.refl];omega
   ·have:=(List.pairwise_cons.1 h.1).1 r hr;omega
  have e1:=low h q.1 (hp.mem_iff.2 (mem_expN (by simp) hq1))
  have e2:=low h' p.1 (hp.mem_iff.1 (mem_expN (by simp) hp1))
  have ek:p.1 = q.1:=by
   apply hc.zero
   rcases Int.lt_or_eq_of_le e1 with e|e
   ·have:=(hc.anti _ _).1 e;omega
   ·exact e
  have no:∀ {p:κ × Int} {L:List (κ × Int)},NfN c (p :: L)→p.1 ∉ expN L:=fun {p L} h hx => by
   obtain ⟨r,hr,e⟩:=expN_mem hx
   have:=(List.pairwise_cons.1 h.1).1 r hr
   rw [e,hc.refl] at this;omega
  have hcnt:∀ {p:κ × Int} {L:List (κ × Int)},NfN c (p :: L)→(expN (p :: L)).countP (fun x => decide (c p.1 x = 0)) = p.2.toNat:=fun {p L} h => by
   rw [xD,List.countP_append,List.countP_replicate,if_pos (by simp [hc.refl])]
   have:(expN L).countP (fun x => decide (c p.1 x = 0)) = 0:=List.countP_eq_zero.2 fun x hx => by
    have:c p.1 x ≠ 0:=fun e => no h (by rw [hc.zero _ _ e];exact hx)
    simpa using this
   omega
  have c1:=hcnt h
  have c2:=hcnt h'
  rw [← ek,← hp.countP_eq] at c2
  have en:p.2 = q.2:=by omega
  have epq:p = q:=Prod.ext ek en
  subst epq
  rw [xD,xD,List.perm_append_left_iff] at hp
  rw [NfN.ext h.tail h'.tail hp]
theorem IsN.ext {L L':List (κ × Int)} {M M':List κ} (h:IsN c L M) (h':IsN c L' M') (hp:M.Perm M'):L = L' :=
 NfN.ext hc h.1 h'.1 (h.2.trans (hp.trans h'.2.symm))
theorem putN_exp:∀ (L:List (κ × Int)) (k:Int) (x:κ),(∀ q ∈ L,1 ≤ q.2)→1 ≤ k→(expN (putN c L k x)).Perm (expN L ++ List.replicate k.toNat x)
 | [],k,x,_,_ => by simp [putN,expN]
 | p :: L,k,x,h,hk => by
  unfold putN
  split
  ·rw [xD];exact List.perm_append_comm
  ·split
   ·rename_i e
    rw [xD,xD,hc.zero _ _ e]
    have:=h p (by simp)
    show (List.replicate (p.2 + k).toNat p.1 ++ expN L).Perm _
    rw [show (p.2 + k).toNat = p.2.toNat + k.toNat by omega,← List.replicate_append_replicate,List.append_assoc,List.append_assoc]
    exact (List.perm_append_left_iff _).2 List.perm_append_comm
   ·rw [xD,xD,List.append_assoc]
    exact (List.perm_append_left_iff _).2 (putN_exp L k x (fun q hq => h q (by simp [hq])) hk)
omit hc in
theorem putN_mem:∀ (L:List (κ × Int)) (k:Int) (x:κ) {q:κ × Int},q ∈ putN c L k x→q.1 = x ∨ ∃ p ∈ L,p.1 = q.1
 | [],k,x,q,h => by
  obtain rfl:q = (x,k):=by simpa [putN] using h
  exact .inl rfl
 | p :: L,k,x,q,h => by
  unfold putN at h
  split at h
  ·rcases List.mem_cons.1 h with rfl|h
   ·exact .inl rfl
   ·exact .inr ⟨q,h,rfl⟩
  ·split at h
   ·rcases List.mem_cons.1 h with rfl|h
    ·exact .inr ⟨p,by simp,rfl⟩
    ·exact .inr ⟨q,by simp [h],rfl⟩
   ·rcases List.mem_cons.1 h with rfl|h
    ·exact .inr ⟨q,by simp,rfl⟩
    ·rcases putN_mem L k x h with h|⟨r,h1,h2⟩
     ·exact .inl h
     ·exact .inr ⟨r,by simp [h1],h2⟩
theorem putN_nf:∀ {L:List (κ × Int)} {k:Int} {x:κ},NfN c L→1 ≤ k→NfN c (putN c L k x)
 | [],k,x,_,hk => ⟨by simp [putN],fun q hq => by
   have:q = (x,k):=by simpa [putN] using hq
   rw [this];exact hk⟩
 | p :: L,k,x,h,hk => by
  have h1:=List.pairwise_cons.1 h.1
  have h2:=h.2 p (by simp)
  unfold putN
  split
  ·rename_i hlt
   refine ⟨List.pairwise_cons.2 ⟨fun q hq => ?_,h.1⟩,fun q hq => ?_⟩
   ·rcases List.mem_cons.1 hq with rfl|hq
    ·exact hlt
    ·exact hc.lt_tr hlt (h1.1 q hq)
   ·rcases List.mem_cons.1 hq with rfl|hq
    ·exact hk
    ·exact h.2 q hq
  ·split
   ·refine ⟨List.pairwise_cons.2 ⟨h1.1,h1.2⟩,fun q hq => ?_⟩
    rcases List.mem_cons.1 hq with rfl|hq
    ·show 1 ≤ p.2 + k;omega
    ·exact h.2 q (by simp [hq])
   ·rename_i n1 n2
    have ih:=putN_nf (x:=x) h.tail hk
    refine ⟨List.pairwise_cons.2 ⟨fun q hq => ?_,ih.1⟩,fun q hq => ?_⟩
    ·rcases putN_mem L k x hq with e|⟨r,hr,e⟩
     ·rw [e,hc.anti];omega
     ·rw [← e];exact h1.1 r hr
    ·rcases List.mem_cons.1 hq with rfl|hq
     ·exact h2
     ·exact ih.2 q hq
theorem IsN.put {L:List (κ × Int)} {M:List κ} (h:IsN c L M) {k:Int} {x:κ} (hk:1 ≤ k):IsN c (putN c L k x) (M ++ List.replicate k.toNat x) :=
 ⟨putN_nf hc h.1 hk,(putN_exp hc L k x h.1.2 hk).trans ((List.perm_append_right_iff _).2 h.2)⟩
omit hc
theorem IsN.len {L:List (κ × Int)} {M:List κ} (h:IsN c L M):L.length ≤ M.length:=by
 rw [← h.2.length_eq]
 have key:∀ (L:List (κ × Int)),(∀ p ∈ L,1 ≤ p.2)→L.length ≤ (expN L).length:=by
  intro L
  induction L with
  | nil => intro _;exact Nat.le_refl _
  | cons p L ih =>
   intro hp
   have h1:=hp p (by simp)
   have h2:=ih (fun q hq => hp q (by simp [hq]))
   rw [xD,List.length_append,List.length_replicate,List.length_cons];omega
 exact key L h.1.2
include hc
end
end Go.Proofs.YtedgfkpfhonlpaaGreat
namespace Go.Proofs.YtedgfkpfhonlpaaGreat
abbrev Spl:=List (List Int) × List (List Int)
def pairC {α β:Type} (c:α→α→Int) (d:β→β→Int) (a b:α × β):Int:=if c a.1 b.1 = 0 then d a.2 b.2 else c a.1 b.1
def cmpS:Spl→Spl→Int:=pairC cmpF cmpN
def catS (s c:Spl):Spl:=(s.1 ++ c.1,s.2 ++ c.2)
def mulS (s c:Spl):Spl:=(mulF s.1 c.1,mulF s.2 c.2)
def nrmS (s:Spl):Spl:=(sortC cmpT s.1,sortC cmpT s.2)
def prodS (Ls:List (List Spl)):List Spl:=Ls.foldl (fun A L => A.flatMap fun s => L.map (catS s)) [([],[])]
def splitF:Nat→List Int→List Spl
 | 0,_ => []
 | n + 1,t => ((prodS ((brs t).map (splitF n))).map fun s => (s.1,[canon (jC s.2)])) ++ [([canon t],[])]
def split (t:List Int):List Spl:=splitF t.length t
end Go.Proofs.YtedgfkpfhonlpaaGreat
namespace Go.Proofs.YtedgfkpfhonlpaaGreat
open Go.RowKit
def SmS (s:Spl):Prop:=SmF s.1∧SmF s.2
instance (s:Spl):Decidable (SmS s):=inferInstanceAs (Decidable (_∧_))
def HaF (f:List (List Int)):Prop:=f.length ≤ 9∧qX f ≤ 50
instance (f:List (List Int)):Decidable (HaF f):=inferInstanceAs (Decidable (_∧_))
def HaS (s:Spl):Prop:=HaF s.1∧HaF s.2
theorem HaF.mul {f g:List (List Int)} (hf:HaF f) (hg:HaF g):SmF (mulF f g):=by
 obtain ⟨h1,h2⟩:=hf
 obtain ⟨h3,h4⟩:=hg
 exact ⟨by rw [kP];omega,by rw [xC];omega⟩
theorem HaS.mul {s c:Spl} (hs:HaS s) (hc:HaS c):SmS (mulS s c):=⟨hs.1.mul hc.1,hs.2.mul hc.2⟩
structure PutNI (L:List (Spl × Int)) (k:Int) (x:Spl) (y:Nat × Bool × List (Spl × Int)):Prop where
 le:y.1 ≤ L.length
 no:y.2.1 = false→y.2.2 = L.take y.1∧∀ q ∈ L.take y.1,0 < cmpS x q.1
 yes:y.2.1 = true→y.2.2 ++ L.drop y.1 = putN cmpS L k x
 len:y.2.2.length ≤ y.1 + 1
end Go.Proofs.YtedgfkpfhonlpaaGreat
namespace Go.Proofs.YtedgfkpfhonlpaaGreat
open Go.RowKit
def cmpTe:Spl→Spl→Int:=pairC cmpF cmpF
def OkT (L:List (Int × Spl)):Prop:=∀ q ∈ L,(1 ≤ q.1∧q.1 < 10007)∧SmS q.2
theorem OkT.nil:OkT []:=fun q hq => nomatch hq
structure PutTI (e:List (Int × Spl)) (k:Int) (x:Spl) (y:Nat × Bool × List (Int × Spl)):Prop where
 le:y.1 ≤ e.length
 no:y.2.1 = false→k ≠ 0∧y.2.2 = e.take y.1∧∀ q ∈ e.take y.1,0 < cmpTe x q.2
 yes:y.2.1 = true→y.2.2 ++ e.drop y.1 = putS cmpTe e k x
 len:y.2.2.length ≤ y.1 + 1
end Go.Proofs.YtedgfkpfhonlpaaGreat
namespace Go.Proofs.YtedgfkpfhonlpaaGreat
open Go.RowKit
def D.marks:D→List Nat
 | .tag F _ => F
 | _ => []
def rowMarks (xs:List (List D)):List Nat:=xs.flatMap (·.flatMap D.marks)
theorem rowMarks_rd {A:Nat→Prop} {w:World} {k:Nat} {ds:List Value} {xs:List (List D)} (h:rdR k A w ds xs):∀ b ∈ rowMarks xs,A b:=by
 intro b hb
 obtain ⟨x,hx,hb⟩:=List.mem_flatMap.1 hb
 obtain ⟨d,hd,hb⟩:=List.mem_flatMap.1 hb
 obtain ⟨i,hi,rfl⟩:=List.getElem_of_mem hx
 obtain ⟨c,h1,_⟩:=h.get i hi
 obtain ⟨j,hj,rfl⟩:=List.getElem_of_mem hd
 obtain ⟨v,_,h2⟩:=h1.get j hj
 cases e:(xs[i])[j] with
 | tag F x =>
  rw [e] at h2 hb
  exact (kI.1 h2).1 b hb
 | _ => rw [e] at hb;cases hb
section
variable {P:Program} {cfg:Cfg} {M:Nat→Prop} {ops:Array Oper} {s:St} {w0:W0} {w:World} {Ok:Nat→Prop} {N:Nat} {σ:Asg} {a:Act} {fs:List Fr} {Q:Exit→St→Prop}
theorem qT.fresh {c:Code} (hd:s.heap.all (fun p => !p.2.deep) = true)
  (h:∀ M':Nat→Prop,(∀ b,M' b→M b)→(∀ key k xs,look key s.heap = some (.row k xs false)→∀ b ∈ rowMarks xs,¬ M' b)→qT P cfg M' c Q s):qT P cfg M c Q s:=by
 intro w0 Ok σ a w Q' hM hS hQ
 have hdeep:∀ q o,look q s.heap = some o→o.deep = false:=fun q o hq => by
  have:=List.all_eq_true.1 hd _ (yW hq)
  simpa using this
 let w1:W0:=⟨w,fun b => ∃ q o,look q s.heap = some o∧b ∈ fp σ q o⟩
 have hmine:∀ b,w1.mine b→w0.mine b:=by
  rintro b (hb|⟨q,o,hq,hb⟩)
  ·exact .inl (Nat.le_trans hS.below.size hb)
  ·exact (hS.rows q o hq).fresh b hb
 have hS1:Sim w1 σ.ok cfg.N σ s a w:=⟨⟨rfl,rfl,rfl,Nat.le_refl _,fun _ _ _ => rfl⟩,fun b hb => hS.ok1 b (hmine b hb),fun b hb => .inl hb,hS.defers,hS.size,hS.regs,
  fun key o hk => ⟨(hS.rows key o hk).row,fun b hb => .inr ⟨key,o,hk,hb⟩,(hS.rows key o hk).nodup⟩,hS.disj⟩
 refine h w1.mine (fun b hb => hM ▸ hmine b hb) ?_ w1 σ.ok σ a w Q' rfl hS1 (fun e s' hq σ' a' w' hS' => ?_)
 ·intro key k xs hk b hb hm
  obtain ⟨ds,_,_,hel⟩:=(hS.rows key _ hk).row
  have hel:rdR k (Zn σ s.heap w) w ds xs:=hel
  have hz:=rowMarks_rd hel b hb
  rcases hm with hm|⟨q,o,hq,hm⟩
  ·have hm:w.heap.size ≤ b:=hm
   have:=hz.1;omega
  ·unfold fp at hm
   rw [hdeep q o hq] at hm
   exact hz.2.2 q o hq (by simpa using hm)
 ·let σ2:Asg:=⟨σ'.g,σ'.cap,σ'.F,fun b => σ'.ok b ∨ w0.mine b⟩
  have hZ:qO σ' σ2 s'.heap s'.heap w' w':=fun b hb => ⟨⟨hb.1,.inl hb.2.1,hb.2.2⟩,rfl⟩
  have hst:∀ k,jZ σ' σ2 s'.heap s'.heap k:=fun k o' ho' => ⟨o',ho',rfl,rfl,rfl,rfl⟩
  refine hQ e s' hq σ2 a' w' ⟨hS.below.trans2 hS'.below (fun b hb => hmine b (.inr hb)),fun b hb => .inr hb,?_,hS'.defers,hS'.size,fun r av hr => (hS'.regs r av hr).step hZ (fun k _ => hst k),fun key o hk => ?_,hS'.disj⟩
  ·rintro b (hb|hb)
   ·rcases hS'.ok2 b hb with h1|h1
    ·exact hS.ok2 b h1
    ·exact .inr (hmine b h1)
   ·exact .inr hb
  ·have hr:=RowOK.keep (σ':=σ2) hS'.ok1 hS'.rows hS'.disj hk hZ (fun k _ => hst k) rfl rfl rfl (fun _ _ => rfl)
   exact ⟨hr.row,fun b hb => hmine b (hr.fresh b hb),hr.nodup⟩
theorem qJ.fresh {c:Code} (hd:s.heap.all (fun p => !p.2.deep) = true)
  (h:∀ M':Nat→Prop,(∀ b,M' b→M b)→(∀ key k xs,look key s.heap = some (.row k xs false)→∀ b ∈ rowMarks xs,¬ M' b)→qJ P cfg M' c [] Q s):qJ P cfg M c [] Q s :=
 qT.fresh hd h
end
end Go.Proofs.YtedgfkpfhonlpaaGreat
namespace Go.Proofs
open Go.Shelf
end Go.Proofs
namespace Go.Proofs.YtedgfkpfhonlpaaGreat
open Go.RowKit
section
variable {P:Program} {cfg:Cfg} {M:Nat→Prop} {ops:Array Oper} {s:St} {w0:W0} {w:World} {Ok:Nat→Prop} {N:Nat} {σ:Asg} {a:Act} {fs:List Fr} {Q:Exit→St→Prop}
end
abbrev SpT:=(Spl × Int) × (List Nat × List Nat)
def SpT.bl (q:SpT):List Nat:=q.2.1 ++ q.2.2
end Go.Proofs.YtedgfkpfhonlpaaGreat
namespace Go.Proofs.YtedgfkpfhonlpaaGreat
open Go.RowKit
structure Ga1 (M:Nat→Prop) (L:List Spl) (i:Nat) (qs:List SpT):Prop where
 le:i ≤ L.length
 eq:qs.map (·.1) = (L.take i).map fun s => (nrmS s,1)
 nd:((qs.map SpT.bl).flatten).Nodup
 mi:∀ b ∈ (qs.map SpT.bl).flatten,M b
theorem Ga1.len {M:Nat→Prop} {L:List Spl} {i:Nat} {qs:List SpT} (h:Ga1 M L i qs):qs.length = i:=by
 have:=congrArg List.length h.eq
 rw [List.length_map,List.length_map,List.length_take] at this
 have:=h.le
 omega
end Go.Proofs.YtedgfkpfhonlpaaGreat
namespace Go.Proofs.YtedgfkpfhonlpaaGreat
open Go.RowKit
section
variable {α:Type} (f g:α→List (List D)) (n:α→Int)
def e3 (x:α):List D:=[.sl 1 (f x),.sl 1 (g x),.int (n x)]
end
section
variable {P:Program} {cfg:Cfg} {M:Nat→Prop} {ops:Array Oper} {s:St} {w0:W0} {w:World} {Ok:Nat→Prop} {N:Nat} {σ:Asg} {a:Act} {fs:List Fr} {Q:Exit→St→Prop}
end
end Go.Proofs.YtedgfkpfhonlpaaGreat
namespace Go.Proofs.YtedgfkpfhonlpaaGreat
open Go.RowKit
def brOf (t:List Int):List (List Int) × Int:=if lev8 t = true then (forest (brs (canon t)),0) else ([],1)
end Go.Proofs.YtedgfkpfhonlpaaGreat
namespace Go.Proofs.YtedgfkpfhonlpaaGreat
open Go.RowKit
section
variable {κ:Type} {c:κ→κ→Int} (hc:Cmp c)
include hc
end
def wF (F:Spl→Int) (f:List (List Int)):Int:=((prodS (f.map split)).map fun s => F (nrmS s)).sum
structure KoF (e:Elt) (list:List (Int × Spl)) (r:Elt) (whole:List (Int × Spl)):Prop where
 rl:r.length = e.length
 wl:whole.length = list.length + r.length
 all:∀ w ∈ whole,(w.2.2 = []∧∃ q ∈ r,q.1 = w.1∧q.2 = w.2.1) ∨ (∃ T,w.2.2 = [T]∧lev8 T = true∧∃ q ∈ list,q.1 = w.1∧q.2.1 = w.2.1∧q.2.2 = (brOf T).1)
end Go.Proofs.YtedgfkpfhonlpaaGreat
namespace Go.Proofs.YtedgfkpfhonlpaaGreat
def allTo (n:Nat):List (List Int):=(List.range n).flatMap fun k => treesN (k + 1)
def posT (t:List Int):Nat:=(allTo 8).idxOf t
end Go.Proofs.YtedgfkpfhonlpaaGreat
namespace Go.Proofs.YtedgfkpfhonlpaaGreat
open Go.RowKit
def plc (t:List Int):Int:=(posT t:Int) + 1
end Go.Proofs.YtedgfkpfhonlpaaGreat
namespace Go.Proofs.YtedgfkpfhonlpaaGreat
open Go.RowKit
def valM (a:List Int) (ps:List Int):Int:=ps.foldl (fun o p => mP (o * a.getD p.toNat 0)) 1
end Go.Proofs.YtedgfkpfhonlpaaGreat
namespace Go.Proofs.YtedgfkpfhonlpaaGreat
open Go.RowKit
def long6 (f:List (List Int)):Bool:=f.any fun t => decide (6 < t.length)
def vatOf (a:List Int) (f:List (List Int)):Int × Int:=if isMap a = true∧forB f = true then (if long6 f = true then (0,2) else (valM a (f.map plc),0)) else (0,1)
end Go.Proofs.YtedgfkpfhonlpaaGreat
namespace Go.Proofs.YtedgfkpfhonlpaaGreat
abbrev Mon:=List Nat
abbrev Pol:=List (Int × Mon)
def monV (a:List Int):Mon→Int
 | [] => 1
 | p :: m => a.getD p 0 * monV a m
def polV (a:List Int):Pol→Int
 | [] => 0
 | x :: p => x.1 * monV a x.2 + polV a p
def RelP (a L:List Int) (P:List Pol):Prop:=L.length = P.length∧∀ i,mP (L.getD i 0) = mP (polV a (P.getD i []))
theorem RelP.snoc {a L:List Int} {P:List Pol} (h:RelP a L P) {x:Int} {p:Pol} (hx:mP x = mP (polV a p)):RelP a (L ++ [x]) (P ++ [p]):=by
 obtain ⟨h1,h2⟩:=h
 refine ⟨by rw [List.length_append,List.length_append,h1];rfl,fun i => ?_⟩
 rw [List.getD_eq_getElem?_getD,List.getD_eq_getElem?_getD]
 by_cases hi:i < L.length
 ·rw [List.getElem?_append_left hi,List.getElem?_append_left (by omega),← List.getD_eq_getElem?_getD,← List.getD_eq_getElem?_getD]
  exact h2 i
 ·by_cases he:i = L.length
  ·subst he
   rw [List.getElem?_append_right (Nat.le_refl _),List.getElem?_append_right (by omega),h1,Nat.sub_self]
   exact hx
  ·rw [List.getElem?_eq_none (by rw [List.length_append];show L.length + 1 ≤ i;omega),List.getElem?_eq_none (by rw [List.length_append];show P.length + 1 ≤ i;omega)]
   rfl
end Go.Proofs.YtedgfkpfhonlpaaGreat
namespace Go.Proofs.YtedgfkpfhonlpaaGreat
open Go.RowKit
section
variable {F:Spl→Int} (hF:∀ s c,F (catS s c) = F s * F c)
include hF
def mulL:List Int→Int
 | [] => 1
 | x :: l => x * mulL l
end
def v9 (a b:List Int):List (Int × Spl)→Int→Int
 | [],out => out
 | q :: L,out => if (vatOf a q.2.1).2 = 0∧(vatOf b q.2.2).2 = 0 then v9 a b L (mP (out + mP (q.1 * mP ((vatOf a q.2.1).1 * (vatOf b q.2.2).1)))) else -1
end Go.Proofs.YtedgfkpfhonlpaaGreat
namespace Go.Proofs.YtedgfkpfhonlpaaGreat
open Go.RowKit
instance (L:List (Int × Spl)):Decidable (OkT L):=inferInstanceAs (Decidable (∀ q ∈ L,(1 ≤ q.1∧q.1 < 10007)∧SmS q.2))
end Go.Proofs.YtedgfkpfhonlpaaGreat
namespace Go.Proofs
open Go.Shelf
end Go.Proofs
namespace Go.Proofs.YtedgfkpfhonlpaaGreat
open Go.RowKit
abbrev TeT:=(Int × Spl) × (List Nat × List Nat)
def blT (q:TeT):List Nat:=q.2.1 ++ q.2.2
structure CpI (M:Nat→Prop) (L:List (Int × Spl)) (qs:List TeT):Prop where
 eq:qs.map (·.1) = L
 nd:((qs.map blT).flatten).Nodup
 mi:∀ b ∈ (qs.map blT).flatten,M b
end Go.Proofs.YtedgfkpfhonlpaaGreat
namespace Go.Proofs.YtedgfkpfhonlpaaGreat
open Go.RowKit
theorem EAOk.sz {n m:Nat} (hn:n ≤ 100) (hm:m ≤ 100) {e:Elt} (h:EAOk n m e):szP e:=by
 have h1:∀ (L:Elt),(∀ q ∈ L,FAOk m q.2)→szN L ≤ 202 * L.length:=fun L => by
  induction L with
  | nil => intro _;simp [szN]
  | cons q L ih =>
   intro hL
   have h2:=ih fun x hx => hL x (by simp [hx])
   have h3:=hL q (by simp)
   have h4:=h3.sum
   have h5:=h3.len
   show (q.2.length + qX q.2) + szN L ≤ 202 * (L.length + 1)
   omega
 have h2:=h1 e fun q hq => (h.ok q hq).2
 have h3:=h.len
 unfold szP
 omega
end Go.Proofs.YtedgfkpfhonlpaaGreat
namespace Go.Proofs.YtedgfkpfhonlpaaGreat
open Go.RowKit
structure MOk (n:Nat) (t:List Int):Prop where
 len:t.length = n
 bd:∀ x ∈ t,0 ≤ x∧x < 10007
theorem xU {e:Elt} (h:elB e = true):szP e∧SzE e:=by
 obtain ⟨h1,_,_,h4⟩:=yF h
 have h6:∀ (L:Elt),(∀ q ∈ L,forB q.2 = true)→szN L ≤ 17 * L.length:=fun L => by
  induction L with
  | nil => intro _;simp [szN]
  | cons q L ih =>
   intro hL
   have h2:=ih fun x hx => hL x (by simp [hx])
   have h3:=forB_short (hL q (by simp))
   have h4:=(kD (hL q (by simp))).1
   show (q.2.length + qX q.2) + szN L ≤ 17 * (L.length + 1)
   omega
 have h7:=h6 e h4
 refine ⟨by unfold szP;omega,by omega,fun q hq => ?_⟩
 have h3:=forB_short (h4 q hq)
 have h5:=(kD (h4 q hq)).1
 exact ⟨by omega,fun t ht => by have:=xV ht;omega⟩
theorem tim_sz (d e:Elt):SzE (timOf d e).1:=by
 by_cases h:elB d = true∧elB e = true
 ·rcases vY h.1 h.2 with ⟨k1,k2⟩|k1
  ·rw [k1];exact (xU k2).2
  ·rw [k1];exact ⟨by simp,fun q hq => nomatch hq⟩
 ·rw [tim_bad h];exact ⟨by simp,fun q hq => nomatch hq⟩
theorem tim_empty {d e:Elt} (h:(timOf d e).2 ≠ 0):(timOf d e).1 = []:=by
 by_cases hb:elB d = true∧elB e = true
 ·rcases vY hb.1 hb.2 with ⟨k1,k2⟩|k1
  ·rw [k1] at h;exact absurd rfl h
  ·rw [k1]
 ·rw [tim_bad hb]
end Go.Proofs.YtedgfkpfhonlpaaGreat
namespace Go.Proofs.YtedgfkpfhonlpaaGreat
open Go.RowKit
theorem Own.litOne {α:Type} {R:Rep α} {w:World} {c:List Value} {x:α} {lo M:Nat} (h:Own R lo M w c x) (hM:M ≤ w.heap.size) (hlo:lo ≤ w.heap.size) (E:TypeId) {H:Nat} (hH:w.heap.size = H) :
  Own (RS R) lo (H + 1) (w.alloc (.cells c.toArray E)) [.slice (some ⟨H,0,none⟩) 1 1] [x]:=by
 subst hH
 obtain ⟨F,h1,h2,h3⟩:=h
 have hl:=R.rd_len (R.own_rd h1)
 have hrow:=Row.lit w c.toArray E R.k 1 (by decide) (by simpa using hl)
 refine ⟨w.heap.size :: F,⟨_,some w.heap.size,c,F,rfl,by simpa using hrow,ownL.single (R.own_frame h1 (fun b hb => Below.heap_alloc w _ b (R.own_lt h1 b hb))),rfl⟩,List.nodup_cons.2 ⟨fun hm => by have:=R.own_lt h1 _ hm;omega,h2⟩,fun b hb => ?_⟩
 rcases List.mem_cons.1 hb with rfl|hb
 ·exact ⟨hlo,by omega⟩
 ·have:=h3 b hb;omega
theorem Own.pair {β:Type} {S:Rep β} {w:World} {s:List Value} {n:Int} {x:β} {lo hi:Nat} (h:Own S lo hi w s x) (hn:qA n):Own (RP RI S) lo hi w (.int .i64 n :: s) (n,x) :=
 let ⟨F,h1,h2,h3⟩:=h
 ⟨F,⟨[.int .i64 n],s,[],F,rfl,rfl,⟨⟨rfl,hn⟩,rfl⟩,h1⟩,h2,h3⟩
def elOf (t:List Int):List (Int × List (List Int)) × Int:=if lev8 t = true then ([(1,[canon t])],0) else ([],1)
theorem elOf_ok {t:List Int} (h:lev8 t = true):elOf t = ([(1,[canon t])],0):=by unfold elOf;rw [if_pos h]
theorem elOf_bad {t:List Int} (h:lev8 t = false):elOf t = ([],1):=by unfold elOf;rw [if_neg (by simp [h])]
theorem k_impl_ElementOf (v:Value) (t:List Int) (w:World) (h:Rd (RS RI) w [v] t) :
  Calls Tryz.prog 40 #[v] w (RetOC (RS yM) w (elOf t).1 (elOf t).2):=by
 have hlv:=jC0 v t w h
 cases h8:lev8 t
 ·have hr:=Lib.hid (elOf_bad h8)
  rw [h8] at hlv
  go_enter Tryz.func40,Tryz.ntmps40
  go_wp2_with fail
  refine hlv.mono ?_
  rintro e w' ⟨rfl,rfl⟩
  go_wp2_with fail
  go_ret2
  exact ⟨_,by rw [hr.out];rfl,by rw [hr.out];exact Own.nil _ _,Below.refl _ _⟩
 ·have hr:=Lib.hid (elOf_ok h8)
  rw [h8] at hlv
  have hl8:=lev8_len h8
  have hcn:=yB0 13 v t w h (lev8_lev h8) (by omega) (by omega)
  clear h h8
  go_enter Tryz.func40,Tryz.ntmps40
  go_wp2_with fail
  refine hlv.mono ?_
  rintro e w' ⟨rfl,rfl⟩
  go_wp2_with fail
  refine hcn.mono ?_
  rintro e w1 ⟨u,rfl,o1,b1⟩
  obtain ⟨ou,cu,rfl,_,_⟩:=o1.val
  have s1:=b1.size
  have q1:=o1.litOne (Nat.le_refl _) s1 24 rfl
  have q2:=(q1.pair (n:=1) (by unfold qA;omega)).litOne (by simp) (by simp;omega) 71 (H:=w1.heap.size + 1) (by simp)
  have c1:=b1.alloc s1 (.cells #[.slice ou (canon t).length cu] 24)
  have c2:=c1.alloc c1.size (.cells #[.int .i64 1,.slice (some ⟨w1.heap.size,0,none⟩) 1 1] 71)
  have Q2:=Lib.hid q2
  clear q1 q2 o1 hcn hlv
  go_wp2_with fail
  go_ret2
  exact ⟨_,by rw [hr.out];rfl,by rw [hr.out];exact Own.top Q2.out _ (Nat.le_refl _),c2⟩
end Go.Proofs.YtedgfkpfhonlpaaGreat
namespace Go.Proofs.YtedgfkpfhonlpaaGreat
open Go.RowKit
section
variable {P:Program} {α:Type} {R:Rep α} {e:α→List D}
theorem own_out (E:Enc R e) {lo hi:Nat} {w:World} {v:Value} {xs:List α} (h:Own (RS R) lo hi w [v] xs):∃ og c G ds' d,v = slv og xs.length c∧Row w (slv og xs.length c) R.k xs.length ds' og∧(og.toList ++ G).Nodup∧(∀ b ∈ og.toList ++ G,lo ≤ b∧b < hi)∧ownL (RK R.k R.kpos (RC d)) w ds' (xs.map e) G:=by
 obtain ⟨F,⟨v',og,ds',G,e1,hrow,hel,rfl⟩,hn,hlt⟩:=h
 obtain rfl:v = v':=by simpa using e1
 obtain ⟨d,hel'⟩:=enc_ownL E hel
 obtain ⟨oa,c,ev,k1,k2,k3,k4⟩:=hrow.value
 have hv':v = slv og xs.length c:=by
  cases og with
  | none =>
   have h0:=hrow.len0
   have hoa:oa = none:=k4
   rw [ev,hoa,h0,k3 hoa];rfl
  | some g => rw [ev,k4];rfl
 exact ⟨og,c,G,ds',d,hv',by rw [← hv'];exact hrow,hn,hlt,hel'⟩
theorem own_relR (E:Enc R e) {lo hi:Nat} {w:World} {v:Value} {xs:List α} (h:Own (RS R) lo hi w [v] xs):∃ G X,G.Nodup∧(∀ b ∈ G,lo ≤ b∧b < hi)∧v.oneCell' = true∧∀ A M Y,relR A M w Y (.own R.k (xs.map e) true) v G X:=by
 obtain ⟨og,c,G,ds',d,hv,hrow,hn,hlt,hel⟩:=own_out E h
 refine ⟨og.toList ++ G,og.toList,hn,hlt,by rw [hv];cases og <;> rfl,fun A M Y => ?_⟩
 exact ⟨og,c,G,ds',by rw [List.length_map];exact hv,by rw [List.length_map,hv];exact hrow,R.kpos,rfl,rfl,d,R.kpos,hel⟩
theorem int_rel (A:Nat→Prop) (w:World) {c:Int} (hc:qA c):rdV A w (.int .i64 c) (.int c):=jQ.2 ⟨rfl,hc⟩
theorem AFn.of_oc (E:Enc R e) {f:FuncId} {ds:List (List D)} {xs:List α} {c:Int} (hc:qA c) (eg:∀ args w,(callFunc f args).run P w = .ok (.enter f args) w)
  (h:∀ (w:World) (A:Nat→Prop) vs,qE A w ds vs→Calls P f vs.toArray w (RetOC (RS R) w xs c)):AFn P f ds (· = [.own R.k (xs.map e) true,.val (.int c)]):=by
 refine ⟨eg,fun A w vs hA hv => (h w A vs hv).mono ?_⟩
 rintro e' w' ⟨v,rfl,ho,hb⟩
 obtain ⟨G,X,h1,h2,h3,h4⟩:=own_relR E ho
 exact ⟨_,_,rfl,rfl,hb,[v,.int .i64 c],G,X,rfl,h1,fun b hb' => (h2 b hb').1,v,[.int .i64 c],G,[],X,[],rfl,by simp,by simp,h3,h4 _ _ _,.int .i64 c,[],[],[],[],[],rfl,rfl,rfl,rfl,⟨int_rel _ _ hc,rfl,rfl⟩,rfl,rfl,rfl⟩
end
end Go.Proofs.YtedgfkpfhonlpaaGreat
namespace Go.Proofs.YtedgfkpfhonlpaaGreat
open Go.RowKit
def viaK (P:Program) (cfg:Cfg) (M:Nat→Prop) (b:Code) (fs:List Fr) (Q:Exit→St→Prop) (s1:St):Exit→St→Prop
 | .normal,s => jY s s1
 | e,s => outK P cfg M (.seq b :: fs) Q e s
theorem qJ.via {P:Program} {cfg:Cfg} {M:Nat→Prop} {a b:Code} {fs:List Fr} {Q:Exit→St→Prop} {s:St} (s1:St) (h1:qJ P cfg M a [] (viaK P cfg M b fs Q s1) s) (h2:qJ P cfg M b fs Q s1):qJ P cfg M a (.seq b :: fs) Q s :=
 qT.monoF (Q1:=viaK P cfg M b fs Q s1) h1 fun e s' h => by
  cases e with
  | normal => exact ⟨s1,.inr h,h2⟩
  | _ => exact ⟨s',.inl rfl,h⟩
theorem viaK.on {P:Program} {cfg:Cfg} {M:Nat→Prop} {b:Code} {fs:List Fr} {Q:Exit→St→Prop} {s s1:St} (h:jY s s1):outK P cfg M [] (viaK P cfg M b fs Q s1) .normal s:=h
theorem viaK.ret {P:Program} {cfg:Cfg} {M:Nat→Prop} {b:Code} {fs:List Fr} {Q:Exit→St→Prop} {s s1:St} (h:outK P cfg M (.seq b :: fs) Q .ret s):outK P cfg M [] (viaK P cfg M b fs Q s1) .ret s:=h
theorem tim_elB {d e a:Elt} {x:Int} (hd:elB d = true) (he:elB e = true) (h:timOf d e = (a,x)):elB a = true:=by
 rcases vY hd he with ⟨h1,h2⟩|h1
 ·rw [h1] at h;injection h with e1 e2;rw [← e1];exact h2
 ·rw [h1] at h;injection h with e1 e2;rw [← e1];decide
theorem add_elB {d e a:Elt} {x:Int} (hd:elB d = true) (he:elB e = true) (h:addOf d e = (a,x)):elB a = true:=by
 rcases wP hd he with ⟨h1,h2⟩|h1
 ·rw [h1] at h;injection h with e1 e2;rw [← e1];exact h2
 ·rw [h1] at h;injection h with e1 e2;rw [← e1];decide
theorem add_empty {d e:Elt} (h:(addOf d e).2 ≠ 0):(addOf d e).1 = []:=by
 by_cases hb:elB d = true∧elB e = true
 ·rcases wP hb.1 hb.2 with ⟨k1,_⟩|k1
  ·rw [k1] at h;exact absurd rfl h
  ·rw [k1]
 ·rw [add_bad hb]
noncomputable def TElm:Tab Tryz.prog:=by
 classical
 exact ((((((Tab.none.add 30 (tab2 (codS 2 codPt) (codS 2 codPt) fun d e => if szP d∧szP e then some [.val (.sl 2 ((timOf d e).1.map ePt)),.val (.int (timOf d e).2)] else none) (xF fun d e rs h => by split at h;cases h;rename_i hs;exact AFn.valT2 (yE0 d e hs.1 hs.2);cases h)).add
  38 (tab2 (codS 2 codPt) (codS 2 codPt) fun d e => if szP d∧szP e then some [.val (.sl 2 ((addOf d e).1.map ePt)),.val (.int (addOf d e).2)] else none) (xF fun d e rs h => by split at h;cases h;rename_i hs;exact AFn.valT2 (yI0 d e hs.1 hs.2);cases h)).add
  36 (tab2 (codS 2 codPt) codI fun e k => if szP e then some [.val (.sl 2 ((sclOf e k).1.map ePt)),.val (.int (sclOf e k).2)] else none) (xF fun e k rs h => by split at h;cases h;rename_i hs;exact AFn.valT2 (yC0 e k hs);cases h)).add
  34 (tab1 (codS 2 codPt) fun e => if szP e then some [.val (.int (degOf e).1),.val (.int (degOf e).2)] else none) (yJ fun e rs h => by split at h;cases h;rename_i hs;exact a_impl_DegreeOf e hs;cases h)).add
  32 (tab1 (codS 2 codPt) fun e => if szP e then some [.val (.bool (elB e))] else none) (yJ fun e rs h => by split at h;cases h;rename_i hs;exact vI e hs;cases h)).add
  33 (tab1 (codS 2 codPt) fun e => if szP e then some [.val (.bool (elB e))] else none) (yJ fun e rs h => by split at h;cases h;rename_i hs;exact a_spec_IsElement e hs;cases h)).add
  35 (tab2 (codS 2 codPt) (codS 2 codPt) fun d e => if SzE d∧SzE e then some [.val (.bool (decide (d = e)))] else none) (xF fun d e rs h => by split at h;cases h;rename_i hs;exact a_likeParts9 d e hs.1 hs.2;cases h)
theorem a_ElementDot:AFn Tryz.prog 40 [[.sl 1 [[.int 0]]]] (· = [.val (.sl 2 (dotE.map ePt)),.val (.int 0)]):=by
 have h:AFn Tryz.prog 40 [eL [0]] (· = [.own yM.k ((elOf [0]).1.map ePt) true,.val (.int (elOf [0]).2)]) :=
  AFn.of_oc encPt (by rw [elOf_ok (by decide)];unfold qA;decide) (enters_of Tryz.func40 rfl rfl) (fun w A vs ⟨v1,_,e1,h1,e2⟩ => by subst e2;subst e1;exact k_impl_ElementOf v1 [0] w (Rd.of (rd1 h1)))
 rw [show elOf [0] = (dotE,0) by decide] at h
 exact AFn.valT2 h
theorem a_FnElements (code:List Int) (hc:qP code):AFn Tryz.prog 5 [eCode code] (· = [.val (.bool true)]):=by
 have hbg:=a_big code
 by_cases hbig:4096 < code.length
 ·rw [decide_eq_true hbig] at hbg
  simp only [eCode,dCode] at hbg
  refine AFn.of_runs (qQ 277) Tryz.func5 rfl rfl rfl gz ?_
  have hres:Tryz.f5.results.toList = [.tmp 2]:=rfl
  have hrts:Tryz.f5.resultTypes.toList = [4]:=rfl
  simp only [qV,qU,eL,eI,eLL,eB,Nat.zero_add,Nat.reduceAdd,eCode,dCode]
  intro M
  refine qJ.of ?_
  refine gw160 ?_
  exact gw2
 rw [decide_eq_false hbig] at hbg
 have hl:code.length ≤ 1000000000:=by omega
 have hdr:=yF0 hc hl
 have hdr2:=a_DrawAddElements hc hl
 obtain ⟨hok1,hok2⟩:=drawTm_ok hc
 obtain ⟨hs3,hs4⟩:=drawAd_ok hc
 obtain ⟨⟨d,e⟩,hp⟩:∃ p,p = drawTm code:=⟨_,rfl⟩
 obtain ⟨⟨f,g⟩,hfg⟩:∃ p,p = drawAd code:=⟨_,rfl⟩
 rw [← hp] at hdr hok1 hok2
 rw [← hfg] at hdr2 hs3 hs4
 simp only at hdr hok1 hok2 hdr2 hs3 hs4
 have hs1:=hok1.sz (by decide) (by decide)
 have hs2:=hok2.sz (by decide) (by decide)
 obtain ⟨fl,h2⟩:=yG0 d e hs1 hs2
 have h2:=AFn.valB2 h2
 obtain ⟨fl2,h3⟩:=yH0 f g hs3 hs4
 have h3:=AFn.valB2 h3
 have hdot:=a_ElementDot
 have b0:((0:Int) != 0) = false:=by decide
 have b3:((3:Int) != 0) = true:=by decide
 have b00:((0:Int) == 0) = true:=by decide
 have b33:((3:Int) == 3) = true:=by decide
 have b03:((0:Int) == 3) = false:=by decide
 obtain ⟨C,hC⟩:∃ C,C = code.map eU:=⟨_,rfl⟩
 simp only [eCode,dCode] at hbg hdr hdr2
 rw [← hC] at hbg hdr hdr2
 have hem:=tim_empty (d:=d) (e:=e)
 have hem2:=add_empty (d:=f) (e:=g)
 have hone:=fun p => em_one (d:=d) (e:=e) (p:=p)
 have htwo:=fun s => em_two (f:=f) (g:=g) (s:=s)
 have hez:=tim_sz d e
 obtain ⟨⟨p,c⟩,hpc⟩:∃ p,p = timOf d e:=⟨_,rfl⟩
 obtain ⟨⟨s,c6⟩,hsc⟩:∃ p,p = addOf f g:=⟨_,rfl⟩
 rw [← hpc] at h2 hem hez
 rw [← hsc] at h3 hem2
 simp only at h2 h3 hem hem2 hez
 have T1:=hpc.symm
 have T2:=hsc.symm
 have t1:=eq_true hs1
 have t2:=eq_true hs2
 have t3:=eq_true hs3
 have t4:=eq_true hs4
 have bcc:(c != c) = false:=by simp
 have bss:(c6 != c6) = false:=by simp
 have bdd:(elB d != elB d) = false:=by simp
 have bee:(elB e != elB e) = false:=by simp
 refine AFn.of_runs (qQ 277) Tryz.func5 rfl rfl rfl gz ?_
 have hres:Tryz.f5.results.toList = [.tmp 2]:=rfl
 have hrts:Tryz.f5.resultTypes.toList = [4]:=rfl
 simp only [qV,qU,eL,eI,eLL,eB,Nat.zero_add,Nat.reduceAdd,eCode,dCode]
 intro M
 refine qJ.of ?_
 rw [← hC]
 refine gw161 (Yp t1 t2) ?_
 ((refine gw162 (Y3 t1 t2 bcc) ?_);(with_reducible refine qJ.regCut (qQ 277) TElm 8 (s1:=?_) ?_ ?_);rotate_left 1;(focus ((with_reducible refine QW ?_);simp only [Zg,Zi,seval,reduceCtorEq,Nat.reduceEqDiff,TElm,TElm,yY,t1,t2,bcc];with_reducible rfl));simp only [List.toList_toArray,List.drop_succ_cons,List.drop_zero])
 refine qZ.boolNe (d:=66) Tryz.underlying4 rfl (by rfl) rfl (by decide) rfl rfl ?_
 rw [bdd]
 ((with_reducible refine qZ.cut (qQ 277) TElm 6 (s1:=?_) ?_ ?_);rotate_left 1;(focus ((with_reducible refine QW ?_);simp only [Zg,Zi,seval,reduceCtorEq,Nat.reduceEqDiff,TElm,TElm,yY,t1,t2,bcc];with_reducible rfl));simp only [List.drop_succ_cons,List.drop_zero])
 refine qZ.boolNe (d:=73) Tryz.underlying4 rfl (by rfl) rfl (by decide) rfl rfl ?_
 rw [bee]
 (refine qZ.opsT (qQ 277) (T:=Tab.none) (s':=?_) ?_ ?_;rotate_left 1;focus (simp only [Zg,Zi,seval,reduceCtorEq,Nat.reduceEqDiff];with_reducible rfl))
 refine qJ.fits (s0:=⟨[(0,.c (.val (.sl 1 C))),(3,.c (.val (.sl 2 (d.map ePt)))),(4,.c (.val (.sl 2 (e.map ePt)))),(5,.c (.val (.sl 2 (p.map ePt)))),(6,.c (.val (.int c))),(74,.c (.val (.bool false)))],[]⟩) ?_ ?_
 ·exact gw7 Y0
 refine qJ.condF rfl ?_
 refine Q3 ?_
 refine Q2 ?_
 refine Q1 ?_
 refine qJ.via ⟨[(0,.c (.val (.sl 1 C)))],[]⟩ ?_ ?_
 ·by_cases hc0:c = 0
  rotate_left
  ·have bc0:(c == 0) = false:=beq_eq_false_iff_ne.2 hc0
   obtain rfl:=hem hc0
   refine gw163 bc0 ?_
   refine viaK.on ?_
   exact gw7 Y0
  subst hc0
  have E:=hone p hpc.symm
  obtain ⟨sp,sp9⟩:=xU E.bp
  obtain ⟨s2,k2,k3⟩:=E.two
  obtain ⟨sq,_⟩:=xU k3
  have e1:=E.bd;have e2:=E.be;have e3:=E.bp;have e4:=E.q;have e5:=E.deg
  have g1:degOf d = (degE d,0):=by unfold degOf;rw [if_pos e1]
  have g2:degOf e = (degE e,0):=by unfold degOf;rw [if_pos e2]
  have g3:degOf p = (degE p,0):=by unfold degOf;rw [if_pos e3]
  have t5:=eq_true sp
  have t6:=eq_true sp9
  have t7:=eq_true sq
  have bd:=degE_bd e1;have be:=degE_bd e2
  obtain ⟨x,hx⟩:∃ x,x = degE d:=⟨_,rfl⟩
  obtain ⟨y,hy⟩:∃ y,y = degE e:=⟨_,rfl⟩
  obtain ⟨z,hz⟩:∃ z,z = degE p:=⟨_,rfl⟩
  rw [← hx] at g1 bd e5
  rw [← hy] at g2 be e5
  rw [← hz] at g3 e5
  refine gw164 (Y8 t1 t2 t5 b00 e4 g1 g2 g3) ?_
  refine qJ.fits (s0:=⟨[(0,.c (.val (.sl 1 C))),(5,.c (.val (.sl 2 (p.map ePt)))),(9,.c (.val (.sl 2 (p.map ePt)))),(10,.c (.val (.int 0))),(11,.c (.val (.int x))),(12,.c (.val (.int 0))),(13,.c (.val (.int y))),(14,.c (.val (.int 0))),(15,.c (.val (.int z))),(16,.c (.val (.int 0)))],[]⟩) ?_ ?_
  ·exact gw7 Y0
  have hw:=qG (n:=x + y) (by omega)
  have nn:((-1:Int) != -1) = false:=by decide
  have nm:((-1:Int) == -1) = true:=by decide
  have hcase:(z != x + y && z != -1) = false∧((z == -1) != (x == -1 || y == -1)) = false:=by
   rcases e5 with ⟨h1,h2⟩|⟨h1,h2,h3,h4⟩
   ·rw [h1]
    refine ⟨by simp,?_⟩
    rcases h2 with h2|h2 <;> rw [h2] <;> simp
   ·rw [show (z == -1) = false from beq_eq_false_iff_ne.2 h4,show (x == -1) = false from beq_eq_false_iff_ne.2 h2,show (y == -1) = false from beq_eq_false_iff_ne.2 h3,h1]
    simp
  obtain ⟨B1,hB1⟩:∃ b,b = (z != x + y):=⟨_,rfl⟩
  obtain ⟨B2,hB2⟩:∃ b,b = (z != -1):=⟨_,rfl⟩
  obtain ⟨B3,hB3⟩:∃ b,b = (z == -1):=⟨_,rfl⟩
  obtain ⟨B4,hB4⟩:∃ b,b = (x == -1):=⟨_,rfl⟩
  obtain ⟨B5,hB5⟩:∃ b,b = (y == -1):=⟨_,rfl⟩
  rw [← hB1,← hB2,← hB3,← hB4,← hB5] at hcase
  refine qJ.via ⟨[(0,.c (.val (.sl 1 C))),(5,.c (.val (.sl 2 (p.map ePt)))),(144,.c (.val (.bool false)))],[]⟩ ?_ ?_
  ·clear hone htwo hem hem2 h2 h3 hdr hdr2 hbg hdot E e5 hx hy hz
   cases B1 <;> cases B2 <;> cases B3 <;> cases B4 <;> cases B5 <;> first
    | exact absurd hcase (by decide)
    | (((refine gw165 (Y9 t5 t6 b0 hw hB1.symm hB2.symm hB3.symm hB4.symm hB5.symm) ?_);(with_reducible refine qJ.regCut (qQ 277) TElm 45 (s1:=?_) ?_ ?_);rotate_left 1;(focus ((with_reducible refine QW ?_);simp only [Zg,Zi,seval,reduceCtorEq,Nat.reduceEqDiff,TElm,TElm,yY,t5,t6,b0,e3,hw,hB1.symm,hB2.symm,hB3.symm,hB4.symm,hB5.symm,eq_self,decide_true];with_reducible rfl));simp only [List.toList_toArray,List.drop_succ_cons,List.drop_zero])
       refine qZ.boolNe (d:=143) Tryz.underlying4 rfl (by rfl) rfl (by decide) rfl rfl ?_
       first|rw [show (true != true) = false from rfl]|rw [show (false != false) = false from rfl]
       (refine qZ.opsT (qQ 277) (T:=Tab.none) (s':=?_) ?_ ?_;rotate_left 1;focus (simp only [Zg,Zi,seval,reduceCtorEq,Nat.reduceEqDiff];with_reducible rfl))
       refine viaK.on ?_
       exact gw7 Y0)
  refine gw164 (Y5 t5 t7 b0 k2 k3) ?_
  refine viaK.on ?_
  exact gw7 Y0
 by_cases hc6:c6 = 0
 rotate_left
 ·have bc6:(c6 != 0) = true:=bne_iff_ne.2 hc6
  obtain rfl:=hem2 hc6
  refine gw166 (Y5 t3 t4 bss bc6 b00) ?_
  exact gw2
 subst hc6
 have E2:=htwo s hsc.symm
 obtain ⟨m,m1,m2⟩:=E2.minus
 obtain ⟨a,x,b,y,h,z,u,v,q1,q2,q3,q4,r1,r2,r3,r4,r5⟩:=E2.dist
 obtain ⟨sf,sf9⟩:=xU E2.bf
 obtain ⟨ss,_⟩:=xU E2.bs
 have hB:elB b = true:=tim_elB E2.bf dot_elB q2
 have hH:elB h = true:=tim_elB E2.bg dot_elB q3
 have hA:elB a = true:=tim_elB E2.bs dot_elB q1
 have hU:elB u = true:=add_elB hB hH q4
 obtain ⟨sb,_⟩:=xU hB
 obtain ⟨sh,_⟩:=xU hH
 obtain ⟨_,sa9⟩:=xU hA
 obtain ⟨_,su9⟩:=xU hU
 obtain ⟨sd,_⟩:=xU dot_elB
 have hM:elB m = true:=by
  obtain ⟨k1,k2⟩:=scl_ok E2.bg (k:=10006) (by omega)
  rw [k1] at m1
  injection m1 with e1 e2
  rw [← e1];exact k2
 obtain ⟨sm,_⟩:=xU hM
 have bs:=E2.bs
 have u1:=eq_true ss;have u2:=eq_true sd;have u3:=eq_true sb;have u4:=eq_true sh;have u5:=eq_true sm;have u6:=eq_true sf9;have u7:=eq_true sa9;have u8:=eq_true su9
 clear hone htwo hem hem2 h2 hdr hbg
 refine gw167 (Y4 t3 t4 bss b0) ?_
 ((refine gw168 ?_);(with_reducible refine qJ.regCut (qQ 277) Tab.none 1 (s1:=?_) ?_ ?_);rotate_left 1;(focus ((with_reducible refine QW ?_);simp only [Zg,Zi,seval,reduceCtorEq,Nat.reduceEqDiff];with_reducible rfl));simp only [List.toList_toArray,List.drop_succ_cons,List.drop_zero])
 refine qZ.frzs [186] ?_
 (refine qZ.opsT (qQ 277) (T:=Tab.none.at' 40 hdot) (s':=?_) ?_ ?_;rotate_left 1;focus (simp only [Zg,Zi,seval,reduceCtorEq,Nat.reduceEqDiff];with_reducible rfl))
 refine gw169 (Y12 t3 t4 u1 u2 u3 u4 u5 u6 b0 q1 q2 (Y5 q3 q4 m1 m2 bs)) ?_
 refine qJ.fits (s0:=⟨[(27,.c (.val (.sl 2 (a.map ePt)))),(28,.c (.val (.int x))),(30,.c (.val (.int y))),(32,.c (.val (.int z))),(33,.c (.val (.sl 2 (u.map ePt)))),(34,.c (.val (.int v)))],[]⟩) ?_ ?_
 ·exact gw7 Y0
 rcases r1 with rfl|rfl
 rotate_left
 ·refine gw170 (Yp b3 b33) ?_
  exact gw2
 rcases r2 with rfl|rfl
 rotate_left
 ·refine gw170 (Y4 b0 b3 b33 b03) ?_
  exact gw2
 rcases r3 with rfl|rfl
 rotate_left
 ·refine gw170 (Y4 b0 b3 b33 b03) ?_
  exact gw2
 rcases r4 with rfl|rfl
 rotate_left
 ·refine gw170 (Y4 b0 b3 b33 b03) ?_
  exact gw2
 obtain rfl:=r5 rfl rfl rfl rfl
 refine gw169 (Y3 u7 u8 b0) ?_
 exact gw2
theorem walk_FnElements (v0:Value) (x0:List Int) (w:World) (h0:Rd RBytes w [v0] x0):Calls Tryz.prog 5 #[v0] w (RetV w (.bool true)):=law_code (fun code hc => a_FnElements code hc) v0 x0 w h0
end Go.Proofs.YtedgfkpfhonlpaaGreat

/- Lemmas (31). -/
import Derived.Test.YtgngidchldajhaaZA7
import Derived.Test.YtgngidchldajhaaZA8
import Derived.Test.YtgngidchldajhaaZA10
import Derived.Test.YtgngidchldajhaaZA11
set_option linter.unusedSimpArgs false
set_option linter.unusedVariables false
namespace Go.Proofs.Ytgngidchldajhaa
open Go.RowKit
set_option maxRecDepth 20000 in
set_option maxHeartbeats 16000000 in
theorem p_tree9 {code:List Int} (hc:Bytes code) (hl:code.length ≤ 1000000000):DrawsE Try.prog 8 code (drw1 (drawG code)):=by
 refine drw1_of fun s m hs hm1 hm2 => ?_
 have hpin:=nxt_below hc hl
 have hdr:=nxtE_eq code s m hs
 have hbd:=nxtF_bd hc s m
 have hat:=nxtF_at (n:=m) hs
 unfold drawG drawF
 obtain ⟨⟨kk,s1⟩,hp⟩:∃ p,p = nxtF code s m:=⟨_,rfl⟩
 rw [← hp] at hdr hbd hat ⊢
 simp only at hdr hbd hat ⊢
 obtain ⟨k,rfl⟩:∃ k:Nat,kk = k:=⟨kk.toNat,by omega⟩
 rw [Int.toNat_natCast]
 have hk:k ≤ 1000:=by omega
 simp only [eI] at hdr
 refine AEp.of_runs (cfg_ok 29) Try.func8 rfl rfl rfl (fun _ => rfl) (by simp only [List.length_cons,List.length_nil];decide) ?_
 have hres:Try.f8.results.toList = [.tmp 4]:=rfl
 have hrts:Try.f8.resultTypes.toList = [27]:=rfl
 simp only [List.length_cons,List.length_nil,ownArg,if_true,argRegs,argAV1,eL,eI,eLL,eB,Nat.zero_add,Nat.reduceAdd]
 intro M og cap
 refine RunK.of ?_
 repeat' (first|with_reducible (first|refine Q1 ?_|refine Q2 ?_|refine Q3 ?_|refine Q4 ?_|refine Q5 ?_|refine Q6 ?_|refine Q7 ?_|refine Q8 ?_|refine Q9 ?_|refine Qa ?_|refine Qb ?_|refine Qc ?_|refine Qd ?_|refine Qe ?_|refine Qf ?_)|((with_reducible refine Qo ?_ ?_);focus rfl)|((with_reducible first|refine QT 7 (l:=?_) ?_ ?_|refine QF 7 (l:=?_) ?_ ?_);rotate_left 1;focus (simp only [Zu,Nat.reduceSub,Nat.reduceBEq];with_reducible rfl))|((with_reducible first|refine QS (cfg_ok 29) (Tab.none.pin 45 (nxtE code) hpin) (s':=?_) ?_ ?_|refine QC (b:=?_) ?_ ?_);rotate_left 1;focus ((with_reducible refine QW ?_);simp only [Zg,seval,if_true,if_false,reduceCtorEq,Nat.reduceEqDiff,hdr,nxtE];with_reducible rfl)))
 refine RunK.loop (β:=Nat × (Nat × Int) × List Int) (γ:=List Int × (Nat × Int)) (fun x => ⟨[(0,.optr 0 0 0),(5,.c (.own 5 x.2.2.length)),(6,.c (.val (.int x.1)))],[(0,.pin og cap 3 [srcD code x.2.1]),(5,.row 1 (x.2.2.map eI) true)]⟩)
  (fun x => x.1 ≤ k∧x.2.1.1 ≤ code.length∧TOk (1 + (k - x.1)) x.2.2∧growD code x.1 x.2.1 x.2.2 = growD code k s1 [0]) (fun x => x.1)
  (fun z => ⟨[(0,.optr 0 0 0),(5,.c (.own 5 z.1.length))],[(0,.pin og cap 3 [srcD code z.2]),(5,.row 1 (z.1.map eI) true)]⟩) (fun z => z = growD code k s1 [0]) (k,s1,[0]) ⟨Nat.le_refl _,hat,⟨by simp,by show LevP [0];decide,by simp,by simp⟩,rfl⟩ ?_ ?_ ?_
 ·(repeat' (first|with_reducible refine Qn|((with_reducible refine Qr ?_ ?_);focus (first|with_reducible rfl|(simp only [Zz,Nat.reduceBEq];done)|rfl))|((with_reducible refine Qj (o':=?_) ?_ ?_ ?_);rotate_left 1;focus rfl)|((with_reducible refine Qw ?_ ?_);(focus (first|with_reducible rfl|(simp only [Zv];done)));focus (first|exact id|exact (fun h => nomatch h)|exact (fun _ => rfl)))))
  all_goals first|exact ⟨rfl,rfl⟩|exact ⟨rfl,rfl,id⟩|exact ⟨rfl,rfl,rfl,rfl⟩
 ·rintro ⟨j,s,t⟩ ⟨hj,hs,ht,hgr⟩
  simp only at hj hs ht hgr
  by_cases h0:0 < j
  ·obtain ⟨j,rfl⟩:∃ i,j = i + 1:=⟨j - 1,by omega⟩
   have i1:(((j + 1:Nat):Int) > 0) = True:=eq_true (by omega)
   have hlb:=ht.bd _ (getLastD_mem ht.pos)
   have htl:=ht.len
   have htp:0 < t.length:=List.length_pos_iff.2 ht.pos
   have hdr:=nxtE_eq code s (t.getLastD 0 + 1) hs
   have hbd:=nxtF_bd hc s (t.getLastD 0 + 1)
   have hat:=nxtF_at (n:=t.getLastD 0 + 1) hs
   have hgr:growD code j (nxtF code s (t.getLastD 0 + 1)).2 (t ++ [1 + (nxtF code s (t.getLastD 0 + 1)).1]) = growD code k s1 [0]:=hgr
   have hnext:=(growD_ok hc 1 ht hs).1
   have hnext:TOk (1 + (k - (j + 1)) + 1) (t ++ [1 + (nxtF code s (t.getLastD 0 + 1)).1]):=hnext
   obtain ⟨⟨x,s2⟩,hp⟩:∃ p,p = nxtF code s (t.getLastD 0 + 1):=⟨_,rfl⟩
   rw [← hp] at hdr hbd hat hgr hnext
   simp only at hdr hbd hat hgr hnext
   simp only [eI] at hdr
   have hlm:(t.map eI).length = t.length:=List.length_map _
   have i2:((0:Int) ≤ (t.length:Int) - 1) = True:=eq_true (by omega)
   have i3:((t.length:Int) - 1 < (t.length:Int)) = True:=eq_true (by omega)
   have w1:w64 ((t.length:Int) - 1) = (t.length:Int) - 1:=w64_eq (by omega)
   have w2:w64 (t.getLastD 0 + 1) = t.getLastD 0 + 1:=w64_eq (by omega)
   have w3:w64 (1 + x) = 1 + x:=w64_eq (by omega)
   have w4:w64 (((j + 1:Nat):Int) - 1) = j:=by rw [w64_eq (by omega)];omega
   have hg:(t.map eI)[((t.length:Int) - 1).toNat]? = some [.int (t.getLastD 0)]:=by
    have e:((t.length:Int) - 1).toNat = t.length - 1:=by omega
    rw [e,List.getElem?_map,← List.getLast?_eq_getElem?]
    cases t with
    | nil => exact absurd rfl ht.pos
    | cons a t => rw [List.getLast?_cons,List.getLastD_cons,← List.getLastD_eq_getLast?];rfl
   have q1:=big_le (n:=t.length + 1) (by omega)
   have q2:=big_mul (n:=t.length + 1) (c:=8) (by omega) (by omega)
   repeat' (first|with_reducible (first|refine Q1 ?_|refine Q2 ?_|refine Q3 ?_|refine Q4 ?_|refine Q5 ?_|refine Q6 ?_|refine Q7 ?_|refine Q8 ?_|refine Q9 ?_|refine Qa ?_|refine Qb ?_|refine Qc ?_|refine Qd ?_|refine Qe ?_|refine Qf ?_)|((with_reducible refine Qo ?_ ?_);focus rfl)|((with_reducible first|refine QT 7 (l:=?_) ?_ ?_|refine QF 7 (l:=?_) ?_ ?_);rotate_left 1;focus (simp only [Zu,Nat.reduceSub,Nat.reduceBEq];with_reducible rfl))|((with_reducible first|refine QS (cfg_ok 29) (Tab.none.pin 45 (nxtE code) hpin) (s':=?_) ?_ ?_|refine QC (b:=?_) ?_ ?_);rotate_left 1;focus ((with_reducible refine QW ?_);simp only [Zg,seval,if_true,if_false,reduceCtorEq,Nat.reduceEqDiff,hdr,nxtE,i1,i2,i3,w1,w2,w3,w4,hg,hlm,q1,q2];with_reducible rfl)))
   refine roundK.on (j,s2,t ++ [1 + x]) ⟨⟨by omega,hat,by rw [show 1 + (k - j) = 1 + (k - (j + 1)) + 1 by omega];exact hnext,hgr⟩,by simp⟩ ?_
   (repeat' (first|with_reducible refine Qn|((with_reducible refine Qr ?_ ?_);focus (first|with_reducible rfl|(simp only [Zz,Nat.reduceBEq,List.map_append,List.map_cons,List.map_nil,List.length_append,List.length_singleton,eI];done)|rfl))|((with_reducible refine Qj (o':=?_) ?_ ?_ ?_);rotate_left 1;focus rfl)|((with_reducible refine Qw ?_ ?_);(focus (first|with_reducible rfl|(simp only [Zv,List.map_append,List.map_cons,List.map_nil,List.length_append,List.length_singleton,eI];done)));focus (first|exact id|exact (fun h => nomatch h)|exact (fun _ => rfl)))))
   all_goals first|exact ⟨rfl,rfl⟩|exact ⟨rfl,rfl,id⟩|exact ⟨rfl,rfl,rfl,rfl⟩
  ·obtain rfl:j = 0:=by omega
   have i1:(((0:Nat):Int) > 0) = False:=eq_false (by omega)
   repeat' (first|with_reducible (first|refine Q1 ?_|refine Q2 ?_|refine Q3 ?_|refine Q4 ?_|refine Q5 ?_|refine Q6 ?_|refine Q7 ?_|refine Q8 ?_|refine Q9 ?_|refine Qa ?_|refine Qb ?_|refine Qc ?_|refine Qd ?_|refine Qe ?_|refine Qf ?_)|((with_reducible refine Qo ?_ ?_);focus rfl)|((with_reducible first|refine QT 7 (l:=?_) ?_ ?_|refine QF 7 (l:=?_) ?_ ?_);rotate_left 1;focus (simp only [Zu,Nat.reduceSub,Nat.reduceBEq];with_reducible rfl))|((with_reducible first|refine QS (cfg_ok 29) Tab.none (s':=?_) ?_ ?_|refine QC (b:=?_) ?_ ?_);rotate_left 1;focus ((with_reducible refine QW ?_);simp only [Zg,seval,if_true,if_false,reduceCtorEq,Nat.reduceEqDiff,i1];with_reducible rfl)))
   refine roundK.out (t,s) hgr ?_
   (repeat' (first|with_reducible refine Qn|((with_reducible refine Qr ?_ ?_);focus (first|with_reducible rfl|(simp only [Zz,Nat.reduceBEq];done)|rfl))|((with_reducible refine Qj (o':=?_) ?_ ?_ ?_);rotate_left 1;focus rfl)|((with_reducible refine Qw ?_ ?_);(focus (first|with_reducible rfl|(simp only [Zv];done)));focus (first|exact id|exact (fun h => nomatch h)|exact (fun _ => rfl)))))
   all_goals first|exact ⟨rfl,rfl⟩|exact ⟨rfl,rfl,id⟩|exact ⟨rfl,rfl,rfl,rfl⟩
 rintro z rfl
 repeat' (first|with_reducible (first|refine Q1 ?_|refine Q2 ?_|refine Q3 ?_|refine Q4 ?_|refine Q5 ?_|refine Q6 ?_|refine Q7 ?_|refine Q8 ?_|refine Q9 ?_|refine Qa ?_|refine Qb ?_|refine Qc ?_|refine Qd ?_|refine Qe ?_|refine Qf ?_)|((with_reducible refine Qo ?_ ?_);focus rfl)|((with_reducible first|refine QT 7 (l:=?_) ?_ ?_|refine QF 7 (l:=?_) ?_ ?_);rotate_left 1;focus (simp only [Zu,Nat.reduceSub,Nat.reduceBEq];with_reducible rfl))|((with_reducible first|refine QS (cfg_ok 29) Tab.none (s':=?_) ?_ ?_|refine QC (b:=?_) ?_ ?_);rotate_left 1;focus ((with_reducible refine QW ?_);simp only [Zg,seval,if_true,if_false,reduceCtorEq,Nat.reduceEqDiff];with_reducible rfl)))
 (refine EndsP.mk (by simp) (rs:=?_) (ks:=?_) (xs':=?_) hres hrts ?_ ?_ ?_ ?_ ?_;rotate_left 3;(focus (simp only [Ze,Zg,seval,if_true,if_false,reduceCtorEq,Nat.reduceEqDiff];with_reducible rfl));(focus simp);(focus simp);(focus (simp only [look,Nat.reduceEqDiff,Nat.reduceBEq,if_true,if_false];rfl));focus (first|exact ⟨rfl,rfl⟩|exact ⟨rfl,rfl,rfl⟩|skip))
noncomputable def TDi {code:List Int} (hc:Bytes code) (hl:code.length ≤ 1000000000):Tab Try.prog :=
 (Tab.none.pin 45 (nxtE code) (nxt_below hc hl)).pin 8 (drwE code (drw1 (drawG code))) (p_tree9 hc hl).ok
end Go.Proofs.Ytgngidchldajhaa
namespace Go.Proofs.Ytgngidchldajhaa
open Go.RowKit
def bpOf (u v:List Int):List Int × Int:=if ckOf [u,v] = 0 then (canon (graftL (canon u) 0 v),0) else ([],ckOf [u,v])
end Go.Proofs.Ytgngidchldajhaa
namespace Go.Proofs.Ytgngidchldajhaa
open Go.RowKit
def totF (L:List (List Int × Int)):Nat→Int
 | 0 => 0
 | i + 1 => totF L i + (L.getD i ([],0)).2
set_option maxRecDepth 100000
end Go.Proofs.Ytgngidchldajhaa

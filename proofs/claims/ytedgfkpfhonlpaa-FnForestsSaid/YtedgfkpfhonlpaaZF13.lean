/- Lemmas (13). -/
import Derived.Test.YtedgfkpfhonlpaaZF7
import Derived.Test.YtedgfkpfhonlpaaZF10
import Derived.Test.YtedgfkpfhonlpaaZF11
import Derived.Test.YtedgfkpfhonlpaaZF12
set_option linter.unusedSimpArgs false
set_option linter.unusedVariables false
namespace Go.Proofs.Ytedgfkpfhonlpaa
open Go.RowKit
def drawForAnyF (code:List Int) (s:Nat × Int) (m:Int):List (List Int) × (Nat × Int) :=
 let f:=drawForF code s m
 let c:=nxtF code f.2 24
 if c.1 = 0 then
  let t:=drawF code c.2 4
  (f.1 ++ [t.1],t.2)
 else if c.1 = 1 then
  let t:=drawAnyF code c.2 3
  (f.1 ++ [t.1],t.2)
 else if c.1 = 2 then ([0,1,1] :: f.1,c.2)
 else (f.1,c.2)
structure FAOk (n:Nat) (f:List (List Int)):Prop where
 sum:sumLen f ≤ n
 len:f.length ≤ n
theorem drawForF_ok {code:List Int} (hc:Bytes code) {s:Nat × Int} {m:Int} (hs:s.1 ≤ code.length):FOk m.toNat (drawForF code s m).1∧(drawForF code s m).2.1 ≤ code.length:=by
 have hb:=nxtF_bd hc s (m + 1)
 have ha:=nxtF_at (n:=m + 1) hs
 obtain ⟨h1,h2⟩:=dforF_ok hc (nxtF code s (m + 1)).1.toNat (nxtF code s (m + 1)).1.toNat 0 (s:=(nxtF code s (m + 1)).2) (out:=[]) ⟨by simp,by simp,by simp [sumLen]⟩ ha
 unfold drawForF
 simp only
 obtain ⟨Z,hZ⟩:∃ Z,Z = dforF code (nxtF code s (m + 1)).1.toNat (nxtF code s (m + 1)).1.toNat (nxtF code s (m + 1)).2 []:=⟨_,rfl⟩
 rw [← hZ] at h1 h2 ⊢
 refine ⟨⟨fun t ht => h1.lev t (sortC_mem.1 ht),fun t ht => h1.can t (sortC_mem.1 ht),?_⟩,h2⟩
 have:=sumLen_perm (show (sortC cmpT Z.1).Perm Z.1 from sortC_perm _)
 have hsu:=h1.sum
 show sumLen (sortC cmpT Z.1) ≤ _
 omega
theorem drawForAnyF_ok {code:List Int} (hc:Bytes code) {s:Nat × Int} {m:Int} (hs:s.1 ≤ code.length):FAOk (m.toNat + 13) (drawForAnyF code s m).1∧(drawForAnyF code s m).2.1 ≤ code.length:=by
 obtain ⟨h1,h2⟩:=drawForF_ok hc (m:=m) hs
 unfold drawForAnyF
 obtain ⟨f,hf⟩:∃ f,f = drawForF code s m:=⟨_,rfl⟩
 rw [← hf] at h1 h2 ⊢
 simp only
 have hl:=len_sumD h1.lev
 have hsu:=h1.sum
 have h3:=nxtF_at (n:=24) h2
 split
 ·obtain ⟨g1,g2⟩:=drawF_ok hc (m:=4) h3
  have:=g1.len
  refine ⟨⟨?_,by simp;omega⟩,g2⟩
  rw [sumLen_append]
  have e:sumLen [(drawF code (nxtF code f.2 24).2 4).1] = (drawF code (nxtF code f.2 24).2 4).1.length:=by simp [sumLen]
  have h4:(4:Int).toNat = 4:=rfl
  omega
 ·split
  ·obtain ⟨g1,g2⟩:=drawAnyF_ok hc (m:=3) h3
   have:=g1.len
   refine ⟨⟨?_,by simp;omega⟩,g2⟩
   rw [sumLen_append]
   have e:sumLen [(drawAnyF code (nxtF code f.2 24).2 3).1] = (drawAnyF code (nxtF code f.2 24).2 3).1.length:=by simp [sumLen]
   have h4:(3:Int).toNat = 3:=rfl
   omega
  ·split
   ·refine ⟨⟨?_,by simp;omega⟩,h3⟩
    have e:sumLen ([0,1,1] :: f.1) = 3 + sumLen f.1:=by simp [sumLen]
    show sumLen ([0,1,1] :: f.1) ≤ _
    omega
   ·exact ⟨⟨show sumLen f.1 ≤ _ by omega,show f.1.length ≤ _ by omega⟩,h3⟩
def drawForAnyG (code:List Int) (s:Nat × Int) (m:Int):List Res × (Nat × Int):=([.own 1 ((drawForAnyF code s m).1.map eL) false],(drawForAnyF code s m).2)
theorem AEp.forget {P:Program} {f:FuncId} {ptr:Bool} {k k':Nat} {xs xs0 ys:List (List D)} {post:List (List D)} (h:AEp P f ptr k xs post (fun r x => r = [.own k' ys true]∧x = xs0)):AEp P f ptr k xs post (fun r x => r = [.own k' ys false]∧x = xs0):=by
 refine ⟨h.call,fun A w us og cap ds a1 a2 a3 a4 a5 a6 => (h.fn A w us og cap ds a1 a2 a3 a4 a5 a6).mono ?_⟩
 rintro e w' ⟨v,rs,x',ds',us',G,X,rfl,⟨rfl,rfl⟩,hb,rfl,hG1,hG2,hrel,hlen,hrow,hrd⟩
 obtain ⟨v1,us1,G1,G2,Y1,Y2,rfl,e1,e2,ho,⟨og',cap',F,dd,rfl,hrow',hk',e3,e4,hel⟩,hend⟩:=hrel
 have hend:us1 = []∧G2 = []∧Y2 = []:=hend
 obtain ⟨rfl,rfl,rfl⟩:=hend
 have hel:ownR k' w' dd ys F:=hel
 rw [List.append_nil] at e1 e2
 have e3:G1 = og'.toList ++ F:=e3
 subst e3;subst e4;subst e1;subst e2
 refine ⟨_,_,_,ds',[_],og'.toList,og'.toList,rfl,⟨rfl,rfl⟩,hb,rfl,(List.nodup_append.1 hG1).1,fun b hb' => hG2 b (List.mem_append_left _ hb'),?_,hlen,hrow,hrd⟩
 refine ⟨_,[],og'.toList,[],og'.toList,[],rfl,by simp,by simp,ho,⟨og',cap',[],dd,rfl,hrow',hk',by simp,rfl,?_⟩,rfl,rfl,rfl⟩
 show rdR k' (fun b => (A b ∨ w.heap.size ≤ b)∧b ∉ og'.toList) w' dd ys
 exact hel.rd.mono (fun b hb' _ => ⟨.inr (hG2 b (List.mem_append_right _ hb')),fun h2 => (List.nodup_append.1 hG1).2.2 b h2 b hb' rfl⟩)
set_option maxRecDepth 20000 in
set_option maxHeartbeats 16000000 in
theorem p_l03DrawForestAny {code:List Int} (hc:Bytes code) (hl:code.length ≤ 1000000000):DrawsE Try.prog 61 code (drw1 (drawForAnyG code)):=by
 refine drw1_of fun s m hs hm1 hm2 => ?_
 have hpin:=nxt_l01Next hc hl
 have hdw:=(p_l03Draw hc hl).ok
 have hda:=(p_l03DrawAny hc hl).ok
 have hdf:=(p_l03DrawForest hc hl).ok
 have hdt:drwG code (drw1 (drawForG code)) 3 [srcD code s] [[.int m]] = some ([.own 1 ((drawForF code s m).1.map eL) true],[srcD code (drawForF code s m).2]):=drw1_eq hs ⟨hm1,hm2⟩
 obtain ⟨h1,h2⟩:=drawForF_ok hc (m:=m) hs
 have hdr:=nxtE_eq code (drawForF code s m).2 24 h2
 have hat:=nxtF_at (n:=24) h2
 unfold drawForAnyG drawForAnyF
 obtain ⟨⟨f,s1⟩,hp⟩:∃ p,p = drawForF code s m:=⟨_,rfl⟩
 rw [← hp] at h1 h2 hdr hat hdt ⊢
 simp only at h1 h2 hdr hat hdt ⊢
 obtain ⟨⟨c,s2⟩,hq⟩:∃ p,p = nxtF code s1 24:=⟨_,rfl⟩
 rw [← hq] at hdr hat ⊢
 simp only [eI] at hdr hat ⊢
 have hfl:=len_sumD h1.lev
 have hfs:=h1.sum
 have hfm:(f.map eL).length = f.length:=List.length_map _
 have q1:=big_le (n:=f.length + 1) (by omega)
 have q2:=big_mul (n:=f.length + 1) (c:=24) (by omega) (by omega)
 by_cases c0:c = 0
 ·refine AEp.forget ?_
  subst c0
  have hd0:drwG code (drw1 (drawG code)) 3 [srcD code s2] [[.int (4:Int)]] = some ([.own 1 ((drawF code s2 4).1.map eI) true],[srcD code (drawF code s2 4).2]):=drw1_eq hat (by omega)
  obtain ⟨⟨t,s3⟩,ht⟩:∃ p,p = drawF code s2 4:=⟨_,rfl⟩
  rw [← ht] at hd0 ⊢
  simp only [if_true] at hd0 ⊢
  rw [show (f ++ [t]).map eL = f.map eL ++ [[D.sl 1 (t.map eI)]] by rw [List.map_append];rfl]
  refine AEp.of_runs (cfg_ok 32) Try.func61 rfl rfl rfl (fun _ => rfl) (by simp only [List.length_cons,List.length_nil];decide) ?_
  have hres:Try.f61.results.toList = [.tmp 4]:=rfl
  have hrts:Try.f61.resultTypes.toList = [33]:=rfl
  simp only [List.length_cons,List.length_nil,ownArg,if_true,argRegs,argAV1,eL,eI,eLL,eB,Nat.zero_add,Nat.reduceAdd]
  intro M og cap
  refine RunK.of ?_
  repeat' (first|with_reducible (first|refine Q1 ?_|refine Q2 ?_|refine Q3 ?_|refine Q4 ?_|refine Q5 ?_|refine Q6 ?_|refine Q7 ?_|refine Q8 ?_|refine Q9 ?_|refine Qa ?_|refine Qb ?_|refine Qc ?_|refine Qd ?_|refine Qe ?_|refine Qf ?_)|((with_reducible refine Qo ?_ ?_);focus rfl)|((with_reducible first|refine QT 11 (l:=?_) ?_ ?_|refine QF 11 (l:=?_) ?_ ?_);rotate_left 1;focus (simp only [Zu,Nat.reduceSub,Nat.reduceBEq];with_reducible rfl))|((with_reducible first|refine QS (cfg_ok 32) (((Tab.none.pin 39 (nxtE code) hpin).pin 71 (drwE code (drw1 (drawG code))) hdw).pin 68 (drwE code (drw1 (drawForG code))) hdf) (s':=?_) ?_ ?_|refine QC (b:=?_) ?_ ?_);rotate_left 1;focus ((with_reducible refine QW ?_);simp only [Zg,seval,if_true,if_false,reduceCtorEq,Nat.reduceEqDiff,hdr,hdt,hd0,nxtE,drwE,hfm,q1,q2];with_reducible rfl)))
  (refine EndsP.mk (by simp) (rs:=?_) (ks:=?_) (xs':=?_) hres hrts ?_ ?_ ?_ ?_ ?_;rotate_left 3;(focus (simp only [Ze,Zg,seval,if_true,if_false,reduceCtorEq,Nat.reduceEqDiff];with_reducible rfl));(focus simp);(focus simp);(focus (simp only [look,Nat.reduceEqDiff,Nat.reduceBEq,if_true,if_false];rfl));focus (first|exact ⟨rfl,rfl⟩|exact ⟨rfl,rfl,rfl⟩|skip))
 ·have e0:(c == 0) = false:=by simp [c0]
  by_cases c1:c = 1
  ·refine AEp.forget ?_
   subst c1
   have hd0:drwG code (drw1 (drawAnyG code)) 3 [srcD code s2] [[.int (3:Int)]] = some ([.own 1 ((drawAnyF code s2 3).1.map eI) true],[srcD code (drawAnyF code s2 3).2]):=drw1_eq hat (by omega)
   obtain ⟨⟨t,s3⟩,ht⟩:∃ p,p = drawAnyF code s2 3:=⟨_,rfl⟩
   rw [← ht] at hd0 ⊢
   rw [if_neg c0,if_pos rfl]
   simp only at hd0 ⊢
   rw [show (f ++ [t]).map eL = f.map eL ++ [[D.sl 1 (t.map eI)]] by rw [List.map_append];rfl]
   refine AEp.of_runs (cfg_ok 32) Try.func61 rfl rfl rfl (fun _ => rfl) (by simp only [List.length_cons,List.length_nil];decide) ?_
   have hres:Try.f61.results.toList = [.tmp 4]:=rfl
   have hrts:Try.f61.resultTypes.toList = [33]:=rfl
   simp only [List.length_cons,List.length_nil,ownArg,if_true,argRegs,argAV1,eL,eI,eLL,eB,Nat.zero_add,Nat.reduceAdd]
   intro M og cap
   refine RunK.of ?_
   repeat' (first|with_reducible (first|refine Q1 ?_|refine Q2 ?_|refine Q3 ?_|refine Q4 ?_|refine Q5 ?_|refine Q6 ?_|refine Q7 ?_|refine Q8 ?_|refine Q9 ?_|refine Qa ?_|refine Qb ?_|refine Qc ?_|refine Qd ?_|refine Qe ?_|refine Qf ?_)|((with_reducible refine Qo ?_ ?_);focus rfl)|((with_reducible first|refine QT 11 (l:=?_) ?_ ?_|refine QF 11 (l:=?_) ?_ ?_);rotate_left 1;focus (simp only [Zu,Nat.reduceSub,Nat.reduceBEq];with_reducible rfl))|((with_reducible first|refine QS (cfg_ok 32) (((Tab.none.pin 39 (nxtE code) hpin).pin 37 (drwE code (drw1 (drawAnyG code))) hda).pin 68 (drwE code (drw1 (drawForG code))) hdf) (s':=?_) ?_ ?_|refine QC (b:=?_) ?_ ?_);rotate_left 1;focus ((with_reducible refine QW ?_);simp only [Zg,seval,if_true,if_false,reduceCtorEq,Nat.reduceEqDiff,hdr,hdt,hd0,nxtE,drwE,e0,hfm,q1,q2];with_reducible rfl)))
   (refine EndsP.mk (by simp) (rs:=?_) (ks:=?_) (xs':=?_) hres hrts ?_ ?_ ?_ ?_ ?_;rotate_left 3;(focus (simp only [Ze,Zg,seval,if_true,if_false,reduceCtorEq,Nat.reduceEqDiff];with_reducible rfl));(focus simp);(focus simp);(focus (simp only [look,Nat.reduceEqDiff,Nat.reduceBEq,if_true,if_false];rfl));focus (first|exact ⟨rfl,rfl⟩|exact ⟨rfl,rfl,rfl⟩|skip))
  ·have e1:(c == 1) = false:=by simp [c1]
   by_cases c2:c = 2
   ·subst c2
    rw [if_neg c0,if_neg c1,if_pos rfl]
    rw [show ([0,1,1] :: f).map eL = [D.sl 1 [[D.int 0],[D.int 1],[D.int 1]]] :: f.map eL from rfl]
    have q3:=big_le (n:=1 + f.length) (by omega)
    have q4:=big_mul (n:=1 + f.length) (c:=24) (by omega) (by omega)
    refine AEp.of_runs (cfg_ok 32) Try.func61 rfl rfl rfl (fun _ => rfl) (by simp only [List.length_cons,List.length_nil];decide) ?_
    have hres:Try.f61.results.toList = [.tmp 4]:=rfl
    have hrts:Try.f61.resultTypes.toList = [33]:=rfl
    simp only [List.length_cons,List.length_nil,ownArg,if_true,argRegs,argAV1,eL,eI,eLL,eB,Nat.zero_add,Nat.reduceAdd]
    intro M og cap
    refine RunK.of ?_
    repeat' (first|with_reducible (first|refine Q1 ?_|refine Q2 ?_|refine Q3 ?_|refine Q4 ?_|refine Q5 ?_|refine Q6 ?_|refine Q7 ?_|refine Q8 ?_|refine Q9 ?_|refine Qa ?_|refine Qb ?_|refine Qc ?_|refine Qd ?_|refine Qe ?_|refine Qf ?_)|((with_reducible refine Qo ?_ ?_);focus rfl)|((with_reducible first|refine QT 11 (l:=?_) ?_ ?_|refine QF 11 (l:=?_) ?_ ?_);rotate_left 1;focus (simp only [Zu,Nat.reduceSub,Nat.reduceBEq];with_reducible rfl))|((with_reducible first|refine QS (cfg_ok 32) ((Tab.none.pin 39 (nxtE code) hpin).pin 68 (drwE code (drw1 (drawForG code))) hdf) (s':=?_) ?_ ?_|refine QC (b:=?_) ?_ ?_);rotate_left 1;focus ((with_reducible refine QW ?_);simp only [Zg,seval,if_true,if_false,reduceCtorEq,Nat.reduceEqDiff,hdr,hdt,nxtE,drwE,e0,e1,hfm];with_reducible rfl)))
    refine RunK.frz 5 ?_
    ((repeat' (first|with_reducible (first|refine Q1 ?_|refine Q2 ?_|refine Q3 ?_|refine Q4 ?_|refine Q5 ?_|refine Q6 ?_|refine Q7 ?_|refine Q8 ?_|refine Q9 ?_|refine Qa ?_|refine Qb ?_|refine Qc ?_|refine Qd ?_|refine Qe ?_|refine Qf ?_)|((with_reducible refine Qo ?_ ?_);focus rfl)|((with_reducible first|refine QT 11 (l:=?_) ?_ ?_|refine QF 11 (l:=?_) ?_ ?_);rotate_left 1;focus (simp only [Zu,Nat.reduceSub,Nat.reduceBEq];with_reducible rfl))|((with_reducible refine QC (b:=?_) ?_ ?_);rotate_left 1;focus ((with_reducible refine QW ?_);simp only [Zg,seval,if_true,if_false,reduceCtorEq,Nat.reduceEqDiff];with_reducible rfl))));(with_reducible refine RunK.regCut (cfg_ok 32) Tab.none 1 (s1:=?_) ?_ ?_);rotate_left 1;(focus ((with_reducible refine QW ?_);simp only [Zg,seval,if_true,if_false,reduceCtorEq,Nat.reduceEqDiff];with_reducible rfl));simp only [List.toList_toArray,List.drop_succ_cons,List.drop_zero])
    refine ROps.frzs [27] ?_
    (refine ROps.opsT (cfg_ok 32) (T:=Tab.none) (s':=?_) ?_ ?_;rotate_left 1;focus (simp only [Zg,seval,if_true,if_false,reduceCtorEq,Nat.reduceEqDiff,hfm,q3,q4];with_reducible rfl))
    repeat' (first|with_reducible (first|refine Q1 ?_|refine Q2 ?_|refine Q3 ?_|refine Q4 ?_|refine Q5 ?_|refine Q6 ?_|refine Q7 ?_|refine Q8 ?_|refine Q9 ?_|refine Qa ?_|refine Qb ?_|refine Qc ?_|refine Qd ?_|refine Qe ?_|refine Qf ?_)|((with_reducible refine Qo ?_ ?_);focus rfl)|((with_reducible first|refine QT 11 (l:=?_) ?_ ?_|refine QF 11 (l:=?_) ?_ ?_);rotate_left 1;focus (simp only [Zu,Nat.reduceSub,Nat.reduceBEq];with_reducible rfl))|((with_reducible first|refine QS (cfg_ok 32) Tab.none (s':=?_) ?_ ?_|refine QC (b:=?_) ?_ ?_);rotate_left 1;focus ((with_reducible refine QW ?_);simp only [Zg,seval,if_true,if_false,reduceCtorEq,Nat.reduceEqDiff];with_reducible rfl)))
    (refine EndsP.mk (by simp) (rs:=?_) (ks:=?_) (xs':=?_) hres hrts ?_ ?_ ?_ ?_ ?_;rotate_left 3;(focus (simp only [Ze,Zg,seval,if_true,if_false,reduceCtorEq,Nat.reduceEqDiff];with_reducible rfl));(focus simp);(focus simp);(focus (simp only [look,Nat.reduceEqDiff,Nat.reduceBEq,if_true,if_false];rfl));focus (first|exact ⟨rfl,rfl⟩|exact ⟨rfl,rfl,rfl⟩|skip))
   ·have e2:(c == 2) = false:=by simp [c2]
    rw [if_neg c0,if_neg c1,if_neg c2]
    refine AEp.forget ?_
    refine AEp.of_runs (cfg_ok 32) Try.func61 rfl rfl rfl (fun _ => rfl) (by simp only [List.length_cons,List.length_nil];decide) ?_
    have hres:Try.f61.results.toList = [.tmp 4]:=rfl
    have hrts:Try.f61.resultTypes.toList = [33]:=rfl
    simp only [List.length_cons,List.length_nil,ownArg,if_true,argRegs,argAV1,eL,eI,eLL,eB,Nat.zero_add,Nat.reduceAdd]
    intro M og cap
    refine RunK.of ?_
    repeat' (first|with_reducible (first|refine Q1 ?_|refine Q2 ?_|refine Q3 ?_|refine Q4 ?_|refine Q5 ?_|refine Q6 ?_|refine Q7 ?_|refine Q8 ?_|refine Q9 ?_|refine Qa ?_|refine Qb ?_|refine Qc ?_|refine Qd ?_|refine Qe ?_|refine Qf ?_)|((with_reducible refine Qo ?_ ?_);focus rfl)|((with_reducible first|refine QT 11 (l:=?_) ?_ ?_|refine QF 11 (l:=?_) ?_ ?_);rotate_left 1;focus (simp only [Zu,Nat.reduceSub,Nat.reduceBEq];with_reducible rfl))|((with_reducible first|refine QS (cfg_ok 32) ((Tab.none.pin 39 (nxtE code) hpin).pin 68 (drwE code (drw1 (drawForG code))) hdf) (s':=?_) ?_ ?_|refine QC (b:=?_) ?_ ?_);rotate_left 1;focus ((with_reducible refine QW ?_);simp only [Zg,seval,if_true,if_false,reduceCtorEq,Nat.reduceEqDiff,hdr,hdt,nxtE,drwE,e0,e1,e2,hfm];with_reducible rfl)))
    (refine EndsP.mk (by simp) (rs:=?_) (ks:=?_) (xs':=?_) hres hrts ?_ ?_ ?_ ?_ ?_;rotate_left 3;(focus (simp only [Ze,Zg,seval,if_true,if_false,reduceCtorEq,Nat.reduceEqDiff];with_reducible rfl));(focus simp);(focus simp);(focus (simp only [look,Nat.reduceEqDiff,Nat.reduceBEq,if_true,if_false];rfl));focus (first|exact ⟨rfl,rfl⟩|exact ⟨rfl,rfl,rfl⟩|skip))
end Go.Proofs.Ytedgfkpfhonlpaa

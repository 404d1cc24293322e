/- Lemmas (23). -/
import Derived.Test.YtgngidchldajhaaGreatZA0
import Derived.Test.YtgngidchldajhaaGreatZA1
import Derived.Test.YtgngidchldajhaaGreatZA5
import Derived.Test.YtgngidchldajhaaGreatZA6
import Derived.Test.YtgngidchldajhaaGreatZA7
import Derived.Test.YtgngidchldajhaaGreatZA8
import Derived.Test.YtgngidchldajhaaGreatZA11
import Derived.Test.YtgngidchldajhaaGreatZA12
import Derived.Test.YtgngidchldajhaaGreatZA13
import Derived.Test.YtgngidchldajhaaGreatZA14
import Derived.Test.YtgngidchldajhaaGreatZA22
set_option linter.unusedSimpArgs false
set_option linter.unusedVariables false
namespace Go.Proofs.YtgngidchldajhaaGreat
open Go.RowKit
theorem EndsP.mk {P:Program} {cfg:Cfg} {M:Nat→Prop} {fn:Func} {Q0:List Res→List (List D)→Prop} {og:Option Nat} {cap k n:Nat} {e:Exit} {s:St} {rs:List Res} {ks:List Nat} {xs':List (List D)} (he:e = .normal ∨ e = .ret) {rvs:List ResultVar} {ts:List TypeId} (h1:fn.results.toList = rvs) (h2:fn.resultTypes.toList = ts)
  (h:aresults cfg s rvs ts = some (rs,ks)) (hk:ks.Nodup) (hz:0 ∉ ks) (hl:look 0 s.heap = some (.pin og cap k xs')) (hq:xs'.length = n∧Q0 rs xs'):outK P cfg M [] (EndsP cfg fn Q0 og cap k n) e s:=⟨he,rs,ks,xs',by rw [h1,h2];exact h,hk,hz,hl,hq.1,hq.2⟩
theorem srcD_len (code:List Int) (s:Nat × Int):(srcD code s).length = 3:=rfl
noncomputable def drwG (code:List Int) (F:(Nat × Int)→List (List D)→Option (List Res × (Nat × Int))) (k:Nat) (xs:List (List D)) (post:List (List D)):Option (List Res × List (List D)):=by
 classical
 exact if h:∃ s:Nat × Int,s.1 ≤ code.length∧k = 3∧xs = [srcD code s] then (F h.choose post).map (fun p => (p.1,[srcD code p.2])) else none
noncomputable def drwE (code:List Int) (F:(Nat × Int)→List (List D)→Option (List Res × (Nat × Int))):PinE:=⟨true,drwG code F⟩
theorem drwG_eq {code:List Int} {F:(Nat × Int)→List (List D)→Option (List Res × (Nat × Int))} {s:Nat × Int} (h:s.1 ≤ code.length) {post:List (List D)}:drwG code F 3 [srcD code s] post = (F s post).map (fun p => (p.1,[srcD code p.2])):=by
 unfold drwG
 have hx:∃ s':Nat × Int,s'.1 ≤ code.length∧3 = 3∧[srcD code s] = [srcD code s']:=⟨s,h,rfl,rfl⟩
 rw [dif_pos hx]
 obtain ⟨_,_,h2⟩:=hx.choose_spec
 rw [← srcD_inj (List.cons.inj h2).1]
def DrawsE (P:Program) (f:FuncId) (code:List Int) (F:(Nat × Int)→List (List D)→Option (List Res × (Nat × Int))):Prop :=
 ∀ s post rs s',s.1 ≤ code.length→F s post = some (rs,s')→AEp P f true 3 [srcD code s] post (fun r x => r = rs∧x = [srcD code s'])
theorem DrawsE.ok {P:Program} {f:FuncId} {code:List Int} {F:(Nat × Int)→List (List D)→Option (List Res × (Nat × Int))} (H:DrawsE P f code F) (k:Nat) (xs:List (List D)) (post:List (List D)) (x:List Res × List (List D)) (hx:(drwE code F).fn k xs post = some x):AEp P f (drwE code F).ptr k xs post (fun rs xs' => rs = x.1∧xs' = x.2):=by
 have hx:drwG code F k xs post = some x:=hx
 unfold drwG at hx
 split at hx
 ·rename_i h
  obtain ⟨h1,h2,h3⟩:=h.choose_spec
  obtain ⟨p,hp,e⟩:=Option.map_eq_some_iff.1 hx
  subst h2
  rw [h3,← e]
  exact H _ _ _ _ h1 hp
 ·cases hx
def drw1 (G:(Nat × Int)→Int→List Res × (Nat × Int)) (s:Nat × Int):List (List D)→Option (List Res × (Nat × Int))
 | [[.int m]] => if -1000 ≤ m∧m ≤ 1000 then some (G s m) else none
 | _ => none
theorem drw1_eq {code:List Int} {G:(Nat × Int)→Int→List Res × (Nat × Int)} {s:Nat × Int} (h:s.1 ≤ code.length) {m:Int} (hm:-1000 ≤ m∧m ≤ 1000):drwG code (drw1 G) 3 [srcD code s] [[.int m]] = some ((G s m).1,[srcD code (G s m).2]):=by
 rw [drwG_eq h]
 show Option.map _ (if -1000 ≤ m∧m ≤ 1000 then some (G s m) else none) = _
 rw [if_pos hm];rfl
theorem drw1_of {P:Program} {f:FuncId} {code:List Int} {G:(Nat × Int)→Int→List Res × (Nat × Int)} (h:∀ s m,s.1 ≤ code.length→-1000 ≤ m→m ≤ 1000→AEp P f true 3 [srcD code s] [[.int m]] (fun r x => r = (G s m).1∧x = [srcD code (G s m).2])):DrawsE P f code (drw1 G):=by
 intro s post rs s' hs hp
 unfold drw1 at hp
 split at hp
 ·rename_i m
  split at hp
  ·rename_i hm
   have e:=Option.some.inj hp
   have e1:rs = (G s m).1:=by rw [e]
   have e2:s' = (G s m).2:=by rw [e]
   subst e1;subst e2
   exact h s m hs hm.1 hm.2
  ·cases hp
 ·cases hp
noncomputable def drwL (G:(Nat × Int)→List Int→List Res × (Nat × Int)) (s:Nat × Int) (post:List (List D)):Option (List Res × (Nat × Int)):=by
 classical
 exact if h:∃ l:List Int,l ≠ []∧l.length ≤ 1000∧post = [[.sl 1 (l.map eI)]] then some (G s h.choose) else none
theorem drwL_of {P:Program} {f:FuncId} {code:List Int} {G:(Nat × Int)→List Int→List Res × (Nat × Int)} (h:∀ s l,s.1 ≤ code.length→l ≠ []→l.length ≤ 1000→AEp P f true 3 [srcD code s] [[.sl 1 (l.map eI)]] (fun r x => r = (G s l).1∧x = [srcD code (G s l).2])):DrawsE P f code (drwL G):=by
 intro s post rs s' hs hp
 unfold drwL at hp
 split at hp
 ·rename_i hx
  obtain ⟨h0,h1,h2⟩:=hx.choose_spec
  have e:=Option.some.inj hp
  have e1:rs = (G s hx.choose).1:=by rw [e]
  have e2:s' = (G s hx.choose).2:=by rw [e]
  rw [h2,e1,e2]
  exact h s _ hs h0 h1
 ·cases hp
def pickF (code:List Int) (s:Nat × Int) (l:List Int):Int × (Nat × Int):=(l.getD (nxtF code s l.length).1.toNat 0,(nxtF code s l.length).2)
def pickG (code:List Int) (s:Nat × Int) (l:List Int):List Res × (Nat × Int):=([.val (.int (pickF code s l).1)],(pickF code s l).2)
set_option maxRecDepth 20000 in
set_option maxHeartbeats 16000000 in
theorem p_l01Pick {code:List Int} (hc:Bytes code) (hl:code.length ≤ 1000000000):DrawsE Tryz.prog 185 code (drwL (pickG code)):=by
 refine drwL_of fun s l hs h0 h1 => ?_
 have hpin:=nxt_l01Next hc hl
 have hlp:0 < l.length:=List.length_pos_iff.2 h0
 have hdr:=nxtE_eq code s l.length hs
 have hbd:=nxtF_bd hc s l.length
 unfold pickG pickF
 obtain ⟨⟨i,s1⟩,hp⟩:∃ p,p = nxtF code s l.length:=⟨_,rfl⟩
 rw [← hp] at hdr hbd ⊢
 simp only [eI] at hdr hbd ⊢
 have hlm:(l.map eI).length = l.length:=List.length_map _
 have i1:((0:Int) ≤ i) = True:=eq_true (by omega)
 have i2:(i < (l.length:Int)) = True:=eq_true (by omega)
 have hil:i.toNat < l.length:=by omega
 have hg:(l.map eI)[i.toNat]? = some [.int (l.getD i.toNat 0)]:=by rw [List.getElem?_map,List.getElem?_eq_getElem hil,List.getD_eq_getElem?_getD,List.getElem?_eq_getElem hil];rfl
 refine AEp.of_runs (cfg_ok 12) Tryz.func185 rfl rfl rfl (fun _ => rfl) (by simp only [List.length_cons,List.length_nil];decide) ?_
 have hres:Tryz.f185.results.toList = [.tmp 4]:=rfl
 have hrts:Tryz.f185.resultTypes.toList = [2]:=rfl
 simp only [List.length_cons,List.length_nil,ownArg,if_true,argRegs,argAV1,eL,eI,eLL,eB,Nat.zero_add,Nat.reduceAdd]
 intro M og cap
 refine RunK.of ?_
 repeat' (first|with_reducible (first|refine Q1 ?_|refine Q2 ?_|refine Q3 ?_|refine Q4 ?_|refine Q5 ?_|refine Q6 ?_|refine Q7 ?_|refine Q8 ?_|refine Q9 ?_|refine Qa ?_|refine Qb ?_|refine Qc ?_|refine Qd ?_|refine Qe ?_|refine Qf ?_)|((with_reducible refine Qo ?_ ?_);focus rfl)|((with_reducible first|refine QT 5 (l:=?_) ?_ ?_|refine QF 5 (l:=?_) ?_ ?_);rotate_left 1;focus (simp only [Zu,Nat.reduceSub,Nat.reduceBEq];with_reducible rfl))|((with_reducible first|refine QS (cfg_ok 12) (Tab.none.pin 119 (nxtE code) hpin) (s':=?_) ?_ ?_|refine QC (b:=?_) ?_ ?_);rotate_left 1;focus ((with_reducible refine QW ?_);simp only [Zg,seval,if_true,if_false,reduceCtorEq,Nat.reduceEqDiff,hdr,nxtE,i1,i2,hlm,hg];with_reducible rfl)))
 (refine EndsP.mk (by simp) (rs:=?_) (ks:=?_) (xs':=?_) hres hrts ?_ ?_ ?_ ?_ ?_;rotate_left 3;(focus (simp only [Ze,Zg,seval,if_true,if_false,reduceCtorEq,Nat.reduceEqDiff];with_reducible rfl));(focus simp);(focus simp);(focus (simp only [look,Nat.reduceEqDiff,Nat.reduceBEq,if_true,if_false];rfl));focus (first|exact ⟨rfl,rfl⟩|exact ⟨rfl,rfl,rfl⟩|skip))
def growD (code:List Int):Nat→(Nat × Int)→List Int→List Int × (Nat × Int)
 | 0,s,t => (t,s)
 | k + 1,s,t => growD code k (nxtF code s (t.getLastD 0 + 1)).2 (t ++ [1 + (nxtF code s (t.getLastD 0 + 1)).1])
def drawF (code:List Int) (s:Nat × Int) (m:Int):List Int × (Nat × Int):=growD code (nxtF code s m).1.toNat (nxtF code s m).2 [0]
structure TOk (n:Nat) (t:List Int):Prop where
 pos:t ≠ []
 lev:LevP t
 len:t.length ≤ n
 bd:∀ x ∈ t,0 ≤ x∧x < t.length
theorem getLastD_mem {t:List Int} (h:t ≠ []):t.getLastD 0 ∈ t:=by
 cases t with
 | nil => exact absurd rfl h
 | cons a t => rw [List.getLastD_cons];exact (by cases t <;> simp [List.getLastD])
theorem getLastD_getD {t:List Int} (h:t ≠ []):t.getLastD 0 = t.getD (t.length - 1) 0:=by
 rw [List.getD_eq_getElem?_getD,← List.getLast?_eq_getElem?]
 cases t with
 | nil => exact absurd rfl h
 | cons a t => rw [List.getLast?_cons,List.getLastD_cons,← List.getLastD_eq_getLast?];rfl
theorem growD_ok {code:List Int} (hc:Bytes code):∀ (k:Nat) {s:Nat × Int} {t:List Int} {n:Nat},TOk n t→s.1 ≤ code.length→TOk (n + k) (growD code k s t).1∧(growD code k s t).2.1 ≤ code.length
 | 0,_,_,_,h,hs => ⟨h,hs⟩
 | k + 1,s,t,n,h,hs => by
  have hl:=h.bd _ (getLastD_mem h.pos)
  have hb:=nxtF_bd hc s (t.getLastD 0 + 1)
  have h1:TOk (n + 1) (t ++ [1 + (nxtF code s (t.getLastD 0 + 1)).1]):=⟨by simp,h.lev.snoc (by omega) (by rw [← getLastD_getD h.pos];omega),by have:=h.len;simp;omega,fun x hx => by
   rw [List.length_append,List.length_singleton]
   rcases List.mem_append.1 hx with hx|hx
   ·have:=h.bd x hx;omega
   ·rw [List.mem_singleton] at hx;subst hx;omega⟩
  have:=growD_ok hc k h1 (nxtF_at (n:=t.getLastD 0 + 1) hs)
  rw [show n + (k + 1) = n + 1 + k by omega]
  exact this
theorem drawF_ok {code:List Int} (hc:Bytes code) {s:Nat × Int} {m:Int} (hs:s.1 ≤ code.length):TOk (1 + m.toNat) (drawF code s m).1∧(drawF code s m).2.1 ≤ code.length:=by
 have hb:=nxtF_bd hc s m
 have h:=growD_ok hc (nxtF code s m).1.toNat (s:=(nxtF code s m).2) (t:=[0]) (n:=1) ⟨by simp,by decide,by simp,by simp⟩ (nxtF_at hs)
 exact ⟨⟨h.1.pos,h.1.lev,Nat.le_trans h.1.len (by omega),h.1.bd⟩,h.2⟩
theorem drawF_len {code:List Int} (hc:Bytes code) {s:Nat × Int} {m:Int} (hs:s.1 ≤ code.length) (hm:1 ≤ m):(drawF code s m).1.length ≤ m.toNat:=by
 have hb:=nxtF_bd hc s m
 have h:=growD_ok hc (nxtF code s m).1.toNat (s:=(nxtF code s m).2) (t:=[0]) (n:=1) ⟨by simp,by decide,by simp,by simp⟩ (nxtF_at hs)
 exact Nat.le_trans h.1.len (by omega)
def drawG (code:List Int) (s:Nat × Int) (m:Int):List Res × (Nat × Int):=([.own 1 ((drawF code s m).1.map eI) true],(drawF code s m).2)
set_option maxRecDepth 20000 in
set_option maxHeartbeats 16000000 in
theorem p_l03Draw {code:List Int} (hc:Bytes code) (hl:code.length ≤ 1000000000):DrawsE Tryz.prog 141 code (drw1 (drawG code)):=by
 refine drw1_of fun s m hs hm1 hm2 => ?_
 have hpin:=nxt_l01Next hc hl
 have hdr:=nxtE_eq code s m hs
 have hbd:=nxtF_bd hc s m
 have hat:=nxtF_at (n:=m) hs
 unfold drawG drawF
 obtain ⟨⟨kk,s1⟩,hp⟩:∃ p,p = nxtF code s m:=⟨_,rfl⟩
 rw [← hp] at hdr hbd hat ⊢
 simp only at hdr hbd hat ⊢
 obtain ⟨k,rfl⟩:∃ k:Nat,kk = k:=⟨kk.toNat,by omega⟩
 rw [Int.toNat_natCast]
 have hk:k ≤ 1000:=by omega
 simp only [eI] at hdr
 refine AEp.of_runs (cfg_ok 29) Tryz.func141 rfl rfl rfl (fun _ => rfl) (by simp only [List.length_cons,List.length_nil];decide) ?_
 have hres:Tryz.f141.results.toList = [.tmp 4]:=rfl
 have hrts:Tryz.f141.resultTypes.toList = [24]:=rfl
 simp only [List.length_cons,List.length_nil,ownArg,if_true,argRegs,argAV1,eL,eI,eLL,eB,Nat.zero_add,Nat.reduceAdd]
 intro M og cap
 refine RunK.of ?_
 repeat' (first|with_reducible (first|refine Q1 ?_|refine Q2 ?_|refine Q3 ?_|refine Q4 ?_|refine Q5 ?_|refine Q6 ?_|refine Q7 ?_|refine Q8 ?_|refine Q9 ?_|refine Qa ?_|refine Qb ?_|refine Qc ?_|refine Qd ?_|refine Qe ?_|refine Qf ?_)|((with_reducible refine Qo ?_ ?_);focus rfl)|((with_reducible first|refine QT 7 (l:=?_) ?_ ?_|refine QF 7 (l:=?_) ?_ ?_);rotate_left 1;focus (simp only [Zu,Nat.reduceSub,Nat.reduceBEq];with_reducible rfl))|((with_reducible first|refine QS (cfg_ok 29) (Tab.none.pin 119 (nxtE code) hpin) (s':=?_) ?_ ?_|refine QC (b:=?_) ?_ ?_);rotate_left 1;focus ((with_reducible refine QW ?_);simp only [Zg,seval,if_true,if_false,reduceCtorEq,Nat.reduceEqDiff,hdr,nxtE];with_reducible rfl)))
 refine RunK.loop (β:=Nat × (Nat × Int) × List Int) (γ:=List Int × (Nat × Int)) (fun x => ⟨[(0,.optr 0 0 0),(5,.c (.own 5 x.2.2.length)),(6,.c (.val (.int x.1)))],[(0,.pin og cap 3 [srcD code x.2.1]),(5,.row 1 (x.2.2.map eI) true)]⟩)
  (fun x => x.1 ≤ k∧x.2.1.1 ≤ code.length∧TOk (1 + (k - x.1)) x.2.2∧growD code x.1 x.2.1 x.2.2 = growD code k s1 [0]) (fun x => x.1)
  (fun z => ⟨[(0,.optr 0 0 0),(5,.c (.own 5 z.1.length))],[(0,.pin og cap 3 [srcD code z.2]),(5,.row 1 (z.1.map eI) true)]⟩) (fun z => z = growD code k s1 [0]) (k,s1,[0]) ⟨Nat.le_refl _,hat,⟨by simp,by show LevP [0];decide,by simp,by simp⟩,rfl⟩ ?_ ?_ ?_
 ·(repeat' (first|with_reducible refine Qn|((with_reducible refine Qr ?_ ?_);focus (first|with_reducible rfl|(simp only [Zz,Nat.reduceBEq];done)|rfl))|((with_reducible refine Qj (o':=?_) ?_ ?_ ?_);rotate_left 1;focus rfl)|((with_reducible refine Qw ?_ ?_);(focus (first|with_reducible rfl|(simp only [Zv];done)));focus (first|exact id|exact (fun h => nomatch h)|exact (fun _ => rfl)))))
  all_goals first|exact ⟨rfl,rfl⟩|exact ⟨rfl,rfl,id⟩|exact ⟨rfl,rfl,rfl,rfl⟩
 ·rintro ⟨j,s,t⟩ ⟨hj,hs,ht,hgr⟩
  simp only at hj hs ht hgr
  by_cases h0:0 < j
  ·obtain ⟨j,rfl⟩:∃ i,j = i + 1:=⟨j - 1,by omega⟩
   have i1:(((j + 1:Nat):Int) > 0) = True:=eq_true (by omega)
   have hlb:=ht.bd _ (getLastD_mem ht.pos)
   have htl:=ht.len
   have htp:0 < t.length:=List.length_pos_iff.2 ht.pos
   have hdr:=nxtE_eq code s (t.getLastD 0 + 1) hs
   have hbd:=nxtF_bd hc s (t.getLastD 0 + 1)
   have hat:=nxtF_at (n:=t.getLastD 0 + 1) hs
   have hgr:growD code j (nxtF code s (t.getLastD 0 + 1)).2 (t ++ [1 + (nxtF code s (t.getLastD 0 + 1)).1]) = growD code k s1 [0]:=hgr
   have hnext:=(growD_ok hc 1 ht hs).1
   have hnext:TOk (1 + (k - (j + 1)) + 1) (t ++ [1 + (nxtF code s (t.getLastD 0 + 1)).1]):=hnext
   obtain ⟨⟨x,s2⟩,hp⟩:∃ p,p = nxtF code s (t.getLastD 0 + 1):=⟨_,rfl⟩
   rw [← hp] at hdr hbd hat hgr hnext
   simp only at hdr hbd hat hgr hnext
   simp only [eI] at hdr
   have hlm:(t.map eI).length = t.length:=List.length_map _
   have i2:((0:Int) ≤ (t.length:Int) - 1) = True:=eq_true (by omega)
   have i3:((t.length:Int) - 1 < (t.length:Int)) = True:=eq_true (by omega)
   have w1:w64 ((t.length:Int) - 1) = (t.length:Int) - 1:=w64_eq (by omega)
   have w2:w64 (t.getLastD 0 + 1) = t.getLastD 0 + 1:=w64_eq (by omega)
   have w3:w64 (1 + x) = 1 + x:=w64_eq (by omega)
   have w4:w64 (((j + 1:Nat):Int) - 1) = j:=by rw [w64_eq (by omega)];omega
   have hg:(t.map eI)[((t.length:Int) - 1).toNat]? = some [.int (t.getLastD 0)]:=by
    have e:((t.length:Int) - 1).toNat = t.length - 1:=by omega
    rw [e,List.getElem?_map,← List.getLast?_eq_getElem?]
    cases t with
    | nil => exact absurd rfl ht.pos
    | cons a t => rw [List.getLast?_cons,List.getLastD_cons,← List.getLastD_eq_getLast?];rfl
   have q1:=big_le (n:=t.length + 1) (by omega)
   have q2:=big_mul (n:=t.length + 1) (c:=8) (by omega) (by omega)
   repeat' (first|with_reducible (first|refine Q1 ?_|refine Q2 ?_|refine Q3 ?_|refine Q4 ?_|refine Q5 ?_|refine Q6 ?_|refine Q7 ?_|refine Q8 ?_|refine Q9 ?_|refine Qa ?_|refine Qb ?_|refine Qc ?_|refine Qd ?_|refine Qe ?_|refine Qf ?_)|((with_reducible refine Qo ?_ ?_);focus rfl)|((with_reducible first|refine QT 7 (l:=?_) ?_ ?_|refine QF 7 (l:=?_) ?_ ?_);rotate_left 1;focus (simp only [Zu,Nat.reduceSub,Nat.reduceBEq];with_reducible rfl))|((with_reducible first|refine QS (cfg_ok 29) (Tab.none.pin 119 (nxtE code) hpin) (s':=?_) ?_ ?_|refine QC (b:=?_) ?_ ?_);rotate_left 1;focus ((with_reducible refine QW ?_);simp only [Zg,seval,if_true,if_false,reduceCtorEq,Nat.reduceEqDiff,hdr,nxtE,i1,i2,i3,w1,w2,w3,w4,hg,hlm,q1,q2];with_reducible rfl)))
   refine roundK.on (j,s2,t ++ [1 + x]) ⟨⟨by omega,hat,by rw [show 1 + (k - j) = 1 + (k - (j + 1)) + 1 by omega];exact hnext,hgr⟩,by simp⟩ ?_
   (repeat' (first|with_reducible refine Qn|((with_reducible refine Qr ?_ ?_);focus (first|with_reducible rfl|(simp only [Zz,Nat.reduceBEq,List.map_append,List.map_cons,List.map_nil,List.length_append,List.length_singleton,eI];done)|rfl))|((with_reducible refine Qj (o':=?_) ?_ ?_ ?_);rotate_left 1;focus rfl)|((with_reducible refine Qw ?_ ?_);(focus (first|with_reducible rfl|(simp only [Zv,List.map_append,List.map_cons,List.map_nil,List.length_append,List.length_singleton,eI];done)));focus (first|exact id|exact (fun h => nomatch h)|exact (fun _ => rfl)))))
   all_goals first|exact ⟨rfl,rfl⟩|exact ⟨rfl,rfl,id⟩|exact ⟨rfl,rfl,rfl,rfl⟩
  ·obtain rfl:j = 0:=by omega
   have i1:(((0:Nat):Int) > 0) = False:=eq_false (by omega)
   repeat' (first|with_reducible (first|refine Q1 ?_|refine Q2 ?_|refine Q3 ?_|refine Q4 ?_|refine Q5 ?_|refine Q6 ?_|refine Q7 ?_|refine Q8 ?_|refine Q9 ?_|refine Qa ?_|refine Qb ?_|refine Qc ?_|refine Qd ?_|refine Qe ?_|refine Qf ?_)|((with_reducible refine Qo ?_ ?_);focus rfl)|((with_reducible first|refine QT 7 (l:=?_) ?_ ?_|refine QF 7 (l:=?_) ?_ ?_);rotate_left 1;focus (simp only [Zu,Nat.reduceSub,Nat.reduceBEq];with_reducible rfl))|((with_reducible first|refine QS (cfg_ok 29) Tab.none (s':=?_) ?_ ?_|refine QC (b:=?_) ?_ ?_);rotate_left 1;focus ((with_reducible refine QW ?_);simp only [Zg,seval,if_true,if_false,reduceCtorEq,Nat.reduceEqDiff,i1];with_reducible rfl)))
   refine roundK.out (t,s) hgr ?_
   (repeat' (first|with_reducible refine Qn|((with_reducible refine Qr ?_ ?_);focus (first|with_reducible rfl|(simp only [Zz,Nat.reduceBEq];done)|rfl))|((with_reducible refine Qj (o':=?_) ?_ ?_ ?_);rotate_left 1;focus rfl)|((with_reducible refine Qw ?_ ?_);(focus (first|with_reducible rfl|(simp only [Zv];done)));focus (first|exact id|exact (fun h => nomatch h)|exact (fun _ => rfl)))))
   all_goals first|exact ⟨rfl,rfl⟩|exact ⟨rfl,rfl,id⟩|exact ⟨rfl,rfl,rfl,rfl⟩
 rintro z rfl
 repeat' (first|with_reducible (first|refine Q1 ?_|refine Q2 ?_|refine Q3 ?_|refine Q4 ?_|refine Q5 ?_|refine Q6 ?_|refine Q7 ?_|refine Q8 ?_|refine Q9 ?_|refine Qa ?_|refine Qb ?_|refine Qc ?_|refine Qd ?_|refine Qe ?_|refine Qf ?_)|((with_reducible refine Qo ?_ ?_);focus rfl)|((with_reducible first|refine QT 7 (l:=?_) ?_ ?_|refine QF 7 (l:=?_) ?_ ?_);rotate_left 1;focus (simp only [Zu,Nat.reduceSub,Nat.reduceBEq];with_reducible rfl))|((with_reducible first|refine QS (cfg_ok 29) Tab.none (s':=?_) ?_ ?_|refine QC (b:=?_) ?_ ?_);rotate_left 1;focus ((with_reducible refine QW ?_);simp only [Zg,seval,if_true,if_false,reduceCtorEq,Nat.reduceEqDiff];with_reducible rfl)))
 (refine EndsP.mk (by simp) (rs:=?_) (ks:=?_) (xs':=?_) hres hrts ?_ ?_ ?_ ?_ ?_;rotate_left 3;(focus (simp only [Ze,Zg,seval,if_true,if_false,reduceCtorEq,Nat.reduceEqDiff];with_reducible rfl));(focus simp);(focus simp);(focus (simp only [look,Nat.reduceEqDiff,Nat.reduceBEq,if_true,if_false];rfl));focus (first|exact ⟨rfl,rfl⟩|exact ⟨rfl,rfl,rfl⟩|skip))
def drawAnyF (code:List Int) (s:Nat × Int) (m:Int):List Int × (Nat × Int) :=
 let p:=drawF code s m
 let c:=nxtF code p.2 24
 if c.1 = 0 then
  let i:=nxtF code c.2 p.1.length
  let v:=nxtF code i.2 6
  (p.1.set i.1.toNat (v.1 - 1),v.2)
 else if c.1 = 1 then ([],c.2)
 else if c.1 = 2 then (p.1 ++ List.replicate 8 1,c.2)
 else (p.1,c.2)
structure AOk (n:Nat) (t:List Int):Prop where
 len:t.length ≤ n
 bd:∀ x ∈ t,-1 ≤ x∧x ≤ n
theorem drawAnyF_ok {code:List Int} (hc:Bytes code) {s:Nat × Int} {m:Int} (hs:s.1 ≤ code.length):AOk (9 + m.toNat) (drawAnyF code s m).1∧(drawAnyF code s m).2.1 ≤ code.length:=by
 obtain ⟨h1,h2⟩:=drawF_ok hc (m:=m) hs
 unfold drawAnyF
 obtain ⟨p,hp⟩:∃ p,p = drawF code s m:=⟨_,rfl⟩
 rw [← hp] at h1 h2 ⊢
 simp only
 have hl:=h1.len
 have ha:AOk (9 + m.toNat) p.1:=⟨by omega,fun x hx => by have:=h1.bd x hx;omega⟩
 have h3:=nxtF_at (n:=24) h2
 have hcb:=nxtF_bd hc p.2 24
 obtain ⟨c,hcd⟩:∃ c,c = nxtF code p.2 24:=⟨_,rfl⟩
 rw [← hcd] at h3 hcb ⊢
 split
 ·have h4:=nxtF_at (n:=(p.1.length:Int)) h3
  have h5:=nxtF_at (n:=6) h4
  have h6:=nxtF_bd hc (nxtF code c.2 p.1.length).2 6
  refine ⟨⟨by simp;omega,fun x hx => ?_⟩,h5⟩
  rcases List.mem_or_eq_of_mem_set hx with hx|hx
  ·exact ha.bd x hx
  ·omega
 ·split
  ·exact ⟨⟨by simp,by simp⟩,h3⟩
  ·split
   ·refine ⟨⟨by simp;omega,fun x hx => ?_⟩,h3⟩
    rcases List.mem_append.1 hx with hx|hx
    ·exact ha.bd x hx
    ·rw [List.eq_of_mem_replicate hx];omega
   ·exact ⟨ha,h3⟩
def drawAnyG (code:List Int) (s:Nat × Int) (m:Int):List Res × (Nat × Int):=([.own 1 ((drawAnyF code s m).1.map eI) true],(drawAnyF code s m).2)
set_option maxRecDepth 20000 in
set_option maxHeartbeats 16000000 in
theorem p_l03DrawAny {code:List Int} (hc:Bytes code) (hl:code.length ≤ 1000000000):DrawsE Tryz.prog 69 code (drw1 (drawAnyG code)):=by
 refine drw1_of fun s m hs hm1 hm2 => ?_
 have hpin:=nxt_l01Next hc hl
 have hdw:=(p_l03Draw hc hl).ok
 have hdt:drwG code (drw1 (drawG code)) 3 [srcD code s] [[.int m]] = some ([.own 1 ((drawF code s m).1.map eI) true],[srcD code (drawF code s m).2]):=drw1_eq hs ⟨hm1,hm2⟩
 obtain ⟨h1,h2⟩:=drawF_ok hc (m:=m) hs
 have hdr:=nxtE_eq code (drawF code s m).2 24 h2
 have hbd:=nxtF_bd hc (drawF code s m).2 24
 have hat:=nxtF_at (n:=24) h2
 unfold drawAnyG drawAnyF
 obtain ⟨⟨t,s1⟩,hp⟩:∃ p,p = drawF code s m:=⟨_,rfl⟩
 rw [← hp] at h1 h2 hdr hbd hat hdt ⊢
 simp only at h1 h2 hdr hbd hat hdt ⊢
 obtain ⟨⟨c,s2⟩,hq⟩:∃ p,p = nxtF code s1 24:=⟨_,rfl⟩
 rw [← hq] at hdr hbd hat ⊢
 simp only at hdr hbd hat ⊢
 have htl:=h1.len
 have htp:0 < t.length:=List.length_pos_iff.2 h1.pos
 have hlm:(t.map eI).length = t.length:=List.length_map _
 simp only [eI] at hdr
 by_cases c0:c = 0
 ·subst c0
  have hdr2:=nxtE_eq code s2 t.length hat
  have hbd2:=nxtF_bd hc s2 t.length
  have hat2:=nxtF_at (n:=(t.length:Int)) hat
  obtain ⟨⟨i,s3⟩,hq2⟩:∃ p,p = nxtF code s2 t.length:=⟨_,rfl⟩
  rw [← hq2] at hdr2 hbd2 hat2 ⊢
  simp only at hdr2 hbd2 hat2 ⊢
  have hdr3:=nxtE_eq code s3 6 hat2
  have hbd3:=nxtF_bd hc s3 6
  obtain ⟨⟨v,s4⟩,hq3⟩:∃ p,p = nxtF code s3 6:=⟨_,rfl⟩
  rw [← hq3] at hdr3 hbd3 ⊢
  simp only [eI,if_true] at hdr2 hdr3 hbd3 ⊢
  have i1:((0:Int) ≤ i) = True:=eq_true (by omega)
  have i2:(i < (t.length:Int)) = True:=eq_true (by omega)
  have w1:w64 (v - 1) = v - 1:=w64_eq (by omega)
  have hst:(t.set i.toNat (v - 1)).map eI = (t.map eI).set i.toNat [.int (v - 1)]:=by rw [List.map_set];rfl
  have hil:i.toNat < t.length:=by omega
  have hg:(t.map eI)[i.toNat]? = some [.int t[i.toNat]]:=by rw [List.getElem?_map,List.getElem?_eq_getElem hil];rfl
  rw [hst]
  refine AEp.of_runs (cfg_ok 35) Tryz.func69 rfl rfl rfl (fun _ => rfl) (by simp only [List.length_cons,List.length_nil];decide) ?_
  have hres:Tryz.f69.results.toList = [.tmp 4]:=rfl
  have hrts:Tryz.f69.resultTypes.toList = [24]:=rfl
  simp only [List.length_cons,List.length_nil,ownArg,if_true,argRegs,argAV1,eL,eI,eLL,eB,Nat.zero_add,Nat.reduceAdd]
  intro M og cap
  refine RunK.of ?_
  repeat' (first|with_reducible (first|refine Q1 ?_|refine Q2 ?_|refine Q3 ?_|refine Q4 ?_|refine Q5 ?_|refine Q6 ?_|refine Q7 ?_|refine Q8 ?_|refine Q9 ?_|refine Qa ?_|refine Qb ?_|refine Qc ?_|refine Qd ?_|refine Qe ?_|refine Qf ?_)|((with_reducible refine Qo ?_ ?_);focus rfl)|((with_reducible first|refine QT 12 (l:=?_) ?_ ?_|refine QF 12 (l:=?_) ?_ ?_);rotate_left 1;focus (simp only [Zu,Nat.reduceSub,Nat.reduceBEq];with_reducible rfl))|((with_reducible first|refine QS (cfg_ok 35) ((Tab.none.pin 119 (nxtE code) hpin).pin 141 (drwE code (drw1 (drawG code))) hdw) (s':=?_) ?_ ?_|refine QC (b:=?_) ?_ ?_);rotate_left 1;focus ((with_reducible refine QW ?_);simp only [Zg,seval,if_true,if_false,reduceCtorEq,Nat.reduceEqDiff,hdr,hdr2,hdr3,hdt,nxtE,drwE,i1,i2,w1,hlm,hg];with_reducible rfl)))
  (refine EndsP.mk (by simp) (rs:=?_) (ks:=?_) (xs':=?_) hres hrts ?_ ?_ ?_ ?_ ?_;rotate_left 3;(focus (simp only [Ze,Zg,seval,if_true,if_false,reduceCtorEq,Nat.reduceEqDiff];with_reducible rfl));(focus simp);(focus simp);(focus (simp only [look,Nat.reduceEqDiff,Nat.reduceBEq,if_true,if_false];rfl));focus (first|exact ⟨rfl,rfl⟩|exact ⟨rfl,rfl,rfl⟩|skip))
 ·have e0:(c == 0) = false:=by simp [c0]
  by_cases c1:c = 1
  ·subst c1
   rw [if_neg c0,if_pos rfl]
   refine AEp.of_runs (cfg_ok 35) Tryz.func69 rfl rfl rfl (fun _ => rfl) (by simp only [List.length_cons,List.length_nil];decide) ?_
   have hres:Tryz.f69.results.toList = [.tmp 4]:=rfl
   have hrts:Tryz.f69.resultTypes.toList = [24]:=rfl
   simp only [List.length_cons,List.length_nil,ownArg,if_true,argRegs,argAV1,eL,eI,eLL,eB,Nat.zero_add,Nat.reduceAdd]
   intro M og cap
   refine RunK.of ?_
   repeat' (first|with_reducible (first|refine Q1 ?_|refine Q2 ?_|refine Q3 ?_|refine Q4 ?_|refine Q5 ?_|refine Q6 ?_|refine Q7 ?_|refine Q8 ?_|refine Q9 ?_|refine Qa ?_|refine Qb ?_|refine Qc ?_|refine Qd ?_|refine Qe ?_|refine Qf ?_)|((with_reducible refine Qo ?_ ?_);focus rfl)|((with_reducible first|refine QT 12 (l:=?_) ?_ ?_|refine QF 12 (l:=?_) ?_ ?_);rotate_left 1;focus (simp only [Zu,Nat.reduceSub,Nat.reduceBEq];with_reducible rfl))|((with_reducible first|refine QS (cfg_ok 35) ((Tab.none.pin 119 (nxtE code) hpin).pin 141 (drwE code (drw1 (drawG code))) hdw) (s':=?_) ?_ ?_|refine QC (b:=?_) ?_ ?_);rotate_left 1;focus ((with_reducible refine QW ?_);simp only [Zg,seval,if_true,if_false,reduceCtorEq,Nat.reduceEqDiff,hdr,hdt,nxtE,drwE,e0,hlm];with_reducible rfl)))
   (refine EndsP.mk (by simp) (rs:=?_) (ks:=?_) (xs':=?_) hres hrts ?_ ?_ ?_ ?_ ?_;rotate_left 3;(focus (simp only [Ze,Zg,seval,if_true,if_false,reduceCtorEq,Nat.reduceEqDiff];with_reducible rfl));(focus simp);(focus simp);(focus (simp only [look,Nat.reduceEqDiff,Nat.reduceBEq,if_true,if_false];rfl));focus (first|exact ⟨rfl,rfl⟩|exact ⟨rfl,rfl,rfl⟩|skip))
  ·by_cases c2:c = 2
   ·subst c2
    rw [if_neg c0,if_neg c1,if_pos rfl]
    refine AEp.of_runs (cfg_ok 35) Tryz.func69 rfl rfl rfl (fun _ => rfl) (by simp only [List.length_cons,List.length_nil];decide) ?_
    have hres:Tryz.f69.results.toList = [.tmp 4]:=rfl
    have hrts:Tryz.f69.resultTypes.toList = [24]:=rfl
    simp only [List.length_cons,List.length_nil,ownArg,if_true,argRegs,argAV1,eL,eI,eLL,eB,Nat.zero_add,Nat.reduceAdd]
    intro M og cap
    refine RunK.of ?_
    repeat' (first|with_reducible (first|refine Q1 ?_|refine Q2 ?_|refine Q3 ?_|refine Q4 ?_|refine Q5 ?_|refine Q6 ?_|refine Q7 ?_|refine Q8 ?_|refine Q9 ?_|refine Qa ?_|refine Qb ?_|refine Qc ?_|refine Qd ?_|refine Qe ?_|refine Qf ?_)|((with_reducible refine Qo ?_ ?_);focus rfl)|((with_reducible first|refine QT 12 (l:=?_) ?_ ?_|refine QF 12 (l:=?_) ?_ ?_);rotate_left 1;focus (simp only [Zu,Nat.reduceSub,Nat.reduceBEq];with_reducible rfl))|((with_reducible first|refine QS (cfg_ok 35) ((Tab.none.pin 119 (nxtE code) hpin).pin 141 (drwE code (drw1 (drawG code))) hdw) (s':=?_) ?_ ?_|refine QC (b:=?_) ?_ ?_);rotate_left 1;focus ((with_reducible refine QW ?_);simp only [Zg,seval,if_true,if_false,reduceCtorEq,Nat.reduceEqDiff,hdr,hdt,nxtE,drwE,e0,hlm];with_reducible rfl)))
    refine RunK.loop (β:=Nat) (γ:=Unit) (fun j => ⟨[(0,.optr 0 0 0),(5,.c (.own 5 (t.length + j))),(6,.c (.val (.int j)))],[(0,.pin og cap 3 [srcD code s2]),(5,.row 1 ((t ++ List.replicate j 1).map eI) true)]⟩) (fun j => j ≤ 8) (fun j => 8 - j)
     (fun _ => ⟨[(0,.optr 0 0 0),(5,.c (.own 5 (t.length + 8)))],[(0,.pin og cap 3 [srcD code s2]),(5,.row 1 ((t ++ List.replicate 8 1).map eI) true)]⟩) (fun _ => True) 0 (Nat.zero_le _) ?_ ?_ ?_
    ·(repeat' (first|with_reducible refine Qn|((with_reducible refine Qr ?_ ?_);focus (first|with_reducible rfl|(simp only [Zz,Nat.reduceBEq,Nat.add_zero,List.replicate_zero,List.append_nil,Int.natCast_zero];done)|rfl))|((with_reducible refine Qj (o':=?_) ?_ ?_ ?_);rotate_left 1;focus rfl)|((with_reducible refine Qw ?_ ?_);(focus (first|with_reducible rfl|(simp only [Zv,Nat.add_zero,List.replicate_zero,List.append_nil,Int.natCast_zero];done)));focus (first|exact id|exact (fun h => nomatch h)|exact (fun _ => rfl)))))
     all_goals first|exact ⟨rfl,rfl⟩|exact ⟨rfl,rfl,id⟩|exact ⟨rfl,rfl,rfl,rfl⟩
    ·intro j hj
     have hj:j ≤ 8:=hj
     have hw:=w64_succ (n:=j) (by omega)
     by_cases hj8:j < 8
     ·have j1:((j:Int) < 8) = True:=eq_true (by omega)
      have hrl:((t ++ List.replicate j (1:Int)).map eI).length = t.length + j:=by simp
      have hrx:(t ++ List.replicate (j + 1) (1:Int)).map eI = (t ++ List.replicate j (1:Int)).map eI ++ [[.int 1]]:=by
       rw [List.replicate_succ',← List.append_assoc,List.map_append];rfl
      obtain ⟨R,hR⟩:∃ R,R = (t ++ List.replicate j (1:Int)).map eI:=⟨_,rfl⟩
      rw [← hR] at hrl hrx ⊢
      have q1:=big_le (n:=t.length + j + 1) (by omega)
      have q2:=big_mul (n:=t.length + j + 1) (c:=8) (by omega) (by omega)
      repeat' (first|with_reducible (first|refine Q1 ?_|refine Q2 ?_|refine Q3 ?_|refine Q4 ?_|refine Q5 ?_|refine Q6 ?_|refine Q7 ?_|refine Q8 ?_|refine Q9 ?_|refine Qa ?_|refine Qb ?_|refine Qc ?_|refine Qd ?_|refine Qe ?_|refine Qf ?_)|((with_reducible refine Qo ?_ ?_);focus rfl)|((with_reducible first|refine QT 12 (l:=?_) ?_ ?_|refine QF 12 (l:=?_) ?_ ?_);rotate_left 1;focus (simp only [Zu,Nat.reduceSub,Nat.reduceBEq];with_reducible rfl))|((with_reducible first|refine QS (cfg_ok 35) Tab.none (s':=?_) ?_ ?_|refine QC (b:=?_) ?_ ?_);rotate_left 1;focus ((with_reducible refine QW ?_);simp only [Zg,seval,if_true,if_false,reduceCtorEq,Nat.reduceEqDiff,j1,hw,hrl,q1,q2];with_reducible rfl)))
      refine roundK.on (j + 1) ⟨by omega,by omega⟩ ?_
      rw [hrx]
      (repeat' (first|with_reducible refine Qn|((with_reducible refine Qr ?_ ?_);focus (first|with_reducible rfl|(simp only [Zz,Nat.reduceBEq];done)|rfl))|((with_reducible refine Qj (o':=?_) ?_ ?_ ?_);rotate_left 1;focus rfl)|((with_reducible refine Qw ?_ ?_);(focus (first|with_reducible rfl|(simp only [Zv];done)));focus (first|exact id|exact (fun h => nomatch h)|exact (fun _ => rfl)))))
      all_goals first|exact ⟨rfl,rfl⟩|exact ⟨rfl,rfl,id⟩|exact ⟨rfl,rfl,rfl,rfl⟩
     ·obtain rfl:j = 8:=by omega
      have j1:(((8:Nat):Int) < 8) = False:=eq_false (by omega)
      repeat' (first|with_reducible (first|refine Q1 ?_|refine Q2 ?_|refine Q3 ?_|refine Q4 ?_|refine Q5 ?_|refine Q6 ?_|refine Q7 ?_|refine Q8 ?_|refine Q9 ?_|refine Qa ?_|refine Qb ?_|refine Qc ?_|refine Qd ?_|refine Qe ?_|refine Qf ?_)|((with_reducible refine Qo ?_ ?_);focus rfl)|((with_reducible first|refine QT 12 (l:=?_) ?_ ?_|refine QF 12 (l:=?_) ?_ ?_);rotate_left 1;focus (simp only [Zu,Nat.reduceSub,Nat.reduceBEq];with_reducible rfl))|((with_reducible first|refine QS (cfg_ok 35) Tab.none (s':=?_) ?_ ?_|refine QC (b:=?_) ?_ ?_);rotate_left 1;focus ((with_reducible refine QW ?_);simp only [Zg,seval,if_true,if_false,reduceCtorEq,Nat.reduceEqDiff,j1];with_reducible rfl)))
      refine roundK.out () trivial ?_
      (repeat' (first|with_reducible refine Qn|((with_reducible refine Qr ?_ ?_);focus (first|with_reducible rfl|(simp only [Zz,Nat.reduceBEq];done)|rfl))|((with_reducible refine Qj (o':=?_) ?_ ?_ ?_);rotate_left 1;focus rfl)|((with_reducible refine Qw ?_ ?_);(focus (first|with_reducible rfl|(simp only [Zv];done)));focus (first|exact id|exact (fun h => nomatch h)|exact (fun _ => rfl)))))
      all_goals first|exact ⟨rfl,rfl⟩|exact ⟨rfl,rfl,id⟩|exact ⟨rfl,rfl,rfl,rfl⟩
    rintro _ _
    repeat' (first|with_reducible (first|refine Q1 ?_|refine Q2 ?_|refine Q3 ?_|refine Q4 ?_|refine Q5 ?_|refine Q6 ?_|refine Q7 ?_|refine Q8 ?_|refine Q9 ?_|refine Qa ?_|refine Qb ?_|refine Qc ?_|refine Qd ?_|refine Qe ?_|refine Qf ?_)|((with_reducible refine Qo ?_ ?_);focus rfl)|((with_reducible first|refine QT 12 (l:=?_) ?_ ?_|refine QF 12 (l:=?_) ?_ ?_);rotate_left 1;focus (simp only [Zu,Nat.reduceSub,Nat.reduceBEq];with_reducible rfl))|((with_reducible first|refine QS (cfg_ok 35) Tab.none (s':=?_) ?_ ?_|refine QC (b:=?_) ?_ ?_);rotate_left 1;focus ((with_reducible refine QW ?_);simp only [Zg,seval,if_true,if_false,reduceCtorEq,Nat.reduceEqDiff];with_reducible rfl)))
    (refine EndsP.mk (by simp) (rs:=?_) (ks:=?_) (xs':=?_) hres hrts ?_ ?_ ?_ ?_ ?_;rotate_left 3;(focus (simp only [Ze,Zg,seval,if_true,if_false,reduceCtorEq,Nat.reduceEqDiff];with_reducible rfl));(focus simp);(focus simp);(focus (simp only [look,Nat.reduceEqDiff,Nat.reduceBEq,if_true,if_false];rfl));focus (first|exact ⟨rfl,rfl⟩|exact ⟨rfl,rfl,rfl⟩|skip))
   ·have e1:(c == 1) = false:=by simp [c1]
    have e2:(c == 2) = false:=by simp [c2]
    rw [if_neg c0,if_neg c1,if_neg c2]
    refine AEp.of_runs (cfg_ok 35) Tryz.func69 rfl rfl rfl (fun _ => rfl) (by simp only [List.length_cons,List.length_nil];decide) ?_
    have hres:Tryz.f69.results.toList = [.tmp 4]:=rfl
    have hrts:Tryz.f69.resultTypes.toList = [24]:=rfl
    simp only [List.length_cons,List.length_nil,ownArg,if_true,argRegs,argAV1,eL,eI,eLL,eB,Nat.zero_add,Nat.reduceAdd]
    intro M og cap
    refine RunK.of ?_
    repeat' (first|with_reducible (first|refine Q1 ?_|refine Q2 ?_|refine Q3 ?_|refine Q4 ?_|refine Q5 ?_|refine Q6 ?_|refine Q7 ?_|refine Q8 ?_|refine Q9 ?_|refine Qa ?_|refine Qb ?_|refine Qc ?_|refine Qd ?_|refine Qe ?_|refine Qf ?_)|((with_reducible refine Qo ?_ ?_);focus rfl)|((with_reducible first|refine QT 12 (l:=?_) ?_ ?_|refine QF 12 (l:=?_) ?_ ?_);rotate_left 1;focus (simp only [Zu,Nat.reduceSub,Nat.reduceBEq];with_reducible rfl))|((with_reducible first|refine QS (cfg_ok 35) ((Tab.none.pin 119 (nxtE code) hpin).pin 141 (drwE code (drw1 (drawG code))) hdw) (s':=?_) ?_ ?_|refine QC (b:=?_) ?_ ?_);rotate_left 1;focus ((with_reducible refine QW ?_);simp only [Zg,seval,if_true,if_false,reduceCtorEq,Nat.reduceEqDiff,hdr,hdt,nxtE,drwE,e0,e1,e2,hlm];with_reducible rfl)))
    (refine EndsP.mk (by simp) (rs:=?_) (ks:=?_) (xs':=?_) hres hrts ?_ ?_ ?_ ?_ ?_;rotate_left 3;(focus (simp only [Ze,Zg,seval,if_true,if_false,reduceCtorEq,Nat.reduceEqDiff];with_reducible rfl));(focus simp);(focus simp);(focus (simp only [look,Nat.reduceEqDiff,Nat.reduceBEq,if_true,if_false];rfl));focus (first|exact ⟨rfl,rfl⟩|exact ⟨rfl,rfl,rfl⟩|skip))
end Go.Proofs.YtgngidchldajhaaGreat
namespace Go.Proofs.YtgngidchldajhaaGreat
open Go.RowKit
def RU:Rep Int where
 k:=1
 rd:=fun _ _ cs n => cs = [.int .u8 n]∧0 ≤ n∧n ≤ 255
 own:=fun _ cs n F => (cs = [.int .u8 n]∧0 ≤ n∧n ≤ 255)∧F = []
 kpos:=by decide
 rd_len:=by intro A w cs x h;rw [h.1];rfl
 rd_one:=by intro A w cs x h v hv;rw [h.1] at hv;simp at hv;subst hv;rfl
 rd_frame:=fun h _ => h
 rd_mono:=fun h _ => h
 own_rd:=fun h => h.1
 own_frame:=fun h _ => h
 own_lt:=by intro w cs x F h b hb;rw [h.2] at hb;simp at hb
abbrev RBytes:Rep (List Int):=RS RU
theorem opU8:Opens Tryz.prog RU 5:=by
 intro H enc w base spare held fuel cs x h
 obtain ⟨n,rfl,_,hw⟩:=DataW.trod_int Tryz.underlying5 h
 exact ⟨n,rfl,bounds_u8 hw⟩
theorem opBytes:Opens Tryz.prog RBytes 22:=Opens.slice Tryz.underlying22 (by kernel_rfl) opU8
theorem rdU_to {A:Nat→Prop} {w:World}:∀ {code:List Int} {ds:List Value},rdL RU A w ds code→rdL (RK 1 (by decide) (RC 0)) A w ds (code.map eU)∧Bytes code
 | [],_,h => ⟨h,fun c hc => nomatch hc⟩
 | c :: code,ds,⟨c1,d1,e,⟨h1,h2,h3⟩,h4⟩ => by
  obtain ⟨h5,h6⟩:=rdU_to h4
  refine ⟨⟨c1,d1,e,⟨by rw [h1];rfl,rfl,?_⟩,h5⟩,fun x hx => ?_⟩
  ·rw [h1]
   exact rdL_one1.2 ⟨rfl,rfl⟩
  ·rcases List.mem_cons.1 hx with rfl|hx
   ·omega
   ·exact h6 x hx
theorem arg_bytes {w:World} {u:Value} {code:List Int} (h:Rd RBytes w [u] code):relArg (· < w.heap.size) w (eCode code) u∧Bytes code:=by
 obtain ⟨oa,cap,ds,h1,h2,h3,h4,h5,h6⟩:=h
 obtain ⟨k1,k2⟩:=rdU_to h5
 refine ⟨?_,k2⟩
 show rdV _ w u (.sl 1 (code.map eU))
 rw [rdV_sl]
 rw [List.length_map]
 exact ⟨oa,cap,ds,(List.cons.inj h1).1,h2,h3,h4,⟨0,by decide,k1⟩,h6⟩
theorem law_code {f:FuncId} (hf:∀ code:List Int,Bytes code→AFn Tryz.prog f [eCode code] (· = [.val (.bool true)])) (v:Value) (code:List Int) (w:World) (h:Rd RBytes w [v] code):Calls Tryz.prog f #[v] w (RetV w (.bool true)):=by
 obtain ⟨h1,h2⟩:=arg_bytes h
 exact AFn.one (fun _ _ _ h => rdV_bool.1 h) (hf code h2) (args1 h1)
theorem a_big (code:List Int):AFn Tryz.prog 12 [eCode code] (· = [.val (.bool (decide (4096 < code.length)))]):=by
 by_cases h:4096 < code.length
 ·have i1:((code.length:Int) > 4096) = True:=eq_true (by omega)
  rw [decide_eq_true h]
  refine AFn.of_runs (cfg_ok 6) Tryz.func12 rfl rfl rfl (by simp only [List.length_cons,List.length_nil];decide) ?_
  have hres:Tryz.f12.results.toList = [.tmp 2]:=rfl
  have hrts:Tryz.f12.resultTypes.toList = [4]:=rfl
  simp only [argRegs,argAV1,eL,eI,eLL,eB,Nat.zero_add,Nat.reduceAdd,eCode,dCode]
  intro M
  refine RunK.of ?_
  repeat' (first|with_reducible (first|refine Q1 ?_|refine Q2 ?_|refine Q3 ?_|refine Q4 ?_|refine Q5 ?_|refine Q6 ?_|refine Q7 ?_|refine Q8 ?_|refine Q9 ?_|refine Qa ?_|refine Qb ?_|refine Qc ?_|refine Qd ?_|refine Qe ?_|refine Qf ?_)|((with_reducible refine Qo ?_ ?_);focus rfl)|((with_reducible first|refine QT 3 (l:=?_) ?_ ?_|refine QF 3 (l:=?_) ?_ ?_);rotate_left 1;focus (simp only [Zu,Nat.reduceSub,Nat.reduceBEq];with_reducible rfl))|((with_reducible first|refine QS (cfg_ok 6) Tab.none (s':=?_) ?_ ?_|refine QC (b:=?_) ?_ ?_);rotate_left 1;focus ((with_reducible refine QW ?_);simp only [Zg,seval,if_true,if_false,reduceCtorEq,Nat.reduceEqDiff,i1,List.length_map];with_reducible rfl)))
  (refine Ends.mk (by simp) (rs:=?_) (ks:=?_) hres hrts ?_ ?_ ?_;rotate_left 2;(focus (simp only [Ze,Zg,seval,if_true,if_false,reduceCtorEq,Nat.reduceEqDiff];with_reducible rfl));(focus simp);focus (first|with_reducible rfl|(simp only [Zv];done)))
 ·have i1:((code.length:Int) > 4096) = False:=eq_false (by omega)
  rw [decide_eq_false h]
  refine AFn.of_runs (cfg_ok 6) Tryz.func12 rfl rfl rfl (by simp only [List.length_cons,List.length_nil];decide) ?_
  have hres:Tryz.f12.results.toList = [.tmp 2]:=rfl
  have hrts:Tryz.f12.resultTypes.toList = [4]:=rfl
  simp only [argRegs,argAV1,eL,eI,eLL,eB,Nat.zero_add,Nat.reduceAdd,eCode,dCode]
  intro M
  refine RunK.of ?_
  repeat' (first|with_reducible (first|refine Q1 ?_|refine Q2 ?_|refine Q3 ?_|refine Q4 ?_|refine Q5 ?_|refine Q6 ?_|refine Q7 ?_|refine Q8 ?_|refine Q9 ?_|refine Qa ?_|refine Qb ?_|refine Qc ?_|refine Qd ?_|refine Qe ?_|refine Qf ?_)|((with_reducible refine Qo ?_ ?_);focus rfl)|((with_reducible first|refine QT 3 (l:=?_) ?_ ?_|refine QF 3 (l:=?_) ?_ ?_);rotate_left 1;focus (simp only [Zu,Nat.reduceSub,Nat.reduceBEq];with_reducible rfl))|((with_reducible first|refine QS (cfg_ok 6) Tab.none (s':=?_) ?_ ?_|refine QC (b:=?_) ?_ ?_);rotate_left 1;focus ((with_reducible refine QW ?_);simp only [Zg,seval,if_true,if_false,reduceCtorEq,Nat.reduceEqDiff,i1,List.length_map];with_reducible rfl)))
  (refine Ends.mk (by simp) (rs:=?_) (ks:=?_) hres hrts ?_ ?_ ?_;rotate_left 2;(focus (simp only [Ze,Zg,seval,if_true,if_false,reduceCtorEq,Nat.reduceEqDiff];with_reducible rfl));(focus simp);focus (first|with_reducible rfl|(simp only [Zv];done)))
end Go.Proofs.YtgngidchldajhaaGreat
namespace Go.Proofs.YtgngidchldajhaaGreat
open Go.RowKit
noncomputable def TDw {code:List Int} (hc:Bytes code) (hl:code.length ≤ 1000000000):Tab Tryz.prog :=
 ((Tab.none.pin 119 (nxtE code) (nxt_l01Next hc hl)).pin 69 (drwE code (drw1 (drawAnyG code))) (p_l03DrawAny hc hl).ok).pin 185 (drwE code (drwL (pickG code))) (p_l01Pick hc hl).ok
end Go.Proofs.YtgngidchldajhaaGreat
namespace Go.Proofs.YtgngidchldajhaaGreat
open Go.RowKit
set_option maxRecDepth 20000 in
set_option maxHeartbeats 8000000 in
theorem a_impl_RootSubtrees (t:List Int):AFn Tryz.prog 19 [eL t] (· = [.own 2 ((rsOf t).1.map eCt) true,.val (.int (rsOf t).2)]):=by
 have hl:=a_impl_IsLevels t
 unfold rsOf
 by_cases h:lev8 t = true
 rotate_left
 ·rw [if_neg h]
  rw [show lev8 t = false by simpa using h] at hl
  simp only [eL] at hl
  refine AFn.of_runs (cfg_ok 25) Tryz.func19 rfl rfl rfl (by simp only [List.length_cons,List.length_nil];decide) ?_
  have hres:Tryz.f19.results.toList = [.tmp 2,.tmp 3]:=rfl
  have hrts:Tryz.f19.resultTypes.toList = [35,2]:=rfl
  simp only [argRegs,argAV1,eL,eI,eLL,eB,Nat.zero_add,Nat.reduceAdd]
  intro M
  refine RunK.of ?_
  repeat' (first|with_reducible (first|refine Q1 ?_|refine Q2 ?_|refine Q3 ?_|refine Q4 ?_|refine Q5 ?_|refine Q6 ?_|refine Q7 ?_|refine Q8 ?_|refine Q9 ?_|refine Qa ?_|refine Qb ?_|refine Qc ?_|refine Qd ?_|refine Qe ?_|refine Qf ?_)|((with_reducible refine Qo ?_ ?_);focus rfl)|((with_reducible first|refine QT 15 (l:=?_) ?_ ?_|refine QF 15 (l:=?_) ?_ ?_);rotate_left 1;focus (simp only [Zu,Nat.reduceSub,Nat.reduceBEq];with_reducible rfl))|((with_reducible first|refine QS (cfg_ok 25) (Tab.none.at' 71 hl) (s':=?_) ?_ ?_|refine QC (b:=?_) ?_ ?_);rotate_left 1;focus ((with_reducible refine QW ?_);simp only [Zg,seval,if_true,if_false,reduceCtorEq,Nat.reduceEqDiff];with_reducible rfl)))
  (refine Ends.mk (by simp) (rs:=?_) (ks:=?_) hres hrts ?_ ?_ ?_;rotate_left 2;(focus (simp only [Ze,Zg,seval,if_true,if_false,reduceCtorEq,Nat.reduceEqDiff];with_reducible rfl));(focus simp);focus (first|with_reducible rfl|(simp only [Zv];done)))
 have h8:=lev8_len h
 have hlev:=lev8_lev h
 have hsp:=a_splitTree 8 (Nat.le_refl _) t hlev h8
 have hb:=trunks_b hlev h8
 have hct:=a_countedB (trunks t) (by omega) (by omega)
 have hgood:=split_good _ (Nat.le_refl _) hlev
 have hone:=split_trunk t hlev
 have htk:=fun i hi => trunk_take (t:=t) i hi
 have hsub:=fun i => trunk_sub (t:=t) i
 have htr:trunks t = (split t).flatMap (·.2):=rfl
 rw [h] at hl
 rw [if_pos h]
 have hsl:(split t).length ≤ 256:=by
  have h1:=split_len _ (Nat.le_refl _) hlev
  have h2:2 ^ t.length ≤ 2 ^ 8:=Nat.pow_le_pow_right (by decide) h8
  omega
 obtain ⟨V,hV⟩:∃ V,V = cntOf (trunks t):=⟨_,rfl⟩
 obtain ⟨T,hT⟩:∃ T,T = trunks t:=⟨_,rfl⟩
 obtain ⟨S,hS⟩:∃ S,S = split t:=⟨_,rfl⟩
 rw [← hV,← hT] at hct
 rw [← hV]
 rw [← hT] at hb hsub htr
 rw [← hS] at hsp hgood hone htk hsub htr hsl
 have hSm:(S.map eS0).length = S.length:=List.length_map _
 simp only [eL,eLL] at hl hsp hct
 refine AFn.of_runs (cfg_ok 25) Tryz.func19 rfl rfl rfl (by simp only [List.length_cons,List.length_nil];decide) ?_
 have hres:Tryz.f19.results.toList = [.tmp 2,.tmp 3]:=rfl
 have hrts:Tryz.f19.resultTypes.toList = [35,2]:=rfl
 simp only [argRegs,argAV1,eL,eI,eLL,eB,Nat.zero_add,Nat.reduceAdd]
 intro M
 refine RunK.of ?_
 repeat' (first|with_reducible (first|refine Q1 ?_|refine Q2 ?_|refine Q3 ?_|refine Q4 ?_|refine Q5 ?_|refine Q6 ?_|refine Q7 ?_|refine Q8 ?_|refine Q9 ?_|refine Qa ?_|refine Qb ?_|refine Qc ?_|refine Qd ?_|refine Qe ?_|refine Qf ?_)|((with_reducible refine Qo ?_ ?_);focus rfl)|((with_reducible first|refine QT 15 (l:=?_) ?_ ?_|refine QF 15 (l:=?_) ?_ ?_);rotate_left 1;focus (simp only [Zu,Nat.reduceSub,Nat.reduceBEq];with_reducible rfl))|((with_reducible first|refine QS (cfg_ok 25) ((Tab.none.at' 71 hl).at' 81 hsp) (s':=?_) ?_ ?_|refine QC (b:=?_) ?_ ?_);rotate_left 1;focus ((with_reducible refine QW ?_);simp only [Zg,seval,if_true,if_false,reduceCtorEq,Nat.reduceEqDiff,hSm];with_reducible rfl)))
 refine RunK.frz 12 ?_
 refine RunK.fits (s0:=⟨[(4,.c (.own 4 0)),(12,.c (.val (.sl 3 (S.map eS0)))),(13,.c (.val (.int S.length))),(14,.c (.val (.int 0)))],[(4,.row 1 [] true)]⟩) ?_ ?_
 ·(repeat' (first|with_reducible refine Qn|((with_reducible refine Qr ?_ ?_);focus (first|with_reducible rfl|(simp only [Zz,Nat.reduceBEq,St.frz,frzR,frzH,look,AV.frz,AC.frz,Obj.frz,drop];done)|rfl))|((with_reducible refine Qj (o':=?_) ?_ ?_ ?_);rotate_left 1;focus rfl)|((with_reducible refine Qw ?_ ?_);(focus (first|with_reducible rfl|(simp only [Zv,St.frz,frzR,frzH,look,AV.frz,AC.frz,Obj.frz,drop];done)));focus (first|exact id|exact (fun h => nomatch h)|exact (fun _ => rfl)))))
  all_goals first|exact ⟨rfl,rfl⟩|exact ⟨rfl,rfl,id⟩|exact ⟨rfl,rfl,fun h => nomatch h⟩
 refine RunK.loop (β:=Nat) (γ:=Unit) (fun i => ⟨[(4,.c (.own 4 ((S.take i).flatMap (·.2)).length)),(12,.c (.val (.sl 3 (S.map eS0)))),(13,.c (.val (.int S.length))),(14,.c (.val (.int i)))],[(4,.row 1 (((S.take i).flatMap (·.2)).map eL) false)]⟩) (fun i => i ≤ S.length) (fun i => S.length - i)
  (fun _ => ⟨[(4,.c (.own 4 T.length))],[(4,.row 1 (T.map eL) false)]⟩) (fun _ => True) 0 (Nat.zero_le _) ?_ ?_ ?_
 ·(repeat' (first|with_reducible refine Qn|((with_reducible refine Qr ?_ ?_);focus (first|with_reducible rfl|(simp only [Zz,Nat.reduceBEq,List.take_zero,List.flatMap_nil,List.map_nil,List.length_nil,Int.natCast_zero];done)|rfl))|((with_reducible refine Qj (o':=?_) ?_ ?_ ?_);rotate_left 1;focus rfl)|((with_reducible refine Qw ?_ ?_);(focus (first|with_reducible rfl|(simp only [Zv,List.take_zero,List.flatMap_nil,List.map_nil,List.length_nil,Int.natCast_zero];done)));focus (first|exact id|exact (fun h => nomatch h)|exact (fun _ => rfl)))))
  all_goals first|exact ⟨rfl,rfl⟩|exact ⟨rfl,rfl,id⟩|exact ⟨rfl,rfl,fun h => nomatch h⟩
 ·intro i hi
  have hi:i ≤ S.length:=hi
  have hw:=w64_succ (n:=i) (by omega)
  by_cases hiS:i < S.length
  ·have i1:((i:Int) < (S.length:Int)) = True:=eq_true (by omega)
   have i2:((0:Int) ≤ (i:Int)) = True:=eq_true (by omega)
   have ht1:=htk i hiS
   have hb1:=hsub i
   have ho:=hone S[i] (List.getElem_mem _)
   obtain ⟨s,hs⟩:∃ s,s = S[i]:=⟨_,rfl⟩
   have hg:(S.map eS0)[i]? = some [.sl 1 (s.1.map eL),.sl 1 (s.2.map eL),.int 0]:=by rw [map_get hiS,hs];rfl
   rw [← hs] at ht1 ho
   obtain ⟨X,hX⟩:∃ X,X = (S.take i).flatMap (·.2):=⟨_,rfl⟩
   rw [← hX] at ht1 hb1 ⊢
   have hXm:(X.map eL).length = X.length:=List.length_map _
   have hsm:(s.2.map eL).length = s.2.length:=List.length_map _
   have q1:=big_le (n:=X.length + s.2.length) (by omega)
   have q2:=big_mul (n:=X.length + s.2.length) (c:=24) (by omega) (by omega)
   repeat' (first|with_reducible (first|refine Q1 ?_|refine Q2 ?_|refine Q3 ?_|refine Q4 ?_|refine Q5 ?_|refine Q6 ?_|refine Q7 ?_|refine Q8 ?_|refine Q9 ?_|refine Qa ?_|refine Qb ?_|refine Qc ?_|refine Qd ?_|refine Qe ?_|refine Qf ?_)|((with_reducible refine Qo ?_ ?_);focus rfl)|((with_reducible first|refine QT 15 (l:=?_) ?_ ?_|refine QF 15 (l:=?_) ?_ ?_);rotate_left 1;focus (simp only [Zu,Nat.reduceSub,Nat.reduceBEq];with_reducible rfl))|((with_reducible first|refine QS (cfg_ok 25) Tab.none (s':=?_) ?_ ?_|refine QC (b:=?_) ?_ ?_);rotate_left 1;focus ((with_reducible refine QW ?_);simp only [Zg,seval,if_true,if_false,reduceCtorEq,Nat.reduceEqDiff,i1,i2,hg,hXm,hsm,hSm,q1,q2,hw,Int.toNat_natCast];with_reducible rfl)))
   refine roundK.on (i + 1) ⟨hiS,by omega⟩ ?_
   rw [ht1,List.map_append,List.length_append]
   (repeat' (first|with_reducible refine Qn|((with_reducible refine Qr ?_ ?_);focus (first|with_reducible rfl|(simp only [Zz,Nat.reduceBEq];done)|rfl))|((with_reducible refine Qj (o':=?_) ?_ ?_ ?_);rotate_left 1;focus rfl)|((with_reducible refine Qw ?_ ?_);(focus (first|with_reducible rfl|(simp only [Zv];done)));focus (first|exact id|exact (fun h => nomatch h)|exact (fun _ => rfl)))))
  ·have i1:((i:Int) < (S.length:Int)) = False:=eq_false (by omega)
   obtain rfl:i = S.length:=by omega
   rw [List.take_length,← htr]
   repeat' (first|with_reducible (first|refine Q1 ?_|refine Q2 ?_|refine Q3 ?_|refine Q4 ?_|refine Q5 ?_|refine Q6 ?_|refine Q7 ?_|refine Q8 ?_|refine Q9 ?_|refine Qa ?_|refine Qb ?_|refine Qc ?_|refine Qd ?_|refine Qe ?_|refine Qf ?_)|((with_reducible refine Qo ?_ ?_);focus rfl)|((with_reducible first|refine QT 15 (l:=?_) ?_ ?_|refine QF 15 (l:=?_) ?_ ?_);rotate_left 1;focus (simp only [Zu,Nat.reduceSub,Nat.reduceBEq];with_reducible rfl))|((with_reducible first|refine QS (cfg_ok 25) Tab.none (s':=?_) ?_ ?_|refine QC (b:=?_) ?_ ?_);rotate_left 1;focus ((with_reducible refine QW ?_);simp only [Zg,seval,if_true,if_false,reduceCtorEq,Nat.reduceEqDiff,i1];with_reducible rfl)))
   refine roundK.out () trivial ?_
   (repeat' (first|with_reducible refine Qn|((with_reducible refine Qr ?_ ?_);focus (first|with_reducible rfl|(simp only [Zz,Nat.reduceBEq];done)|rfl))|((with_reducible refine Qj (o':=?_) ?_ ?_ ?_);rotate_left 1;focus rfl)|((with_reducible refine Qw ?_ ?_);(focus (first|with_reducible rfl|(simp only [Zv];done)));focus (first|exact id|exact (fun h => nomatch h)|exact (fun _ => rfl)))))
 ·rintro _ _
  repeat' (first|with_reducible (first|refine Q1 ?_|refine Q2 ?_|refine Q3 ?_|refine Q4 ?_|refine Q5 ?_|refine Q6 ?_|refine Q7 ?_|refine Q8 ?_|refine Q9 ?_|refine Qa ?_|refine Qb ?_|refine Qc ?_|refine Qd ?_|refine Qe ?_|refine Qf ?_)|((with_reducible refine Qo ?_ ?_);focus rfl)|((with_reducible first|refine QT 15 (l:=?_) ?_ ?_|refine QF 15 (l:=?_) ?_ ?_);rotate_left 1;focus (simp only [Zu,Nat.reduceSub,Nat.reduceBEq];with_reducible rfl))|((with_reducible first|refine QS (cfg_ok 25) (Tab.none.at' 82 hct) (s':=?_) ?_ ?_|refine QC (b:=?_) ?_ ?_);rotate_left 1;focus ((with_reducible refine QW ?_);simp only [Zg,seval,if_true,if_false,reduceCtorEq,Nat.reduceEqDiff,List.length_map];with_reducible rfl)))
  (refine Ends.mk (by simp) (rs:=?_) (ks:=?_) hres hrts ?_ ?_ ?_;rotate_left 2;(focus (simp only [Ze,Zg,seval,if_true,if_false,reduceCtorEq,Nat.reduceEqDiff];with_reducible rfl));(focus simp);focus (first|with_reducible rfl|(simp only [Zv];done)))
end Go.Proofs.YtgngidchldajhaaGreat
namespace Go.Proofs.YtgngidchldajhaaGreat
open Go.RowKit
section
variable {P:Program} {cfg:Cfg} {M:Nat→Prop} {T:Tab P} {s s':St} {fs:List Fr} {Q:Exit→St→Prop}
theorem RunK.regTag' (C:CfgOK P cfg) (T:Tab P) {id:Nat} {ops:Array Oper} (n key:Nat) {s1:St} {k:Nat} {xs:List (List D)} (ha:aopsT cfg T ops (ops.toList.take n) s = some s1) (hk:look key s1.heap = some (.row k xs true))
  (h:∀ xs' F,TagL xs xs' F→PlainL xs xs'→F.Nodup→(∀ b ∈ F,M b)→ROps P cfg M ops (ops.toList.drop n) (outK P cfg M fs Q .normal) ⟨s1.regs,insR key (.row k xs' false) s1.heap⟩):RunK P cfg M (.region id ops false) fs Q s:=by
 refine Runs.region ?_
 have e:ops.toList = ops.toList.take n ++ ops.toList.drop n:=(List.take_append_drop n _).symm
 have cut:∀ (l m:List Oper) (s:St),aopsT cfg T ops l s = some s1→ROps P cfg M ops m (outK P cfg M fs Q .normal) s1→ROps P cfg M ops (l ++ m) (outK P cfg M fs Q .normal) s:=by
  intro l
  induction l with
  | nil => intro m s h1 h2;simp only [aopsT,Option.some.injEq] at h1;subst h1;exact h2
  | cons o l ih =>
   intro m s h1 h2
   simp only [aopsT] at h1
   obtain ⟨s2,h3,h4⟩:=bind_some h1
   exact ROps.stepT C h3 (ih m s2 h4 h2)
 rw [e]
 refine cut _ _ s ha ?_
 intro w0 Ok σ a w Q' hM hS hQ
 obtain ⟨xs',F,h1,h5,h2,h3,h4⟩:=Sim.tagO' hS hk
 exact h xs' F h1 h5 h2 (fun b hb => hM ▸ h3 b hb) w0 Ok σ a w Q' hM h4 hQ
end
theorem sub_flatC {α:Type} {l1 l2:List (List α)} (h:l1.Sublist l2):l1.flatten.Sublist l2.flatten:=by
 induction h with
 | slnil => exact .slnil
 | cons a _ ih => rw [List.flatten_cons];exact ih.trans (List.sublist_append_right _ _)
 | cons_cons a _ ih => rw [List.flatten_cons,List.flatten_cons];exact List.Sublist.append (List.Sublist.refl _) ih
theorem a_notOne (f:List (List Int)) (t:List Int) (n:Int):AFn Tryz.prog 84 [[.sl 1 (f.map eL),.sl 1 (t.map eI),.int n]] (· = [.val (.bool (notOne ((f,t),n)))]):=by
 refine AFn.of_runs (cfg_ok 13) Tryz.func84 rfl rfl rfl (by simp only [List.length_cons,List.length_nil];decide) ?_
 have hres:Tryz.f84.results.toList = [.tmp 2]:=rfl
 have hrts:Tryz.f84.resultTypes.toList = [4]:=rfl
 simp only [argRegs,argAV1,eL,eI,eLL,eB,Nat.zero_add,Nat.reduceAdd]
 intro M
 refine RunK.of ?_
 by_cases h1:f.length = 1
 ·have i1:((f.length:Int) != 1) = false:=by simp;omega
  by_cases h2:t.length = 0
  ·have i2:((t.length:Int) == 0) = true:=beq_iff_eq.2 (by omega)
   have hn:notOne ((f,t),n) = true:=by unfold notOne;simp [h1,h2]
   repeat' (first|with_reducible (first|refine Q1 ?_|refine Q2 ?_|refine Q3 ?_|refine Q4 ?_|refine Q5 ?_|refine Q6 ?_|refine Q7 ?_|refine Q8 ?_|refine Q9 ?_|refine Qa ?_|refine Qb ?_|refine Qc ?_|refine Qd ?_|refine Qe ?_|refine Qf ?_)|((with_reducible refine Qo ?_ ?_);focus rfl)|((with_reducible first|refine QT 3 (l:=?_) ?_ ?_|refine QF 3 (l:=?_) ?_ ?_);rotate_left 1;focus (simp only [Zu,Nat.reduceSub,Nat.reduceBEq];with_reducible rfl))|((with_reducible first|refine QS (cfg_ok 13) Tab.none (s':=?_) ?_ ?_|refine QC (b:=?_) ?_ ?_);rotate_left 1;focus ((with_reducible refine QW ?_);simp only [Zg,seval,if_true,if_false,reduceCtorEq,Nat.reduceEqDiff,i1,i2,List.length_map];with_reducible rfl)))
   rw [hn]
   (refine Ends.mk (by simp) (rs:=?_) (ks:=?_) hres hrts ?_ ?_ ?_;rotate_left 2;(focus (simp only [Ze,Zg,seval,if_true,if_false,reduceCtorEq,Nat.reduceEqDiff];with_reducible rfl));(focus simp);focus (first|with_reducible rfl|(simp only [Zv];done)))
  ·have i2:((t.length:Int) == 0) = false:=beq_eq_false_iff_ne.2 (by omega)
   have hn:notOne ((f,t),n) = false:=by unfold notOne;simp [h1];simpa using h2
   repeat' (first|with_reducible (first|refine Q1 ?_|refine Q2 ?_|refine Q3 ?_|refine Q4 ?_|refine Q5 ?_|refine Q6 ?_|refine Q7 ?_|refine Q8 ?_|refine Q9 ?_|refine Qa ?_|refine Qb ?_|refine Qc ?_|refine Qd ?_|refine Qe ?_|refine Qf ?_)|((with_reducible refine Qo ?_ ?_);focus rfl)|((with_reducible first|refine QT 3 (l:=?_) ?_ ?_|refine QF 3 (l:=?_) ?_ ?_);rotate_left 1;focus (simp only [Zu,Nat.reduceSub,Nat.reduceBEq];with_reducible rfl))|((with_reducible first|refine QS (cfg_ok 13) Tab.none (s':=?_) ?_ ?_|refine QC (b:=?_) ?_ ?_);rotate_left 1;focus ((with_reducible refine QW ?_);simp only [Zg,seval,if_true,if_false,reduceCtorEq,Nat.reduceEqDiff,i1,i2,List.length_map];with_reducible rfl)))
   rw [hn]
   (refine Ends.mk (by simp) (rs:=?_) (ks:=?_) hres hrts ?_ ?_ ?_;rotate_left 2;(focus (simp only [Ze,Zg,seval,if_true,if_false,reduceCtorEq,Nat.reduceEqDiff];with_reducible rfl));(focus simp);focus (first|with_reducible rfl|(simp only [Zv];done)))
 ·have i1:((f.length:Int) != 1) = true:=by simp;omega
  have hn:notOne ((f,t),n) = true:=by unfold notOne;simp [h1]
  repeat' (first|with_reducible (first|refine Q1 ?_|refine Q2 ?_|refine Q3 ?_|refine Q4 ?_|refine Q5 ?_|refine Q6 ?_|refine Q7 ?_|refine Q8 ?_|refine Q9 ?_|refine Qa ?_|refine Qb ?_|refine Qc ?_|refine Qd ?_|refine Qe ?_|refine Qf ?_)|((with_reducible refine Qo ?_ ?_);focus rfl)|((with_reducible first|refine QT 3 (l:=?_) ?_ ?_|refine QF 3 (l:=?_) ?_ ?_);rotate_left 1;focus (simp only [Zu,Nat.reduceSub,Nat.reduceBEq];with_reducible rfl))|((with_reducible first|refine QS (cfg_ok 13) Tab.none (s':=?_) ?_ ?_|refine QC (b:=?_) ?_ ?_);rotate_left 1;focus ((with_reducible refine QW ?_);simp only [Zg,seval,if_true,if_false,reduceCtorEq,Nat.reduceEqDiff,i1,List.length_map];with_reducible rfl)))
  rw [hn]
  (refine Ends.mk (by simp) (rs:=?_) (ks:=?_) hres hrts ?_ ?_ ?_;rotate_left 2;(focus (simp only [Ze,Zg,seval,if_true,if_false,reduceCtorEq,Nat.reduceEqDiff];with_reducible rfl));(focus simp);focus (first|with_reducible rfl|(simp only [Zv];done)))
theorem a_impl_CutBranches (t:List Int):AFn Tryz.prog 20 [eL t] (· = [.own 3 ((cbOf t).1.map eK) true,.val (.int (cbOf t).2)]):=by
 have hl:=a_impl_IsLevels t
 simp only [eL] at hl
 unfold cbOf
 refine AFn.of_runs (cfg_ok 10) Tryz.func20 rfl rfl rfl (by simp only [List.length_cons,List.length_nil];decide) ?_
 have hres:Tryz.f20.results.toList = [.tmp 2,.tmp 3]:=rfl
 have hrts:Tryz.f20.resultTypes.toList = [26,2]:=rfl
 simp only [argRegs,argAV1,eL,eI,eLL,eB,Nat.zero_add,Nat.reduceAdd]
 intro M
 refine RunK.of ?_
 by_cases h8:lev8 t = true
 ·rw [h8] at hl
  have hc:AFn Tryz.prog 72 [eL t] (· = [.own 3 ((cutsL t).map eCu) true]):=a_cutsOf t (lev8_lev h8) (lev8_len h8)
  simp only [eL] at hc
  have hgood:=cuts_good (lev8_lev h8) (lev8_len h8)
  rw [if_pos h8]
  ((repeat' (first|with_reducible (first|refine Q1 ?_|refine Q2 ?_|refine Q3 ?_|refine Q4 ?_|refine Q5 ?_|refine Q6 ?_|refine Q7 ?_|refine Q8 ?_|refine Q9 ?_|refine Qa ?_|refine Qb ?_|refine Qc ?_|refine Qd ?_|refine Qe ?_|refine Qf ?_)|((with_reducible refine Qo ?_ ?_);focus rfl)|((with_reducible first|refine QT 4 (l:=?_) ?_ ?_|refine QF 4 (l:=?_) ?_ ?_);rotate_left 1;focus (simp only [Zu,Nat.reduceSub,Nat.reduceBEq];with_reducible rfl))|((with_reducible refine QC (b:=?_) ?_ ?_);rotate_left 1;focus ((with_reducible refine QW ?_);simp only [Zg,seval,if_true,if_false,reduceCtorEq,Nat.reduceEqDiff];with_reducible rfl))));((with_reducible refine QS (cfg_ok 10) Tab.none (s':=?_) ?_ ?_);rotate_left 1;focus ((with_reducible refine QW ?_);simp only [Zg,seval,if_true,if_false,reduceCtorEq,Nat.reduceEqDiff];with_reducible rfl));(repeat' (first|with_reducible (first|refine Q1 ?_|refine Q2 ?_|refine Q3 ?_|refine Q4 ?_|refine Q5 ?_|refine Q6 ?_|refine Q7 ?_|refine Q8 ?_|refine Q9 ?_|refine Qa ?_|refine Qb ?_|refine Qc ?_|refine Qd ?_|refine Qe ?_|refine Qf ?_)|((with_reducible refine Qo ?_ ?_);focus rfl)|((with_reducible first|refine QT 4 (l:=?_) ?_ ?_|refine QF 4 (l:=?_) ?_ ?_);rotate_left 1;focus (simp only [Zu,Nat.reduceSub,Nat.reduceBEq];with_reducible rfl))|((with_reducible refine QC (b:=?_) ?_ ?_);rotate_left 1;focus ((with_reducible refine QW ?_);simp only [Zg,seval,if_true,if_false,reduceCtorEq,Nat.reduceEqDiff];with_reducible rfl)))))
  ((repeat' (first|with_reducible (first|refine Q1 ?_|refine Q2 ?_|refine Q3 ?_|refine Q4 ?_|refine Q5 ?_|refine Q6 ?_|refine Q7 ?_|refine Q8 ?_|refine Q9 ?_|refine Qa ?_|refine Qb ?_|refine Qc ?_|refine Qd ?_|refine Qe ?_|refine Qf ?_)|((with_reducible refine Qo ?_ ?_);focus rfl)|((with_reducible first|refine QT 4 (l:=?_) ?_ ?_|refine QF 4 (l:=?_) ?_ ?_);rotate_left 1;focus (simp only [Zu,Nat.reduceSub,Nat.reduceBEq];with_reducible rfl))|((with_reducible refine QC (b:=?_) ?_ ?_);rotate_left 1;focus ((with_reducible refine QW ?_);simp only [Zg,seval,if_true,if_false,reduceCtorEq,Nat.reduceEqDiff];with_reducible rfl))));((with_reducible refine QS (cfg_ok 10) (Tab.none.at' 71 hl) (s':=?_) ?_ ?_);rotate_left 1;focus ((with_reducible refine QW ?_);simp only [Zg,seval,if_true,if_false,reduceCtorEq,Nat.reduceEqDiff];with_reducible rfl));(repeat' (first|with_reducible (first|refine Q1 ?_|refine Q2 ?_|refine Q3 ?_|refine Q4 ?_|refine Q5 ?_|refine Q6 ?_|refine Q7 ?_|refine Q8 ?_|refine Q9 ?_|refine Qa ?_|refine Qb ?_|refine Qc ?_|refine Qd ?_|refine Qe ?_|refine Qf ?_)|((with_reducible refine Qo ?_ ?_);focus rfl)|((with_reducible first|refine QT 4 (l:=?_) ?_ ?_|refine QF 4 (l:=?_) ?_ ?_);rotate_left 1;focus (simp only [Zu,Nat.reduceSub,Nat.reduceBEq];with_reducible rfl))|((with_reducible refine QC (b:=?_) ?_ ?_);rotate_left 1;focus ((with_reducible refine QW ?_);simp only [Zg,seval,if_true,if_false,reduceCtorEq,Nat.reduceEqDiff];with_reducible rfl)))))
  refine RunK.regTag' (cfg_ok 10) (Tab.none.at' 72 hc) 2 8 (k:=3) (xs:=(cutsL t).map eCu) (s1:=?_) ?_ ?_ ?_
  rotate_left 1
  focus (simp only [Zg,seval,if_true,if_false,reduceCtorEq,Nat.reduceEqDiff,eL,eI];with_reducible rfl)
  focus rfl
  intro xs' F hta hpl hnd hF
  obtain ⟨ps,e1,e2,e3'⟩:=tag_rows3 (fun c:Cu => c.1.1.map eL) (fun c => c.1.2.map eI) (·.2) hta hpl
  subst e2
  have hql:ps.length ≤ 1000000000:=by
   have h1:=congrArg List.length e1
   have h2:=hgood.1
   rw [List.length_map] at h1;omega
  have hdel:=a_DeleteFuncCu (e3T (fun c:Cu => c.1.1.map eL) (fun c => c.1.2.map eI) (·.2)) (fun q => .tag q.2.1 (.sl 1 (q.1.1.1.map eL))) (fun q => .tag q.2.2 (.sl 1 (q.1.1.2.map eI))) (·.1.2) (·.1.1.1) (·.1.1.2) (fun q => notOne q.1) 84 (fun _ => rfl) (fun _ => rfl) (fun _ => rfl) (fun q => a_notOne q.1.1.1 q.1.1.2 q.1.2) ps hql
  refine ROps.opsT (cfg_ok 10) (T:=Tab.none.own' 83 0 hdel) (s':=?_) ?_ ?_
  rotate_left 1
  focus (simp only [Zg,seval,if_true,if_false,reduceCtorEq,Nat.reduceEqDiff,Tab.own',atOwn_eq];with_reducible rfl)
  repeat' (first|with_reducible (first|refine Q1 ?_|refine Q2 ?_|refine Q3 ?_|refine Q4 ?_|refine Q5 ?_|refine Q6 ?_|refine Q7 ?_|refine Q8 ?_|refine Q9 ?_|refine Qa ?_|refine Qb ?_|refine Qc ?_|refine Qd ?_|refine Qe ?_|refine Qf ?_)|((with_reducible refine Qo ?_ ?_);focus rfl)|((with_reducible first|refine QT 4 (l:=?_) ?_ ?_|refine QF 4 (l:=?_) ?_ ?_);rotate_left 1;focus (simp only [Zu,Nat.reduceSub,Nat.reduceBEq];with_reducible rfl))|((with_reducible first|refine QS (cfg_ok 10) Tab.none (s':=?_) ?_ ?_|refine QC (b:=?_) ?_ ?_);rotate_left 1;focus ((with_reducible refine QW ?_);simp only [Zg,seval,if_true,if_false,reduceCtorEq,Nat.reduceEqDiff];with_reducible rfl)))
  obtain ⟨ks,hks⟩:∃ ks,ks = keepF (fun q:Cu × (List Nat × List Nat) => notOne q.1) ps:=⟨_,rfl⟩
  have hsub:ks.Sublist ps:=by rw [hks];exact List.filter_sublist
  have hx:(((cutsL t).filter (fun c => !notOne c)).map eK) = (ks.map (·.1)).map eCu:=by
   rw [hks,e1,List.filter_map];rfl
  refine Ends.un (by simp) hres hrts (r:=?_) (r':=.own 3 (((cutsL t).filter (fun c => !notOne c)).map eK) true) (l:=[.val (.int 0)]) (ks:=?_) ?_ ?_ (by simp [isSl]) ?_ rfl
  rotate_left 2
  focus (simp only [aresults,ares,Zg,seval,if_true,if_false,reduceCtorEq,Nat.reduceEqDiff];with_reducible rfl)
  focus simp
  rw [hx,← hks]
  have hsf:(ks.map bl3).flatten.Sublist (ps.map bl3).flatten:=sub_flatC (hsub.map _)
  refine ⟨(ks.map bl3).flatten,?_,fun b hb => hF b ?_,.inl ⟨3,_,_,rfl,rfl,tag_mk3 _ _ _ ks⟩⟩
  ·rw [e3'] at hnd
   exact hnd.sublist hsf
  ·rw [e3']
   exact hsf.subset hb
 ·have h8':lev8 t = false:=by simpa using h8
  rw [h8'] at hl
  rw [if_neg h8]
  repeat' (first|with_reducible (first|refine Q1 ?_|refine Q2 ?_|refine Q3 ?_|refine Q4 ?_|refine Q5 ?_|refine Q6 ?_|refine Q7 ?_|refine Q8 ?_|refine Q9 ?_|refine Qa ?_|refine Qb ?_|refine Qc ?_|refine Qd ?_|refine Qe ?_|refine Qf ?_)|((with_reducible refine Qo ?_ ?_);focus rfl)|((with_reducible first|refine QT 4 (l:=?_) ?_ ?_|refine QF 4 (l:=?_) ?_ ?_);rotate_left 1;focus (simp only [Zu,Nat.reduceSub,Nat.reduceBEq];with_reducible rfl))|((with_reducible first|refine QS (cfg_ok 10) (Tab.none.at' 71 hl) (s':=?_) ?_ ?_|refine QC (b:=?_) ?_ ?_);rotate_left 1;focus ((with_reducible refine QW ?_);simp only [Zg,seval,if_true,if_false,reduceCtorEq,Nat.reduceEqDiff];with_reducible rfl)))
  (refine Ends.mk (by simp) (rs:=?_) (ks:=?_) hres hrts ?_ ?_ ?_;rotate_left 2;(focus (simp only [Ze,Zg,seval,if_true,if_false,reduceCtorEq,Nat.reduceEqDiff];with_reducible rfl));(focus simp);focus (first|with_reducible rfl|(simp only [Zv];done)))
end Go.Proofs.YtgngidchldajhaaGreat
namespace Go.Proofs.YtgngidchldajhaaGreat
open Go.RowKit
def numITo (f:Nat) (t:List Int) (k step j:Nat):List Int:=((brs t).take j).foldl (fun out b => numStep k step out (numI f b k step)) (List.replicate k 1)
theorem numITo_succ (f:Nat) (t:List Int) (k step j:Nat) (h:j < (brs t).length):numITo f t k step (j + 1) = numStep k step (numITo f t k step j) (numI f (brs t)[j] k step):=by
 unfold numITo
 rw [List.take_succ_eq_append_getElem h,List.foldl_append];rfl
theorem numITo_all (f:Nat) (t:List Int) (k step j:Nat) (h:(brs t).length ≤ j):numITo f t k step j = numI (f + 1) t k step:=by
 unfold numITo
 rw [List.take_of_length_le h];rfl
theorem numITo_len (f:Nat) (t:List Int) (k step:Nat):∀ j,j ≤ (brs t).length→(numITo f t k step j).length = k
 | 0,_ => by simp [numITo]
 | j + 1,h => by rw [numITo_succ f t k step j h,numStep_len]
theorem numITo_in (f:Nat) (t:List Int) (k step:Nat):∀ j,j ≤ (brs t).length→∀ x ∈ numITo f t k step j,In64 x
 | 0,_ => by intro x hx;simp [numITo] at hx;rw [hx.2];decide
 | j + 1,h => by
  intro x hx
  rw [numITo_succ f t k step j h] at hx
  simp [numStep] at hx
  obtain ⟨_,_,rfl⟩:=hx
  exact in64_wrap _
theorem ones_set (k j:Nat) (h:j < k):(List.replicate j (1:Int) ++ List.replicate (k - j) 0).set j 1 = List.replicate (j + 1) 1 ++ List.replicate (k - (j + 1)) 0:=by
 rw [List.set_append_right _ _ (by simp),List.length_replicate,Nat.sub_self]
 obtain ⟨m,hm⟩:∃ m,k - j = m + 1:=⟨k - j - 1,by omega⟩
 rw [hm,show k - (j + 1) = m by omega,List.replicate_succ,List.set_cons_zero,List.replicate_succ',List.append_assoc]
 rfl
set_option maxRecDepth 100000 in
set_option maxHeartbeats 2000000 in
theorem c_impl_numberings (k step:Nat) (hk:k ≤ 10) (hg:step ≤ 1):∀ (f:Nat) (t:List Int) (v:Value) (w:World),Rd (RS RI) w [v] t→LevP t→t.length ≤ f→f ≤ 1000 →
  Calls Tryz.prog 154 #[v,.int .i64 k,.int .i64 step] w (RetO (RS RI) w (numI f t k step)):=by
 intro f
 induction f with
 | zero => intro t v w h hl hf;have:=hl.pos;omega
 | succ f ih =>
  intro t v w h hl hf hf1
  obtain ⟨oa,c1,hv,_,_⟩:=h.val
  subst hv
  have IH:=Lib.hid ih
  clear ih
  have hnb:=brs_many (t:=t)
  go_enter Tryz.func154,Tryz.ntmps154
  go_wp2_with (at_make;refine wpList_makeI rfl _ _ 24 rfl 2 tI64 _ _ _ _ k rfl rfl rfl rfl (by omega) ?_;intro w1 hrow0 hb)
  go_wp2_with fail
  go_loopw [19] (fun i wr => ∃ j:Nat,j ≤ k∧i = .int .i64 j∧Row wr (.slice (some ⟨w.heap.size,0,none⟩) k k) 1 k ((List.replicate j (1:Int) ++ List.replicate (k - j) 0).map (Value.int .i64)) (some w.heap.size)∧Below w.heap.size w wr) (fun i _ => k - (intOf i).toNat)
  case atStart => exact ⟨0,Nat.zero_le _,rfl,by simpa using hrow0,hb⟩
  case round =>
   obtain ⟨j,hj,rfl,hrow,hbel⟩:=hrel
   by_cases hlt:j < k
   ·have hfz:=hrow.frozen j
    have hx:j < (List.replicate j (1:Int) ++ List.replicate (k - j) 0).length:=by simp;omega
    have hcell:=hrow.cells j ((List.replicate j (1:Int) ++ List.replicate (k - j) 0)[j] |> Value.int .i64) (by rw [List.getElem?_map,List.getElem?_eq_getElem hx];rfl)
    have hst:=(hrow.store j (.int .i64 1)).1
    rw [map_set_int,ones_set k j hlt] at hst
    have hbel':Below w.heap.size w (wr.setCell ⟨w.heap.size,j,none⟩ (.int .i64 1)):=hbel.setCell (Nat.le_refl _) _
    generalize ((List.replicate j (1:Int) ++ List.replicate (k - j) 0)[j] |> Value.int .i64) = old at hcell
    go_wp2_with fail
    go_roundw
    case rel => exact ⟨j + 1,by omega,by go_num,hst,hbel'⟩
    case measure => simp [intOf];omega
   ·have hje:j = k:=by omega
    have hfin:Row wr (.slice (some ⟨w.heap.size,0,none⟩) k k) 1 k ((numITo f t k step 0).map (Value.int .i64)) (some w.heap.size):=by
     have e:List.replicate j (1:Int) ++ List.replicate (k - j) 0 = numITo f t k step 0:=by rw [hje];simp [numITo]
     rw [e] at hrow;exact hrow
    clear hje hrow
    go_wp2_with fail
    obtain ⟨wa,rfl⟩:∃ wa:World,wa = wr:=⟨_,rfl⟩
    have hsr:=hbel.size
    have hgl:=hfin.lt _ rfl
    refine (c_impl_branchesOf _ t wa (h.below hbel (Nat.le_refl _)) hl (by omega)).mono ?_
    rintro e w2 ⟨vb,rfl,ob,B2⟩
    have s2:=B2.size
    obtain ⟨oa2,c2,rfl,hc2,hc3⟩:=ob.val
    have hfin2:=hfin.frame (w':=w2) (fun g hg => by cases hg;exact B2.block _ hgl)
    have hbel2:=hbel.trans (B2.mono hsr)
    go_wp2_with fail
    go_loopw [29] (fun i wq => ∃ q:Nat,q ≤ (brs t).length∧i = .int .i64 q∧Row wq (.slice (some ⟨w.heap.size,0,none⟩) k k) 1 k ((numITo f t k step q).map (Value.int .i64)) (some w.heap.size)∧Own (RS (RS RI)) wa.heap.size w2.heap.size wq [.slice oa2 (brs t).length c2] (brs t)∧Below w.heap.size w wq∧w2.heap.size ≤ wq.heap.size) (fun i _ => (brs t).length - (intOf i).toNat)
    case atStart => exact ⟨0,Nat.zero_le _,rfl,hfin2,ob,hbel2,by omega⟩
    case round =>
     obtain ⟨q,hq,rfl,hrowq,hob,hbelq,hszq⟩:=hrel
     obtain ⟨wo,rfl⟩:∃ wo:World,wo = wr:=⟨_,rfl⟩
     by_cases hlq:q < (brs t).length
     ·have hsucc:=Lib.hid (numITo_succ f t k step q hlq)
      have hlen:=Lib.hid (numITo_len f t k step q hq)
      have hlen1:=Lib.hid (numITo_len f t k step (q + 1) hlq)
      have hbl:=brs_lev hl _ (List.getElem_mem hlq)
      have hbs:=brs_short hl _ (List.getElem_mem hlq)
      obtain ⟨g,cap,h0,hv,_,_,hg1,hg2,hcell,hel⟩:=hob.elem q hlq
      simp only [Value.slice.injEq,true_and] at hv
      obtain ⟨rfl,rfl⟩:=hv
      go_wp2_with fail
      refine (IH.out _ h0 _ hel.rd hbl (by omega) (by omega)).mono ?_
      rintro e w3 ⟨vl,rfl,ol,B3⟩
      have s3:=B3.size
      obtain ⟨oa3,c3,hvl,_,_⟩:=ol.val
      rw [numI_len] at hvl
      subst hvl
      have hrow3:=hrowq.frame (w':=w3) (fun g hg => by cases hg;exact B3.block _ (by omega))
      have hob3:=hob.below B3 (by omega)
      have hbel3:=hbelq.trans (B3.mono (by omega))
      go_wp2_with fail
      go_loopw [39] (fun i wx => ∃ x:Nat,x ≤ k∧i = .int .i64 x∧Row wx (.slice (some ⟨w.heap.size,0,none⟩) k k) 1 k (((numITo f t k step (q + 1)).take x ++ (numITo f t k step q).drop x).map (Value.int .i64)) (some w.heap.size)∧Own (RS RI) wo.heap.size w3.heap.size wx [.slice oa3 k c3] (numI f (brs t)[q] k step)∧Own (RS (RS RI)) wa.heap.size w2.heap.size wx [.slice (some ⟨g,0,none⟩) (brs t).length c2] (brs t)∧Below w.heap.size w wx∧w3.heap.size ≤ wx.heap.size) (fun i _ => k - (intOf i).toNat)
      case atStart => exact ⟨0,Nat.zero_le _,rfl,by simpa using hrow3,ol,hob3,hbel3,by omega⟩
      case round =>
       obtain ⟨x,hx,rfl,hrowx,holx,hobx,hbelx,hszx⟩:=hrel
       obtain ⟨wo2,rfl⟩:∃ wo2:World,wo2 = wr:=⟨_,rfl⟩
       by_cases hlx:x < k
       ·obtain ⟨oai,ci,I⟩:=holx.rd.ints
        have hvi:=I.val
        rw [numI_len] at hvi
        simp only [Value.slice.injEq,true_and] at hvi
        obtain ⟨rfl,rfl⟩:=hvi
        have hll:=numI_len f (brs t)[q] k step
        obtain ⟨bl,ofl,rfl,hbl1,hcl⟩:=I.get (k:=x) (by rw [hll];exact hlx)
        have Hll:=Lib.hid hll
        have HCL:=Lib.hid hcl
        clear hll hcl
        go_wp2_with fail
        go_loop [13,14] (fun s y => ∃ m:Nat,y = .int .i64 (x + step + m)∧m ≤ k - (x + step)∧s = .int .i64 (sumW (((numI f (brs t)[q] k step).drop (x + step)).take m))) (fun _ y => 100 - (intOf y).toNat)
        case atStart => exact ⟨0,by simp,Nat.zero_le _,rfl⟩
        case round =>
         obtain ⟨m,rfl,hm,rfl⟩:=hrel
         by_cases hly:x + step + m < k
         ·have hle:(x:Int) + (step:Int) + (m:Int) < (k:Int):=by omega
          have hge:(0:Int) ≤ (x:Int) + (step:Int) + (m:Int):=by omega
          have hc:=HCL.out (x + step + m) (by rw [Hll.out];exact hly)
          have ht:((x:Int) + (step:Int) + (m:Int)).toNat = x + step + m:=by omega
          have hxl:x + step + m < (numI f (brs t)[q] k step).length:=by rw [Hll.out];exact hly
          have hsum:Hid (sumW (((numI f (brs t)[q] k step).drop (x + step)).take (m + 1)) = wrap64 (sumW (((numI f (brs t)[q] k step).drop (x + step)).take m) + (numI f (brs t)[q] k step)[x + step + m])):=by
           show sumW _ = _
           rw [List.take_succ_eq_append_getElem (by simp;omega),sumW_snoc]
           simp
          go_wp2_with fail
          go_round
          case rel => exact ⟨m + 1,by go_num,by omega,by rw [hsum.out]⟩
          case measure => simp [intOf];omega
         ·have hle:¬ ((x:Int) + (step:Int) + (m:Int) < (k:Int)):=by omega
          have hlenq:=hlen.out
          have hlen1q:=hlen1.out
          have hxq:x < (numITo f t k step q).length:=by rw [hlenq];exact hlx
          have hxq1:x < (numITo f t k step (q + 1)).length:=by rw [hlen1q];exact hlx
          have hxa:x < ((numITo f t k step (q + 1)).take x ++ (numITo f t k step q).drop x).length:=by simp;omega
          have hval:((numITo f t k step (q + 1)).take x ++ (numITo f t k step q).drop x)[x] = (numITo f t k step q)[x]:=by
           rw [List.getElem_append_right (by simp;omega)]
           simp
           congr 1
           simp;omega
          have hnew:(numITo f t k step (q + 1))[x] = wrap64 ((numITo f t k step q)[x] * sumW (((numI f (brs t)[q] k step).drop (x + step)).take m)):=by
           have e:=hsucc.out
           have e2:(numITo f t k step (q + 1))[x] = (numStep k step (numITo f t k step q) (numI f (brs t)[q] k step))[x]'(by rw [numStep_len];exact hlx):=by simp only [e]
           rw [e2]
           have e3:((numI f (brs t)[q] k step).drop (x + step)).take m = (numI f (brs t)[q] k step).drop (x + step):=List.take_of_length_le (by simp;rw [Hll.out];omega)
           rw [e3]
           simp [numStep,hxq]
          have hcell2:=hrowx.cells x (.int .i64 (numITo f t k step q)[x]) (by rw [List.getElem?_map,List.getElem?_eq_getElem hxa,hval];rfl)
          have hfz:=hrowx.frozen x
          have hst:=(hrowx.store x (.int .i64 (numITo f t k step (q + 1))[x])).1
          rw [map_set_int,set_take _ _ _ hxq1 hxq] at hst
          have hch:Chg w.heap.size (w.heap.size + 1) wo2 (wo2.setCell ⟨w.heap.size,x,none⟩ (.int .i64 (numITo f t k step (q + 1))[x])):=Chg.of_grown (hrowx.store x (.int .i64 (numITo f t k step (q + 1))[x])).2 (fun g hg => by cases hg;omega)
          have hol':=holx.apart hch (by omega)
          have hob':=hobx.apart hch (by omega)
          have hbel':Below w.heap.size w (wo2.setCell ⟨w.heap.size,x,none⟩ (.int .i64 (numITo f t k step (q + 1))[x])):=hbelx.setCell (Nat.le_refl _) _
          have hsz':=hch.size
          rw [hnew] at hst hol' hob' hbel' hsz'
          clear hch hval hnew hlenq hlen1q
          go_wp2_with fail
          go_roundw
          case rel => exact ⟨x + 1,by omega,by go_num,hst,hol',hob',hbel',by omega⟩
          case measure => simp [intOf];omega
       ·have hxe:x = k:=by omega
        have hfinx:Row wo2 (.slice (some ⟨w.heap.size,0,none⟩) k k) 1 k ((numITo f t k step (q + 1)).map (Value.int .i64)) (some w.heap.size):=by
         have e:(numITo f t k step (q + 1)).take x ++ (numITo f t k step q).drop x = numITo f t k step (q + 1):=by
          rw [List.take_of_length_le (by rw [hlen1.out];omega),List.drop_of_length_le (by rw [hlen.out];omega),List.append_nil]
         rw [e] at hrowx;exact hrowx
        clear hxe hrowx
        go_wp2_with fail
        go_roundw
        case rel => exact ⟨q + 1,by omega,by go_num,hfinx,hobx,hbelx,by omega⟩
        case measure => simp [intOf];omega
     ·have hfinq:Own (RS RI) w.heap.size wo.heap.size wo [.slice (some ⟨w.heap.size,0,none⟩) k k] (numI (f + 1) t k step):=by
       have e:=numITo_all f t k step q (by omega)
       rw [← e]
       have hl2:=numITo_len f t k step q hq
       have hr:Row wo (.slice (some ⟨w.heap.size,0,none⟩) k k) 1 (numITo f t k step q).length ((numITo f t k step q).map (Value.int .i64)) (some w.heap.size):=by rw [hl2];exact hrowq
       exact hr.OwnI (numITo_in f t k step q hq) (fun g hg => by cases hg;exact Nat.le_refl _)
      go_wp2_with fail
      go_ret
      exact ⟨_,rfl,hfinq,hbelq⟩
end Go.Proofs.YtgngidchldajhaaGreat
namespace Go.Proofs.YtgngidchldajhaaGreat
open Go.RowKit
theorem lev8_levN {t:List Int} (h:lev8 t = true):LevP t∧t.length ≤ 8:=by
 unfold lev8 levB at h
 simp at h
 exact ⟨h.2,h.1⟩
theorem sumW_take_succ (l:List Int) (i:Nat) (h:i < l.length):sumW (l.take (i + 1)) = wrap64 (sumW (l.take i) + l[i]):=by
 rw [List.take_succ_eq_append_getElem h,sumW_snoc]
set_option maxHeartbeats 1000000 in
theorem c_impl_countNumberings (gap:Nat) (hg:gap ≤ 1) (v:Value) (k:Int) (t:List Int) (w:World) (h:Rd (RS RI) w [v] t) (hk:In64 k) :
  Calls Tryz.prog 80 #[v,.int .i64 k,.int .i64 gap] w (RetV w (.tuple #[.int .i64 (countNum t k gap).1,.int .i64 (countNum t k gap).2])):=by
 cases h8:lev8 t
 ·have e:countNum t k gap = (0,1):=by unfold countNum;rw [h8];rfl
  rw [e]
  go_enter Tryz.func80,Tryz.ntmps80
  go_wp2_with (go_at_call 71;refine (c_impl_IsLevels _ t _ h).mono ?_;rintro e w' ⟨rfl,rfl⟩)
  go_ret2
  exact ⟨rfl,Below.refl _ _⟩
 ·cases hr:inR k 0 10
  ·have e:countNum t k gap = (0,2):=by unfold countNum;rw [h8,hr];rfl
   rw [e]
   go_enter Tryz.func80,Tryz.ntmps80
   go_wp2_with (first|(go_at_call 71;refine (c_impl_IsLevels _ t _ h).mono ?_;rintro e w' ⟨rfl,rfl⟩)|(go_at_call 137;refine (c_impl_inRange _ _ _ _).mono ?_;rintro e w' ⟨rfl,rfl⟩))
   go_ret2
   exact ⟨rfl,Below.refl _ _⟩
  ·obtain ⟨n,rfl,hn⟩:∃ n:Nat,k = n∧n ≤ 10:=by
    simp [inR] at hr
    exact ⟨k.toNat,by omega,by omega⟩
   have e:countNum t n gap = (sumW (numI 9 t n gap),0):=by unfold countNum;rw [h8,hr];simp
   rw [e]
   obtain ⟨hl,hl8⟩:=lev8_levN h8
   have E:=Lib.hid e
   clear e
   go_enter Tryz.func80,Tryz.ntmps80
   go_wp2_with (first|(go_at_call 71;refine (c_impl_IsLevels _ t _ h).mono ?_;rintro e w' ⟨rfl,rfl⟩)|(go_at_call 137;refine (c_impl_inRange _ _ _ _).mono ?_;rintro e w' ⟨rfl,rfl⟩))
   refine (c_impl_numberings n gap hn hg 9 t v w h hl (by omega) (by omega)).mono ?_
   rintro e w1 ⟨vl,rfl,ol,B1⟩
   obtain ⟨oai,ci,I⟩:=ol.rd.ints
   have hvi:=I.val
   rw [numI_len] at hvi
   subst hvi
   have hll:=numI_len 9 t n gap
   have hcl:=I.le
   have hcc:=I.capLe
   unfold maxLen at hcc
   go_wp2_with fail
   go_loop [8,24] (fun s i => ∃ j:Nat,j ≤ n∧i = .int .i64 j∧s = .int .i64 (sumW ((numI 9 t n gap).take j))) (fun _ i => n - (intOf i).toNat)
   case atStart => exact ⟨0,Nat.zero_le _,rfl,rfl⟩
   case round =>
    obtain ⟨j,hj,rfl,rfl⟩:=hrel
    by_cases hlt:j < n
    ·have hjl:j < (numI 9 t n gap).length:=by rw [hll];exact hlt
     obtain ⟨bl,ofl,rfl,hbl1,hc⟩:=I.get hjl
     have g:=hc j hjl
     have hs:=Lib.hid (sumW_take_succ (numI 9 t n gap) j hjl)
     clear hc hll
     go_wp2_with fail
     go_round
     case rel => exact ⟨j + 1,by omega,by go_num,by rw [hs.out]⟩
     case measure => simp [intOf];omega
    ·have hf:sumW ((numI 9 t n gap).take j) = sumW (numI 9 t n gap):=by rw [List.take_of_length_le (by rw [hll];omega)]
     have HF:=Lib.hid hf
     clear hf hll
     go_wp2_with fail
     go_ret2
     exact ⟨by rw [← HF.out];rfl,B1⟩
set_option maxHeartbeats 400000 in
theorem k_impl_CountRising (v:Value) (k:Int) (t:List Int) (w:World) (h:Rd (RS RI) w [v] t) (hk:In64 k) :
  Calls Tryz.prog 18 #[v,.int .i64 k] w (RetV w (.tuple #[.int .i64 (countNum t k 0).1,.int .i64 (countNum t k 0).2])):=by
 go_enter Tryz.func18,Tryz.ntmps18
 go_wp2_with fail
 refine (c_impl_countNumberings 0 (by omega) v k t w h hk).mono ?_
 rintro e w1 ⟨rfl,B1⟩
 go_wp2_with fail
 go_ret2
 exact ⟨rfl,B1⟩
end Go.Proofs.YtgngidchldajhaaGreat
namespace Go.Proofs.YtgngidchldajhaaGreat
open Go.RowKit
theorem countNum_in64 (t:List Int) (k:Int) (g:Nat):In64 (countNum t k g).1∧In64 (countNum t k g).2:=by
 unfold countNum
 have hs:∀ l:List Int,In64 (sumW l):=by
  intro l
  unfold sumW
  have:∀ (l:List Int) (a:Int),In64 a→In64 (l.foldl (fun a b => wrap64 (a + b)) a):=by
   intro l
   induction l with
   | nil => intro a h;exact h
   | cons b l ih => intro a _;exact ih _ (by show In64 (wrap64 (a + b));unfold In64 wrap64;omega)
  exact this l 0 (by unfold In64;omega)
 split
 ·split
  ·exact ⟨hs _,by unfold In64;omega⟩
  ·exact ⟨by unfold In64;omega,by unfold In64;omega⟩
 ·exact ⟨by unfold In64;omega,by unfold In64;omega⟩
theorem a_CountRising (t:List Int) (k:Int) (hk:In64 k):AFn Tryz.prog 18 [eL t,eI k] (· = [.val (.int (countNum t k 0).1),.val (.int (countNum t k 0).2)]) :=
 AFn.of_v2 (enters_of Tryz.func18 rfl rfl) (fun _ _ => rdV_int.2 ⟨rfl,(countNum_in64 t k 0).1⟩) (fun _ _ => rdV_int.2 ⟨rfl,(countNum_in64 t k 0).2⟩) (fun w A vs ⟨v1,_,e1,h1,v2,_,e2,h2,e3⟩ => by
  subst e3;subst e2;subst e1
  rw [arg_int h2]
  exact k_impl_CountRising v1 k t w (Rd.of (rd1 h1)) hk)
end Go.Proofs.YtgngidchldajhaaGreat
namespace Go.Proofs.YtgngidchldajhaaGreat
open Go.RowKit
set_option maxRecDepth 100000 in
set_option maxHeartbeats 2000000 in
theorem k_impl_CountCutsTo (v0 v1 v2:Value) (t a b:List Int) (w:World) (h0:Rd (RS RI) w [v0] t) (h1:Rd (RS RI) w [v1] a) (h2:Rd (RS RI) w [v2] b) :
  Calls Tryz.prog 23 #[v0,v1,v2] w (RetV w (.tuple #[.int .i64 (cctOf t a b).1,.int .i64 (cctOf t a b).2])):=by
 have hal:=c_impl_areLevels (.slice (some ⟨w.heap.size,0,none⟩) 3 3) [t,a,b] (w.alloc (.cells #[v0,v1,v2] 24))
  (Rd.lit (ds:=[v0,v1,v2]) (xs:=[t,a,b]) ⟨[v0],[v1,v2],rfl,h0,⟨[v1],[v2],rfl,h1,rdL.single h2⟩⟩ rfl (by show 3 ≤ maxLen;decide))
 simp only [List.all_cons,List.all_nil,Bool.and_true] at hal
 rw [← Bool.and_assoc] at hal
 have hb0:Below w.heap.size w (w.alloc (.cells #[v0,v1,v2] 24)):=(Below.refl _ _).alloc (Nat.le_refl _) _
 obtain ⟨oa0,c0,rfl,m1,m2⟩:=h0.val
 obtain ⟨oa1,c1,rfl,m3,m4⟩:=h1.val
 obtain ⟨oa2,c2,rfl,m5,m6⟩:=h2.val
 unfold maxLen at m2
 cases hall:lev8 t && lev8 a && lev8 b
 ·have hr:=Lib.hid (cctOf_bad hall)
  rw [hall] at hal
  go_enter Tryz.func23,Tryz.ntmps23
  go_wp2_with (go_at_call 88;refine hal.mono ?_;rintro e w' ⟨rfl,rfl⟩)
  go_ret2
  exact ⟨by rw [hr.out];rfl,hb0⟩
 ·have hr:=Lib.hid (cctOf_ok hall)
  rw [hall] at hal
  simp only [Bool.and_eq_true] at hall
  obtain ⟨⟨p1,p2⟩,p3⟩:=hall
  have hl8:=lev8_len p1
  have HCT:Hid (∀ W v,Rd (RS RI) W [v] t→Calls Tryz.prog 79 #[v] W (RetO (RS RI) W (canon t))):=Lib.hid (fun W v r => c_impl_canonical 13 v t W r (lev8_lev p1) (by omega) (by omega))
  have HCA:Hid (∀ W v,Rd (RS RI) W [v] a→Calls Tryz.prog 79 #[v] W (RetO (RS RI) W (canon a))):=Lib.hid (fun W v r => c_impl_canonical 13 v a W r (lev8_lev p2) (by have:=lev8_len p2;omega) (by have:=lev8_len p2;omega))
  have HCB:Hid (∀ W v,Rd (RS RI) W [v] b→Calls Tryz.prog 79 #[v] W (RetO (RS RI) W (canon b))):=Lib.hid (fun W v r => c_impl_canonical 13 v b W r (lev8_lev p3) (by have:=lev8_len p3;omega) (by have:=lev8_len p3;omega))
  have hcc:=canon_len (lev8_lev p1)
  have hcan:=cntTo_canon p1 (canon a,canon b)
  have hc8:=lev8_canon p1
  obtain ⟨ct,hct⟩:∃ ct,ct = canon t:=⟨_,rfl⟩
  rw [← hct] at HCT hcc hcan hc8
  have HCU:Hid (∀ (W:World) (v:Value) (m:Nat),Rd (RS RI) W [v] ct→0 < m→m < t.length→Calls Tryz.prog 89 #[v,.int .i64 m] W (RetOO (RS RI) (RS RI) W (canon (cutT ct m)) (canon (cutB ct m)))):=Lib.hid (fun W v m r q1 q2 => c_impl_cutAbove v ct m W r hc8 q1 (by omega))
  obtain ⟨ca,hca⟩:∃ ca,ca = canon a:=⟨_,rfl⟩
  obtain ⟨cb,hcb⟩:∃ cb,cb = canon b:=⟨_,rfl⟩
  rw [← hca,← hcb] at hcan hr
  rw [← hca] at HCA
  rw [← hcb] at HCB
  have H1:=Lib.hid h1
  have H2:=Lib.hid h2
  have HCAN:=Lib.hid hcan
  have hpos:=(lev8_lev p1).pos
  obtain ⟨tl,htl⟩:∃ tl,tl = t.length:=⟨_,rfl⟩
  rw [← htl] at m1 hl8 HCU hpos hal h0 hb0
  have H0:=Lib.hid h0
  rw [← htl]
  have HTL:=Lib.hid htl
  clear hct hca hcb h0 h1 h2 hcan htl p1 p2 p3 hcc hc8
  go_enter Tryz.func23,Tryz.ntmps23
  go_wp2_with (go_at_call 88;refine hal.mono ?_;rintro e w' ⟨rfl,rfl⟩)
  go_loopw [8,9] (fun c i wr => ∃ (k:Nat),k + 1 ≤ tl∧i = .int .i64 (k + 1:Nat)∧c = .int .i64 (cntTo ct (ca,cb) k:Nat)∧Below w.heap.size w wr) (fun _ i _ => tl - (intOf i).toNat)
  case atStart => exact ⟨0,hpos,rfl,rfl,by assumption⟩
  case round =>
   obtain ⟨k,hk,rfl,rfl,hbel⟩:=hrel
   have hsz1:=hbel.size
   have hle:=cntTo_le ct (ca,cb) k
   by_cases hlt:k + 1 < tl
   ·have hnx:cntTo ct (ca,cb) (k + 1) = cntTo ct (ca,cb) k + (if cutAt ct (k + 1) = (ca,cb) then 1 else 0):=rfl
    have hcu:=fun (W:World) (v:Value) (r:Rd (RS RI) W [v] ct) => HCU.out W v (k + 1) r (by omega) hlt
    obtain ⟨x,hx⟩:∃ x,x = canon (cutT ct (k + 1)):=⟨_,rfl⟩
    obtain ⟨y,hy⟩:∃ y,y = canon (cutB ct (k + 1)):=⟨_,rfl⟩
    have hxy:cutAt ct (k + 1) = (x,y):=by rw [hx,hy];rfl
    rw [hxy] at hnx
    rw [← hx,← hy] at hcu
    have HCU2:=Lib.hid hcu
    obtain ⟨n,hn⟩:∃ n,n = cntTo ct (ca,cb) k:=⟨_,rfl⟩
    rw [← hn] at hnx hle
    rw [← hn]
    obtain ⟨m,hm⟩:∃ m,m = k + 1:=⟨_,rfl⟩
    rw [← hm] at hlt HCU2 hnx
    rw [← hm]
    have HM:=Lib.hid hm
    clear hx hy hxy hcu hn hm
    by_cases e1:x = ca
    ·have d1:decide (x = ca) = true:=decide_eq_true e1
     have EQ1:Hid (∀ W v1 v2,Rd (RS RI) W [v1] x→Rd (RS RI) W [v2] ca→Calls Tryz.prog 87 #[v1,v2] W (RetQ W (.bool true))):=Lib.hid (fun W v1 v2 r1 r2 => by have:=c_slicesEqual v1 v2 x ca W r1 r2;rw [d1] at this;exact this)
     clear d1
     by_cases e2:y = cb
     ·have d2:decide (y = cb) = true:=decide_eq_true e2
      have EQ2:Hid (∀ W v1 v2,Rd (RS RI) W [v1] y→Rd (RS RI) W [v2] cb→Calls Tryz.prog 87 #[v1,v2] W (RetQ W (.bool true))):=Lib.hid (fun W v1 v2 r1 r2 => by have:=c_slicesEqual v1 v2 y cb W r1 r2;rw [d2] at this;exact this)
      have HN:Hid (cntTo ct (ca,cb) m = n + 1):=Lib.hid (by rw [hnx,e1,e2];simp)
      clear d2 hnx e1 e2
      go_wp2_with fail
      refine (HCT.out _ _ (H0.out.below hbel (Nat.le_refl _))).mono ?_
      rintro e w1 ⟨u1,rfl,o1,b1⟩
      go_wp2_with fail
      refine (HCU2.out _ _ o1.rd).mono ?_
      rintro e w2 ⟨ua,ub,mid,rfl,⟨q1,q2⟩,o2a,o2b,b2⟩
      have bb2:=hbel.trans ((b1.trans (b2.mono b1.size)).mono hsz1)
      go_wp2_with fail
      refine (HCA.out _ _ (H1.out.below bb2 (Nat.le_refl _))).mono ?_
      rintro e w3 ⟨u3,rfl,o3,b3⟩
      go_wp2_with fail
      refine (EQ1.out _ _ _ ((o2a.below b3 q2).rd) o3.rd).mono ?_
      rintro e w4 ⟨rfl,nd,rfl⟩
      have bb3:=(bb2.trans (b3.mono bb2.size)).trans (Below.drewN _ w3 nd)
      go_wp2_with fail
      refine (HCB.out _ _ (H2.out.below bb3 (Nat.le_refl _))).mono ?_
      rintro e w5 ⟨u5,rfl,o5,b5⟩
      go_wp2_with fail
      refine (EQ2.out _ _ _ (((o2b.below b3 (Nat.le_refl _)).of_heap (w':=w3.drewN nd) rfl |>.below b5 b3.size).rd) o5.rd).mono ?_
      rintro e w6 ⟨rfl,nd2,rfl⟩
      have bb5:=(bb3.trans (b5.mono bb3.size)).trans (Below.drewN _ w5 nd2)
      go_wp2_with fail
      go_roundw
      case rel => exact ⟨m,by omega,by go_num,by rw [HN.out];go_num,bb5⟩
      case measure => simp [intOf];omega
     ·have d2:decide (y = cb) = false:=decide_eq_false e2
      have EQ2:Hid (∀ W v1 v2,Rd (RS RI) W [v1] y→Rd (RS RI) W [v2] cb→Calls Tryz.prog 87 #[v1,v2] W (RetQ W (.bool false))):=Lib.hid (fun W v1 v2 r1 r2 => by have:=c_slicesEqual v1 v2 y cb W r1 r2;rw [d2] at this;exact this)
      have HN:Hid (cntTo ct (ca,cb) m = n):=Lib.hid (by rw [hnx,if_neg (fun h => e2 (by cases h;rfl))];rfl)
      clear d2 hnx e1 e2
      go_wp2_with fail
      refine (HCT.out _ _ (H0.out.below hbel (Nat.le_refl _))).mono ?_
      rintro e w1 ⟨u1,rfl,o1,b1⟩
      go_wp2_with fail
      refine (HCU2.out _ _ o1.rd).mono ?_
      rintro e w2 ⟨ua,ub,mid,rfl,⟨q1,q2⟩,o2a,o2b,b2⟩
      have bb2:=hbel.trans ((b1.trans (b2.mono b1.size)).mono hsz1)
      go_wp2_with fail
      refine (HCA.out _ _ (H1.out.below bb2 (Nat.le_refl _))).mono ?_
      rintro e w3 ⟨u3,rfl,o3,b3⟩
      go_wp2_with fail
      refine (EQ1.out _ _ _ ((o2a.below b3 q2).rd) o3.rd).mono ?_
      rintro e w4 ⟨rfl,nd,rfl⟩
      have bb3:=(bb2.trans (b3.mono bb2.size)).trans (Below.drewN _ w3 nd)
      go_wp2_with fail
      refine (HCB.out _ _ (H2.out.below bb3 (Nat.le_refl _))).mono ?_
      rintro e w5 ⟨u5,rfl,o5,b5⟩
      go_wp2_with fail
      refine (EQ2.out _ _ _ (((o2b.below b3 (Nat.le_refl _)).of_heap (w':=w3.drewN nd) rfl |>.below b5 b3.size).rd) o5.rd).mono ?_
      rintro e w6 ⟨rfl,nd2,rfl⟩
      have bb5:=(bb3.trans (b5.mono bb3.size)).trans (Below.drewN _ w5 nd2)
      go_wp2_with fail
      go_roundw
      case rel => exact ⟨m,by omega,by go_num,by rw [HN.out],bb5⟩
      case measure => simp [intOf];omega
    ·have d1:decide (x = ca) = false:=decide_eq_false e1
     have EQ1:Hid (∀ W v1 v2,Rd (RS RI) W [v1] x→Rd (RS RI) W [v2] ca→Calls Tryz.prog 87 #[v1,v2] W (RetQ W (.bool false))):=Lib.hid (fun W v1 v2 r1 r2 => by have:=c_slicesEqual v1 v2 x ca W r1 r2;rw [d1] at this;exact this)
     have HN:Hid (cntTo ct (ca,cb) m = n):=Lib.hid (by rw [hnx,if_neg (fun h => e1 (by cases h;rfl))];rfl)
     clear d1 hnx e1
     go_wp2_with fail
     refine (HCT.out _ _ (H0.out.below hbel (Nat.le_refl _))).mono ?_
     rintro e w1 ⟨u1,rfl,o1,b1⟩
     go_wp2_with fail
     refine (HCU2.out _ _ o1.rd).mono ?_
     rintro e w2 ⟨ua,ub,mid,rfl,⟨q1,q2⟩,o2a,o2b,b2⟩
     have bb2:=hbel.trans ((b1.trans (b2.mono b1.size)).mono hsz1)
     go_wp2_with fail
     refine (HCA.out _ _ (H1.out.below bb2 (Nat.le_refl _))).mono ?_
     rintro e w3 ⟨u3,rfl,o3,b3⟩
     go_wp2_with fail
     refine (EQ1.out _ _ _ ((o2a.below b3 q2).rd) o3.rd).mono ?_
     rintro e w4 ⟨rfl,nd,rfl⟩
     have bb3:=(bb2.trans (b3.mono bb2.size)).trans (Below.drewN _ w3 nd)
     go_wp2_with fail
     go_roundw
     case rel => exact ⟨m,by omega,by go_num,by rw [HN.out],bb3⟩
     case measure => simp [intOf];omega
   ·have hkk:k = tl - 1:=by omega
    have HF:Hid (cntTo ct (ca,cb) k = cntTo t (ca,cb) (tl - 1)):=Lib.hid (by have:=HCAN.out;rw [← HTL.out] at this;rw [hkk];exact this)
    have HR:Hid (cctOf t a b = (((cntTo t (ca,cb) (tl - 1):Nat):Int),(0:Int))):=Lib.hid (by rw [hr.out,HTL.out])
    clear hkk
    go_wp2_with fail
    go_ret2
    exact ⟨by rw [HR.out,← HF.out];rfl,hbel⟩
end Go.Proofs.YtgngidchldajhaaGreat
namespace Go.Proofs.YtgngidchldajhaaGreat
open Go.RowKit
theorem a_CountCutsTo (t a b:List Int) (hb:(cntTo t (canon a,canon b) (t.length - 1):Int) ≤ 1000000):AFn Tryz.prog 23 [eL t,eL a,eL b] (· = [.val (.int (cctOf t a b).1),.val (.int (cctOf t a b).2)]):=by
 have h:In64 (cctOf t a b).1∧In64 (cctOf t a b).2:=by
  unfold cctOf
  split
  ·exact ⟨by show In64 ((cntTo t (canon a,canon b) (t.length - 1):Nat):Int);unfold In64;omega,by unfold In64;omega⟩
  ·exact ⟨by unfold In64;omega,by unfold In64;omega⟩
 exact AFn.of_v2 (enters_of Tryz.func23 rfl rfl) (fun _ _ => rdV_int.2 ⟨rfl,h.1⟩) (fun _ _ => rdV_int.2 ⟨rfl,h.2⟩) (fun w A vs ⟨v1,_,e1,h1,v2,_,e2,h2,v3,_,e3,h3,e4⟩ => by
  subst e4;subst e3;subst e2;subst e1
  exact k_impl_CountCutsTo v1 v2 v3 t a b w (Rd.of (rd1 h1)) (Rd.of (rd1 h2)) (Rd.of (rd1 h3)))
end Go.Proofs.YtgngidchldajhaaGreat

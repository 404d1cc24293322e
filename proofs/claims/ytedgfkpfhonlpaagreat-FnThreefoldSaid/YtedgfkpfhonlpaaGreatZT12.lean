/- Lemmas (12). -/
import Derived.Test.YtedgfkpfhonlpaaGreatZT0
import Derived.Test.YtedgfkpfhonlpaaGreatZT1
import Derived.Test.YtedgfkpfhonlpaaGreatZT6
import Derived.Test.YtedgfkpfhonlpaaGreatZT7
import Derived.Test.YtedgfkpfhonlpaaGreatZT8
import Derived.Test.YtedgfkpfhonlpaaGreatZT11
set_option maxHeartbeats 16000000
set_option maxRecDepth 100000
set_option linter.unusedSimpArgs false
set_option linter.unusedVariables false
namespace Go.Proofs.YtedgfkpfhonlpaaGreat
open Go.RowKit
theorem EndsP.mk {P:Program} {cfg:Cfg} {M:Nat→Prop} {fn:Func} {Q0:List Res→List (List D)→Prop} {og:Option Nat} {cap k n:Nat} {e:Exit} {s:St} {rs:List Res} {ks:List Nat} {xs':List (List D)} (he:e = .normal ∨ e = .ret) {rvs:List ResultVar} {ts:List TypeId} (h1:fn.results.toList = rvs) (h2:fn.resultTypes.toList = ts)
  (h:jK cfg s rvs ts = some (rs,ks)) (hk:ks.Nodup) (hz:0 ∉ ks) (hl:look 0 s.heap = some (.pin og cap k xs')) (hq:xs'.length = n∧Q0 rs xs'):outK P cfg M [] (EndsP cfg fn Q0 og cap k n) e s:=⟨he,rs,ks,xs',by rw [h1,h2];exact h,hk,hz,hl,hq.1,hq.2⟩
theorem srcD_len (code:List Int) (s:Nat × Int):(srcD code s).length = 3:=rfl
noncomputable def drwG (code:List Int) (F:(Nat × Int)→List (List D)→Option (List Res × (Nat × Int))) (k:Nat) (xs:List (List D)) (post:List (List D)):Option (List Res × List (List D)):=by
 classical
 exact if h:∃ s:Nat × Int,s.1 ≤ code.length∧k = 3∧xs = [srcD code s] then (F h.choose post).map (fun p => (p.1,[srcD code p.2])) else none
noncomputable def drwE (code:List Int) (F:(Nat × Int)→List (List D)→Option (List Res × (Nat × Int))):PinE:=⟨true,drwG code F⟩
theorem drwG_eq {code:List Int} {F:(Nat × Int)→List (List D)→Option (List Res × (Nat × Int))} {s:Nat × Int} (h:s.1 ≤ code.length) {post:List (List D)}:drwG code F 3 [srcD code s] post = (F s post).map (fun p => (p.1,[srcD code p.2])):=by
 unfold drwG
 have hx:∃ s':Nat × Int,s'.1 ≤ code.length∧3 = 3∧[srcD code s] = [srcD code s']:=⟨s,h,rfl,rfl⟩
 rw [dif_pos hx]
 obtain ⟨_,_,h2⟩:=hx.choose_spec
 rw [← srcD_inj (List.cons.inj h2).1]
def DrawsE (P:Program) (f:FuncId) (code:List Int) (F:(Nat × Int)→List (List D)→Option (List Res × (Nat × Int))):Prop :=
 ∀ s post rs s',s.1 ≤ code.length→F s post = some (rs,s')→AEp P f true 3 [srcD code s] post (fun r x => r = rs∧x = [srcD code s'])
theorem DrawsE.ok {P:Program} {f:FuncId} {code:List Int} {F:(Nat × Int)→List (List D)→Option (List Res × (Nat × Int))} (H:DrawsE P f code F) (k:Nat) (xs:List (List D)) (post:List (List D)) (x:List Res × List (List D)) (hx:(drwE code F).fn k xs post = some x):AEp P f (drwE code F).ptr k xs post (fun rs xs' => rs = x.1∧xs' = x.2):=by
 have hx:drwG code F k xs post = some x:=hx
 unfold drwG at hx
 split at hx
 ·rename_i h
  obtain ⟨h1,h2,h3⟩:=h.choose_spec
  obtain ⟨p,hp,e⟩:=Option.map_eq_some_iff.1 hx
  subst h2
  rw [h3,← e]
  exact H _ _ _ _ h1 hp
 ·cases hx
def drw1 (G:(Nat × Int)→Int→List Res × (Nat × Int)) (s:Nat × Int):List (List D)→Option (List Res × (Nat × Int))
 | [[.int m]] => if -1000 ≤ m∧m ≤ 1000 then some (G s m) else none
 | _ => none
theorem vU {code:List Int} {G:(Nat × Int)→Int→List Res × (Nat × Int)} {s:Nat × Int} (h:s.1 ≤ code.length) {m:Int} (hm:-1000 ≤ m∧m ≤ 1000):drwG code (drw1 G) 3 [srcD code s] [[.int m]] = some ((G s m).1,[srcD code (G s m).2]):=by
 rw [drwG_eq h]
 show Option.map _ (if -1000 ≤ m∧m ≤ 1000 then some (G s m) else none) = _
 rw [if_pos hm];rfl
theorem drw1_of {P:Program} {f:FuncId} {code:List Int} {G:(Nat × Int)→Int→List Res × (Nat × Int)} (h:∀ s m,s.1 ≤ code.length→-1000 ≤ m→m ≤ 1000→AEp P f true 3 [srcD code s] [[.int m]] (fun r x => r = (G s m).1∧x = [srcD code (G s m).2])):DrawsE P f code (drw1 G):=by
 intro s post rs s' hs hp
 unfold drw1 at hp
 split at hp
 ·rename_i m
  split at hp
  ·rename_i hm
   have e:=Option.some.inj hp
   have e1:rs = (G s m).1:=by rw [e]
   have e2:s' = (G s m).2:=by rw [e]
   subst e1;subst e2
   exact h s m hs hm.1 hm.2
  ·cases hp
 ·cases hp
def growD (code:List Int):Nat→(Nat × Int)→List Int→List Int × (Nat × Int)
 | 0,s,t => (t,s)
 | k + 1,s,t => growD code k (nxtF code s (t.getLastD 0 + 1)).2 (t ++ [1 + (nxtF code s (t.getLastD 0 + 1)).1])
def drawF (code:List Int) (s:Nat × Int) (m:Int):List Int × (Nat × Int):=growD code (nxtF code s m).1.toNat (nxtF code s m).2 [0]
structure TOk (n:Nat) (t:List Int):Prop where
 pos:t ≠ []
 lev:qY t
 len:t.length ≤ n
 bd:∀ x ∈ t,0 ≤ x∧x < t.length
theorem qO0 {t:List Int} (h:t ≠ []):t.getLastD 0 ∈ t:=by
 cases t with
 | nil => exact absurd rfl h
 | cons a t => rw [List.getLastD_cons];exact (by cases t <;> simp [List.getLastD])
theorem getLastD_getD {t:List Int} (h:t ≠ []):t.getLastD 0 = t.getD (t.length - 1) 0:=by
 rw [List.getD_eq_getElem?_getD,← List.getLast?_eq_getElem?]
 cases t with
 | nil => exact absurd rfl h
 | cons a t => rw [List.getLast?_cons,List.getLastD_cons,← List.getLastD_eq_getLast?];rfl
theorem wV {code:List Int} (hc:jB code):∀ (k:Nat) {s:Nat × Int} {t:List Int} {n:Nat},TOk n t→s.1 ≤ code.length→TOk (n + k) (growD code k s t).1∧(growD code k s t).2.1 ≤ code.length
 | 0,_,_,_,h,hs => ⟨h,hs⟩
 | k + 1,s,t,n,h,hs => by
  have hl:=h.bd _ (qO0 h.pos)
  have hb:=yP hc s (t.getLastD 0 + 1)
  have h1:TOk (n + 1) (t ++ [1 + (nxtF code s (t.getLastD 0 + 1)).1]):=⟨by simp,h.lev.snoc (by omega) (by rw [← getLastD_getD h.pos];omega),by have:=h.len;simp;omega,fun x hx => by
   rw [List.length_append,List.length_singleton]
   rcases List.mem_append.1 hx with hx|hx
   ·have:=h.bd x hx;omega
   ·rw [List.mem_singleton] at hx;subst hx;omega⟩
  have:=wV hc k h1 (yZ (n:=t.getLastD 0 + 1) hs)
  rw [show n + (k + 1) = n + 1 + k by omega]
  exact this
theorem vO {code:List Int} (hc:jB code) {s:Nat × Int} {m:Int} (hs:s.1 ≤ code.length):TOk (1 + m.toNat) (drawF code s m).1∧(drawF code s m).2.1 ≤ code.length:=by
 have hb:=yP hc s m
 have h:=wV hc (nxtF code s m).1.toNat (s:=(nxtF code s m).2) (t:=[0]) (n:=1) ⟨by simp,by decide,by simp,by simp⟩ (yZ hs)
 exact ⟨⟨h.1.pos,h.1.lev,Nat.le_trans h.1.len (by omega),h.1.bd⟩,h.2⟩
theorem drawF_len {code:List Int} (hc:jB code) {s:Nat × Int} {m:Int} (hs:s.1 ≤ code.length) (hm:1 ≤ m):(drawF code s m).1.length ≤ m.toNat:=by
 have hb:=yP hc s m
 have h:=wV hc (nxtF code s m).1.toNat (s:=(nxtF code s m).2) (t:=[0]) (n:=1) ⟨by simp,by decide,by simp,by simp⟩ (yZ hs)
 exact Nat.le_trans h.1.len (by omega)
def drawG (code:List Int) (s:Nat × Int) (m:Int):List Res × (Nat × Int):=([.own 1 ((drawF code s m).1.map eI) true],(drawF code s m).2)
theorem p_l03Draw {code:List Int} (hc:jB code) (hl:code.length ≤ 1000000000):DrawsE Tryz.prog 126 code (drw1 (drawG code)):=by
 refine drw1_of fun s m hs hm1 hm2 => ?_
 have hpin:=qX0 hc hl
 have hdr:=xE code s m hs
 have hbd:=yP hc s m
 have hat:=yZ (n:=m) hs
 unfold drawG drawF
 obtain ⟨⟨kk,s1⟩,hp⟩:∃ p,p = nxtF code s m:=⟨_,rfl⟩
 rw [← hp] at hdr hbd hat ⊢
 simp only at hdr hbd hat ⊢
 obtain ⟨k,rfl⟩:∃ k:Nat,kk = k:=⟨kk.toNat,by omega⟩
 rw [Int.toNat_natCast]
 have hk:k ≤ 1000:=by omega
 simp only [eI] at hdr
 refine AEp.of_runs (qQ 29) Tryz.func126 rfl rfl rfl (fun _ => rfl) gz ?_
 have hres:Tryz.f126.results.toList = [.tmp 4]:=rfl
 have hrts:Tryz.f126.resultTypes.toList = [24]:=rfl
 simp only [List.length_cons,List.length_nil,yX,if_true,qK,qB,eL,eI,eLL,eB,Nat.zero_add,Nat.reduceAdd]
 intro M og cap
 refine qJ.of ?_
 refine gw123 hdr ?_
 refine qJ.loop (β:=Nat × (Nat × Int) × List Int) (γ:=List Int × (Nat × Int)) (fun x => ⟨[(0,.optr 0 0 0),(5,.c (.own 5 x.2.2.length)),(6,.c (.val (.int x.1)))],[(0,.pin og cap 3 [srcD code x.2.1]),(5,.row 1 (x.2.2.map eI) true)]⟩)
  (fun x => x.1 ≤ k∧x.2.1.1 ≤ code.length∧TOk (1 + (k - x.1)) x.2.2∧growD code x.1 x.2.1 x.2.2 = growD code k s1 [0]) (fun x => x.1)
  (fun z => ⟨[(0,.optr 0 0 0),(5,.c (.own 5 z.1.length))],[(0,.pin og cap 3 [srcD code z.2]),(5,.row 1 (z.1.map eI) true)]⟩) (fun z => z = growD code k s1 [0]) (k,s1,[0]) ⟨Nat.le_refl _,hat,⟨by simp,by show qY [0];decide,by simp,by simp⟩,rfl⟩ ?_ ?_ ?_
 ·exact gw124
 ·rintro ⟨j,s,t⟩ ⟨hj,hs,ht,hgr⟩
  simp only at hj hs ht hgr
  by_cases h0:0 < j
  ·obtain ⟨j,rfl⟩:∃ i,j = i + 1:=⟨j - 1,by omega⟩
   have i1:(((j + 1:Nat):Int) > 0) = True:=eq_true (by omega)
   have hlb:=ht.bd _ (qO0 ht.pos)
   have htl:=ht.len
   have htp:0 < t.length:=List.length_pos_iff.2 ht.pos
   have hdr:=xE code s (t.getLastD 0 + 1) hs
   have hbd:=yP hc s (t.getLastD 0 + 1)
   have hat:=yZ (n:=t.getLastD 0 + 1) hs
   have hgr:growD code j (nxtF code s (t.getLastD 0 + 1)).2 (t ++ [1 + (nxtF code s (t.getLastD 0 + 1)).1]) = growD code k s1 [0]:=hgr
   have hnext:=(wV hc 1 ht hs).1
   have hnext:TOk (1 + (k - (j + 1)) + 1) (t ++ [1 + (nxtF code s (t.getLastD 0 + 1)).1]):=hnext
   obtain ⟨⟨x,s2⟩,hp⟩:∃ p,p = nxtF code s (t.getLastD 0 + 1):=⟨_,rfl⟩
   rw [← hp] at hdr hbd hat hgr hnext
   simp only at hdr hbd hat hgr hnext
   simp only [eI] at hdr
   have hlm:(t.map eI).length = t.length:=List.length_map _
   have i2:((0:Int) ≤ (t.length:Int) - 1) = True:=eq_true (by omega)
   have i3:((t.length:Int) - 1 < (t.length:Int)) = True:=eq_true (by omega)
   have w1:w64 ((t.length:Int) - 1) = (t.length:Int) - 1:=jQ (by omega)
   have w2:w64 (t.getLastD 0 + 1) = t.getLastD 0 + 1:=jQ (by omega)
   have w3:w64 (1 + x) = 1 + x:=jQ (by omega)
   have w4:w64 (((j + 1:Nat):Int) - 1) = j:=by rw [jQ (by omega)];omega
   have hg:(t.map eI)[((t.length:Int) - 1).toNat]? = some [.int (t.getLastD 0)]:=by
    have e:((t.length:Int) - 1).toNat = t.length - 1:=by omega
    rw [e,List.getElem?_map,← List.getLast?_eq_getElem?]
    cases t with
    | nil => exact absurd rfl ht.pos
    | cons a t => rw [List.getLast?_cons,List.getLastD_cons,← List.getLastD_eq_getLast?];rfl
   have q1:=jP (n:=t.length + 1) (by omega)
   have q2:=jO (n:=t.length + 1) (c:=8) (by omega) (by omega)
   refine gw123 (Y12 hdr i1 i2 i3 w1 w2 w3 w4 hg hlm q1 q2) ?_
   refine qW.on (j,s2,t ++ [1 + x]) ⟨⟨by omega,hat,by rw [show 1 + (k - j) = 1 + (k - (j + 1)) + 1 by omega];exact hnext,hgr⟩,by simp⟩ ?_
   exact gw125
  ·obtain rfl:j = 0:=by omega
   have i1:(((0:Nat):Int) > 0) = False:=eq_false (by omega)
   refine gw126 i1 ?_
   refine qW.out (t,s) hgr ?_
   exact gw124
 rintro z rfl
 refine gw126 Y0 ?_
 exact gw127
def xV (code:List Int) (s:Nat × Int) (m:Int):List Int × (Nat × Int) :=
 let p:=drawF code s m
 let c:=nxtF code p.2 24
 if c.1 = 0 then
  let i:=nxtF code c.2 p.1.length
  let v:=nxtF code i.2 6
  (p.1.set i.1.toNat (v.1 - 1),v.2)
 else if c.1 = 1 then ([],c.2)
 else if c.1 = 2 then (p.1 ++ List.replicate 8 1,c.2)
 else (p.1,c.2)
structure AOk (n:Nat) (t:List Int):Prop where
 len:t.length ≤ n
 bd:∀ x ∈ t,-1 ≤ x∧x ≤ n
theorem drawAnyF_ok {code:List Int} (hc:jB code) {s:Nat × Int} {m:Int} (hs:s.1 ≤ code.length):AOk (9 + m.toNat) (xV code s m).1∧(xV code s m).2.1 ≤ code.length:=by
 obtain ⟨h1,h2⟩:=vO hc (m:=m) hs
 unfold xV
 obtain ⟨p,hp⟩:∃ p,p = drawF code s m:=⟨_,rfl⟩
 rw [← hp] at h1 h2 ⊢
 simp only
 have hl:=h1.len
 have ha:AOk (9 + m.toNat) p.1:=⟨by omega,fun x hx => by have:=h1.bd x hx;omega⟩
 have h3:=yZ (n:=24) h2
 have hcb:=yP hc p.2 24
 obtain ⟨c,hcd⟩:∃ c,c = nxtF code p.2 24:=⟨_,rfl⟩
 rw [← hcd] at h3 hcb ⊢
 split
 ·have h4:=yZ (n:=(p.1.length:Int)) h3
  have h5:=yZ (n:=6) h4
  have h6:=yP hc (nxtF code c.2 p.1.length).2 6
  refine ⟨⟨by simp;omega,fun x hx => ?_⟩,h5⟩
  rcases List.mem_or_eq_of_mem_set hx with hx|hx
  ·exact ha.bd x hx
  ·omega
 ·split
  ·exact ⟨⟨by simp,by simp⟩,h3⟩
  ·split
   ·refine ⟨⟨by simp;omega,fun x hx => ?_⟩,h3⟩
    rcases List.mem_append.1 hx with hx|hx
    ·exact ha.bd x hx
    ·rw [List.eq_of_mem_replicate hx];omega
   ·exact ⟨ha,h3⟩
def drawAnyG (code:List Int) (s:Nat × Int) (m:Int):List Res × (Nat × Int):=([.own 1 ((xV code s m).1.map eI) true],(xV code s m).2)
theorem p_l03DrawAny {code:List Int} (hc:jB code) (hl:code.length ≤ 1000000000):DrawsE Tryz.prog 127 code (drw1 (drawAnyG code)):=by
 refine drw1_of fun s m hs hm1 hm2 => ?_
 have hpin:=qX0 hc hl
 have hdw:=(p_l03Draw hc hl).ok
 have hdt:drwG code (drw1 (drawG code)) 3 [srcD code s] [[.int m]] = some ([.own 1 ((drawF code s m).1.map eI) true],[srcD code (drawF code s m).2]):=vU hs ⟨hm1,hm2⟩
 obtain ⟨h1,h2⟩:=vO hc (m:=m) hs
 have hdr:=xE code (drawF code s m).2 24 h2
 have hbd:=yP hc (drawF code s m).2 24
 have hat:=yZ (n:=24) h2
 unfold drawAnyG xV
 obtain ⟨⟨t,s1⟩,hp⟩:∃ p,p = drawF code s m:=⟨_,rfl⟩
 rw [← hp] at h1 h2 hdr hbd hat hdt ⊢
 simp only at h1 h2 hdr hbd hat hdt ⊢
 obtain ⟨⟨c,s2⟩,hq⟩:∃ p,p = nxtF code s1 24:=⟨_,rfl⟩
 rw [← hq] at hdr hbd hat ⊢
 simp only at hdr hbd hat ⊢
 have htl:=h1.len
 have htp:0 < t.length:=List.length_pos_iff.2 h1.pos
 have hlm:(t.map eI).length = t.length:=List.length_map _
 simp only [eI] at hdr
 by_cases c0:c = 0
 ·subst c0
  have hdr2:=xE code s2 t.length hat
  have hbd2:=yP hc s2 t.length
  have hat2:=yZ (n:=(t.length:Int)) hat
  obtain ⟨⟨i,s3⟩,hq2⟩:∃ p,p = nxtF code s2 t.length:=⟨_,rfl⟩
  rw [← hq2] at hdr2 hbd2 hat2 ⊢
  simp only at hdr2 hbd2 hat2 ⊢
  have hdr3:=xE code s3 6 hat2
  have hbd3:=yP hc s3 6
  obtain ⟨⟨v,s4⟩,hq3⟩:∃ p,p = nxtF code s3 6:=⟨_,rfl⟩
  rw [← hq3] at hdr3 hbd3 ⊢
  simp only [eI,if_true] at hdr2 hdr3 hbd3 ⊢
  have i1:((0:Int) ≤ i) = True:=eq_true (by omega)
  have i2:(i < (t.length:Int)) = True:=eq_true (by omega)
  have w1:w64 (v - 1) = v - 1:=jQ (by omega)
  have hst:(t.set i.toNat (v - 1)).map eI = (t.map eI).set i.toNat [.int (v - 1)]:=by rw [List.map_set];rfl
  have hil:i.toNat < t.length:=by omega
  have hg:(t.map eI)[i.toNat]? = some [.int t[i.toNat]]:=by rw [List.getElem?_map,List.getElem?_eq_getElem hil];rfl
  rw [hst]
  refine AEp.of_runs (qQ 35) Tryz.func127 rfl rfl rfl (fun _ => rfl) gz ?_
  have hres:Tryz.f127.results.toList = [.tmp 4]:=rfl
  have hrts:Tryz.f127.resultTypes.toList = [24]:=rfl
  simp only [List.length_cons,List.length_nil,yX,if_true,qK,qB,eL,eI,eLL,eB,Nat.zero_add,Nat.reduceAdd]
  intro M og cap
  refine qJ.of ?_
  refine gw128 (Y9 hdr hdr2 hdr3 hdt i1 i2 w1 hlm hg) ?_
  exact gw127
 ·have e0:(c == 0) = false:=by simp [c0]
  by_cases c1:c = 1
  ·subst c1
   rw [if_neg c0,if_pos rfl]
   refine AEp.of_runs (qQ 35) Tryz.func127 rfl rfl rfl (fun _ => rfl) gz ?_
   have hres:Tryz.f127.results.toList = [.tmp 4]:=rfl
   have hrts:Tryz.f127.resultTypes.toList = [24]:=rfl
   simp only [List.length_cons,List.length_nil,yX,if_true,qK,qB,eL,eI,eLL,eB,Nat.zero_add,Nat.reduceAdd]
   intro M og cap
   refine qJ.of ?_
   refine gw128 (Y4 hdr hdt e0 hlm) ?_
   exact gw127
  ·by_cases c2:c = 2
   ·subst c2
    rw [if_neg c0,if_neg c1,if_pos rfl]
    refine AEp.of_runs (qQ 35) Tryz.func127 rfl rfl rfl (fun _ => rfl) gz ?_
    have hres:Tryz.f127.results.toList = [.tmp 4]:=rfl
    have hrts:Tryz.f127.resultTypes.toList = [24]:=rfl
    simp only [List.length_cons,List.length_nil,yX,if_true,qK,qB,eL,eI,eLL,eB,Nat.zero_add,Nat.reduceAdd]
    intro M og cap
    refine qJ.of ?_
    refine gw128 (Y4 hdr hdt e0 hlm) ?_
    refine qJ.loop (β:=Nat) (γ:=Unit) (fun j => ⟨[(0,.optr 0 0 0),(5,.c (.own 5 (t.length + j))),(6,.c (.val (.int j)))],[(0,.pin og cap 3 [srcD code s2]),(5,.row 1 ((t ++ List.replicate j 1).map eI) true)]⟩) (fun j => j ≤ 8) (fun j => 8 - j)
     (fun _ => ⟨[(0,.optr 0 0 0),(5,.c (.own 5 (t.length + 8)))],[(0,.pin og cap 3 [srcD code s2]),(5,.row 1 ((t ++ List.replicate 8 1).map eI) true)]⟩) (fun _ => True) 0 (Nat.zero_le _) ?_ ?_ ?_
    ·exact gw129
    ·intro j hj
     have hj:j ≤ 8:=hj
     have hw:=qL (n:=j) (by omega)
     by_cases hj8:j < 8
     ·have j1:((j:Int) < 8) = True:=eq_true (by omega)
      have hrl:((t ++ List.replicate j (1:Int)).map eI).length = t.length + j:=by simp
      have hrx:(t ++ List.replicate (j + 1) (1:Int)).map eI = (t ++ List.replicate j (1:Int)).map eI ++ [[.int 1]]:=by
       rw [List.replicate_succ',← List.append_assoc,List.map_append];rfl
      obtain ⟨R,hR⟩:∃ R,R = (t ++ List.replicate j (1:Int)).map eI:=⟨_,rfl⟩
      rw [← hR] at hrl hrx ⊢
      have q1:=jP (n:=t.length + j + 1) (by omega)
      have q2:=jO (n:=t.length + j + 1) (c:=8) (by omega) (by omega)
      refine gw130 (Y5 j1 hw hrl q1 q2) ?_
      refine qW.on (j + 1) ⟨by omega,by omega⟩ ?_
      rw [hrx]
      exact gw124
     ·obtain rfl:j = 8:=by omega
      have j1:(((8:Nat):Int) < 8) = False:=eq_false (by omega)
      refine gw130 j1 ?_
      refine qW.out () trivial ?_
      exact gw124
    rintro _ _
    refine gw130 Y0 ?_
    exact gw127
   ·have e1:(c == 1) = false:=by simp [c1]
    have e2:(c == 2) = false:=by simp [c2]
    rw [if_neg c0,if_neg c1,if_neg c2]
    refine AEp.of_runs (qQ 35) Tryz.func127 rfl rfl rfl (fun _ => rfl) gz ?_
    have hres:Tryz.f127.results.toList = [.tmp 4]:=rfl
    have hrts:Tryz.f127.resultTypes.toList = [24]:=rfl
    simp only [List.length_cons,List.length_nil,yX,if_true,qK,qB,eL,eI,eLL,eB,Nat.zero_add,Nat.reduceAdd]
    intro M og cap
    refine qJ.of ?_
    refine gw128 (Y6 hdr hdt e0 e1 e2 hlm) ?_
    exact gw127
theorem p_tree9 {code:List Int} (hc:jB code) (hl:code.length ≤ 1000000000):DrawsE Tryz.prog 11 code (drw1 (drawG code)):=by
 refine drw1_of fun s m hs hm1 hm2 => ?_
 have hpin:=nxt_below hc hl
 have hdr:=xE code s m hs
 have hbd:=yP hc s m
 have hat:=yZ (n:=m) hs
 unfold drawG drawF
 obtain ⟨⟨kk,s1⟩,hp⟩:∃ p,p = nxtF code s m:=⟨_,rfl⟩
 rw [← hp] at hdr hbd hat ⊢
 simp only at hdr hbd hat ⊢
 obtain ⟨k,rfl⟩:∃ k:Nat,kk = k:=⟨kk.toNat,by omega⟩
 rw [Int.toNat_natCast]
 have hk:k ≤ 1000:=by omega
 simp only [eI] at hdr
 refine AEp.of_runs (qQ 29) Tryz.func11 rfl rfl rfl (fun _ => rfl) gz ?_
 have hres:Tryz.f11.results.toList = [.tmp 4]:=rfl
 have hrts:Tryz.f11.resultTypes.toList = [24]:=rfl
 simp only [List.length_cons,List.length_nil,yX,if_true,qK,qB,eL,eI,eLL,eB,Nat.zero_add,Nat.reduceAdd]
 intro M og cap
 refine qJ.of ?_
 refine gw131 hdr ?_
 refine qJ.loop (β:=Nat × (Nat × Int) × List Int) (γ:=List Int × (Nat × Int)) (fun x => ⟨[(0,.optr 0 0 0),(5,.c (.own 5 x.2.2.length)),(6,.c (.val (.int x.1)))],[(0,.pin og cap 3 [srcD code x.2.1]),(5,.row 1 (x.2.2.map eI) true)]⟩)
  (fun x => x.1 ≤ k∧x.2.1.1 ≤ code.length∧TOk (1 + (k - x.1)) x.2.2∧growD code x.1 x.2.1 x.2.2 = growD code k s1 [0]) (fun x => x.1)
  (fun z => ⟨[(0,.optr 0 0 0),(5,.c (.own 5 z.1.length))],[(0,.pin og cap 3 [srcD code z.2]),(5,.row 1 (z.1.map eI) true)]⟩) (fun z => z = growD code k s1 [0]) (k,s1,[0]) ⟨Nat.le_refl _,hat,⟨by simp,by show qY [0];decide,by simp,by simp⟩,rfl⟩ ?_ ?_ ?_
 ·exact gw124
 ·rintro ⟨j,s,t⟩ ⟨hj,hs,ht,hgr⟩
  simp only at hj hs ht hgr
  by_cases h0:0 < j
  ·obtain ⟨j,rfl⟩:∃ i,j = i + 1:=⟨j - 1,by omega⟩
   have i1:(((j + 1:Nat):Int) > 0) = True:=eq_true (by omega)
   have hlb:=ht.bd _ (qO0 ht.pos)
   have htl:=ht.len
   have htp:0 < t.length:=List.length_pos_iff.2 ht.pos
   have hdr:=xE code s (t.getLastD 0 + 1) hs
   have hbd:=yP hc s (t.getLastD 0 + 1)
   have hat:=yZ (n:=t.getLastD 0 + 1) hs
   have hgr:growD code j (nxtF code s (t.getLastD 0 + 1)).2 (t ++ [1 + (nxtF code s (t.getLastD 0 + 1)).1]) = growD code k s1 [0]:=hgr
   have hnext:=(wV hc 1 ht hs).1
   have hnext:TOk (1 + (k - (j + 1)) + 1) (t ++ [1 + (nxtF code s (t.getLastD 0 + 1)).1]):=hnext
   obtain ⟨⟨x,s2⟩,hp⟩:∃ p,p = nxtF code s (t.getLastD 0 + 1):=⟨_,rfl⟩
   rw [← hp] at hdr hbd hat hgr hnext
   simp only at hdr hbd hat hgr hnext
   simp only [eI] at hdr
   have hlm:(t.map eI).length = t.length:=List.length_map _
   have i2:((0:Int) ≤ (t.length:Int) - 1) = True:=eq_true (by omega)
   have i3:((t.length:Int) - 1 < (t.length:Int)) = True:=eq_true (by omega)
   have w1:w64 ((t.length:Int) - 1) = (t.length:Int) - 1:=jQ (by omega)
   have w2:w64 (t.getLastD 0 + 1) = t.getLastD 0 + 1:=jQ (by omega)
   have w3:w64 (1 + x) = 1 + x:=jQ (by omega)
   have w4:w64 (((j + 1:Nat):Int) - 1) = j:=by rw [jQ (by omega)];omega
   have hg:(t.map eI)[((t.length:Int) - 1).toNat]? = some [.int (t.getLastD 0)]:=by
    have e:((t.length:Int) - 1).toNat = t.length - 1:=by omega
    rw [e,List.getElem?_map,← List.getLast?_eq_getElem?]
    cases t with
    | nil => exact absurd rfl ht.pos
    | cons a t => rw [List.getLast?_cons,List.getLastD_cons,← List.getLastD_eq_getLast?];rfl
   have q1:=jP (n:=t.length + 1) (by omega)
   have q2:=jO (n:=t.length + 1) (c:=8) (by omega) (by omega)
   refine gw131 (Y12 hdr i1 i2 i3 w1 w2 w3 w4 hg hlm q1 q2) ?_
   refine qW.on (j,s2,t ++ [1 + x]) ⟨⟨by omega,hat,by rw [show 1 + (k - j) = 1 + (k - (j + 1)) + 1 by omega];exact hnext,hgr⟩,by simp⟩ ?_
   exact gw125
  ·obtain rfl:j = 0:=by omega
   have i1:(((0:Nat):Int) > 0) = False:=eq_false (by omega)
   refine gw126 i1 ?_
   refine qW.out (t,s) hgr ?_
   exact gw124
 rintro z rfl
 refine gw126 Y0 ?_
 exact gw127
def dforF (code:List Int):Nat→Nat→(Nat × Int)→List (List Int)→List (List Int) × (Nat × Int)
 | 0,_,s,out => (out,s)
 | f + 1,left,s,out =>
  if left = 0 then (out,s) else
  let p:=drawF code s left
  if out ≠ []∧(out.getLastD []).length ≤ left then
   let c:=nxtF code p.2 3
   let t:=if c.1 = 0 then out.getLastD [] else canon p.1
   dforF code f (left - t.length) c.2 (out ++ [t])
  else dforF code f (left - (canon p.1).length) p.2 (out ++ [canon p.1])
def xY (code:List Int) (s:Nat × Int) (m:Int):List (List Int) × (Nat × Int) :=
 let n:=nxtF code s (m + 1)
 let r:=dforF code n.1.toNat n.1.toNat n.2 []
 (forest r.1,r.2)
structure FOk (n:Nat) (f:List (List Int)):Prop where
 lev:∀ t ∈ f,qY t
 can:∀ t ∈ f,canon t = t
 sum:qX f ≤ n
theorem qY.posL {t:List Int} (h:qY t):0 < t.length:=h.pos
theorem FOk.snoc {n k:Nat} {f:List (List Int)} {t:List Int} (h:FOk n f) (hl:qY t) (hc:canon t = t) (hk:t.length ≤ k):FOk (n + k) (f ++ [t]):=by
 refine ⟨fun x hx => ?_,fun x hx => ?_,?_⟩
 ·rcases List.mem_append.1 hx with hx|hx
  ·exact h.lev x hx
  ·rw [List.mem_singleton] at hx;subst hx;exact hl
 ·rcases List.mem_append.1 hx with hx|hx
  ·exact h.can x hx
  ·rw [List.mem_singleton] at hx;subst hx;exact hc
 ·have:=h.sum
  rw [kO]
  have:qX [t] = t.length:=by simp [qX]
  omega
theorem getLastL_mem {f:List (List Int)} (h:f ≠ []):f.getLastD [] ∈ f:=by
 cases f with
 | nil => exact absurd rfl h
 | cons a t => rw [List.getLastD_cons];exact (by cases t <;> simp [List.getLastD])
theorem dforF_ok {code:List Int} (hc:jB code):∀ (fu left n:Nat) {s:Nat × Int} {out:List (List Int)},FOk n out→s.1 ≤ code.length→FOk (n + left) (dforF code fu left s out).1∧(dforF code fu left s out).2.1 ≤ code.length
 | 0,left,n,s,out,h,hs => ⟨⟨h.lev,h.can,by have:=h.sum;show qX out ≤ _;omega⟩,hs⟩
 | fu + 1,left,n,s,out,h,hs => by
  have h':FOk (n + left) out:=⟨h.lev,h.can,by have:=h.sum;omega⟩
  unfold dforF
  split
  ·exact ⟨h',hs⟩
  ·rename_i hl0
   obtain ⟨h1,h2⟩:=vO hc (m:=left) hs
   have h3:=drawF_len hc (m:=left) hs (by omega)
   have hlev:=yD h1.lev
   have hlen:=xL h1.lev
   have hidem:=kP h1.lev
   obtain ⟨p,hp⟩:∃ p,p = drawF code s left:=⟨_,rfl⟩
   rw [← hp] at h1 h2 h3 hlev hlen hidem ⊢
   simp only
   have h3:p.1.length ≤ left:=by omega
   have key:∀ (t:List Int) (s':Nat × Int),qY t→canon t = t→t.length ≤ left→s'.1 ≤ code.length→FOk (n + left) (dforF code fu (left - t.length) s' (out ++ [t])).1∧(dforF code fu (left - t.length) s' (out ++ [t])).2.1 ≤ code.length:=by
    intro t s' k1 k2 k3 k4
    have:=dforF_ok hc fu (left - t.length) (n + t.length) (h.snoc k1 k2 (Nat.le_refl _)) k4
    rw [show n + t.length + (left - t.length) = n + left by omega] at this
    exact this
   split
   ·rename_i ho
    have hm:=getLastL_mem ho.1
    have h4:=yZ (n:=3) h2
    split
    ·exact key _ _ (h.lev _ hm) (h.can _ hm) ho.2 h4
    ·exact key _ _ hlev hidem (by omega) h4
   ·exact key _ _ hlev hidem (by omega) h2
theorem lastL_get {f:List (List Int)} (h:f ≠ []):Option.map eL f.getLast? = some [.sl 1 ((f.getLastD []).map eI)]:=by
 cases f with
 | nil => exact absurd rfl h
 | cons a t => rw [List.getLast?_cons,List.getLastD_cons,← List.getLastD_eq_getLast?];rfl
theorem len_sumD {f:List (List Int)} (h:∀ t ∈ f,qY t):f.length ≤ qX f:=by
 induction f with
 | nil => exact Nat.le_refl _
 | cons a f ih =>
  have h1:=(h a (by simp)).pos
  have h2:=ih (fun t ht => h t (by simp [ht]))
  have e:qX (a :: f) = a.length + qX f:=by simp [qX]
  rw [e,List.length_cons];omega
def vG (code:List Int) (s:Nat × Int) (m:Int):List Res × (Nat × Int):=([.own 1 ((xY code s m).1.map eL) true],(xY code s m).2)
theorem p_l03DrawForest {code:List Int} (hc:jB code) (hl:code.length ≤ 1000000000):DrawsE Tryz.prog 125 code (drw1 (vG code)):=by
 refine drw1_of fun s m hs hm1 hm2 => ?_
 have hpin:=qX0 hc hl
 have hdw:=(p_l03Draw hc hl).ok
 have hw0:w64 (m + 1) = m + 1:=jQ (by omega)
 have hdr:=xE code s (m + 1) hs
 have hbd:=yP hc s (m + 1)
 have hat:=yZ (n:=m + 1) hs
 unfold vG xY
 obtain ⟨⟨nn,s1⟩,hp⟩:∃ p,p = nxtF code s (m + 1):=⟨_,rfl⟩
 rw [← hp] at hdr hbd hat ⊢
 simp only [eI] at hdr hbd hat ⊢
 obtain ⟨n,rfl⟩:∃ n:Nat,nn = n:=⟨nn.toNat,by omega⟩
 have hn:n ≤ 1000:=by omega
 rw [Int.toNat_natCast]
 have hok:=(dforF_ok hc n n 0 (s:=s1) (out:=[]) ⟨by simp,by simp,by simp [qX]⟩ hat).1
 obtain ⟨Z,hZ⟩:∃ Z,Z = dforF code n n s1 []:=⟨_,rfl⟩
 rw [← hZ] at hok ⊢
 have hso:=a_l03Sort Z.1 (by
  have:=len_sumD (f:=Z.1) hok.lev
  have:=hok.sum
  omega) (fun b hb => by
  have:=yY hb
  have:=hok.sum
  omega)
 simp only [eLL,eL] at hso
 refine AEp.of_runs (qQ 60) Tryz.func125 rfl rfl rfl (fun _ => rfl) gz ?_
 have hres:Tryz.f125.results.toList = [.tmp 4]:=rfl
 have hrts:Tryz.f125.resultTypes.toList = [36]:=rfl
 simp only [List.length_cons,List.length_nil,yX,if_true,qK,qB,eL,eI,eLL,eB,Nat.zero_add,Nat.reduceAdd]
 intro M og cap
 refine qJ.of ?_
 repeat' (first|with_reducible (first|refine Q1 ?_|refine Q2 ?_|refine Q3 ?_|refine Q4 ?_|refine Q5 ?_|refine Q6 ?_|refine Q7 ?_|refine Q8 ?_|refine Q9 ?_|refine Qa ?_|refine Qb ?_|refine Qc ?_|refine Qd ?_|refine Qe ?_|refine Qf ?_|refine QO ?_|refine QV 8 ?_|refine QY 8 ?_)|with_reducible ((first|apply QS (qQ 60) (Tab.none.pin 82 (nxtE code) hpin)|apply QC);refine QW ?_;simp only [Zg,Zi,seval,hdr,nxtE,hw0];rfl))
 refine qJ.loop (β:=Nat × Nat × (Nat × Int) × List (List Int)) (γ:=Unit) (fun x => ⟨[(0,.optr 0 0 0),(5,.c (.own 5 x.2.2.2.length)),(6,.c (.val (.int x.2.1)))],[(0,.pin og cap 3 [srcD code x.2.2.1]),(5,.row 1 (x.2.2.2.map eL) false)]⟩)
  (fun x => x.2.1 ≤ x.1∧x.2.1 ≤ n∧x.2.2.1.1 ≤ code.length∧FOk (n - x.2.1) x.2.2.2∧dforF code x.1 x.2.1 x.2.2.1 x.2.2.2 = Z) (fun x => x.2.1)
  (fun _ => ⟨[(0,.optr 0 0 0),(5,.c (.own 5 Z.1.length))],[(0,.pin og cap 3 [srcD code Z.2]),(5,.row 1 (Z.1.map eL) false)]⟩) (fun _ => True) (n,n,s1,[]) ⟨Nat.le_refl _,Nat.le_refl _,hat,⟨by simp,by simp,by simp [qX]⟩,hZ.symm⟩ ?_ ?_ ?_
 ·(repeat' (first|exact Qn|((with_reducible refine Qr ?_ ?_);focus first|with_reducible rfl|(simp only [Zz,Nat.reduceBEq,List.map_nil,List.length_nil];done)|rfl)|((with_reducible apply Qj);rfl)|((with_reducible refine Qw ?_ ?_);(focus first|with_reducible rfl|(simp only [Zv,List.map_nil,List.length_nil];done));first|exact id|exact nofun|exact fun _=>rfl)))
  all_goals first|exact ⟨rfl,rfl⟩|exact ⟨rfl,rfl,id⟩|exact ⟨rfl,rfl,rfl,rfl⟩|exact ⟨rfl,rfl,fun h => nomatch h⟩
 ·rintro ⟨k,left,s,out⟩ ⟨hlk,hln,hs,hfo,hdz⟩
  simp only at hlk hln hs hfo hdz
  by_cases h0:0 < left
  rotate_left
  ·obtain rfl:left = 0:=by omega
   have e:dforF code k 0 s out = (out,s):=by cases k <;> rfl
   rw [e] at hdz
   have i1:(((0:Nat):Int) > 0) = False:=eq_false (by omega)
   rw [← hdz]
   repeat' (first|with_reducible (first|refine Q1 ?_|refine Q2 ?_|refine Q3 ?_|refine Q4 ?_|refine Q5 ?_|refine Q6 ?_|refine Q7 ?_|refine Q8 ?_|refine Q9 ?_|refine Qa ?_|refine Qb ?_|refine Qc ?_|refine Qd ?_|refine Qe ?_|refine Qf ?_|refine QO ?_|refine QV 8 ?_|refine QY 8 ?_)|with_reducible ((first|apply QS (qQ 60) Tab.none|apply QC);refine QW ?_;simp only [Zg,Zi,seval,i1];rfl))
   refine qW.out () trivial ?_
   (repeat' (first|exact Qn|((with_reducible refine Qr ?_ ?_);focus first|with_reducible rfl|(simp only [Zz,Nat.reduceBEq];done)|rfl)|((with_reducible apply Qj);rfl)|((with_reducible refine Qw ?_ ?_);(focus first|with_reducible rfl|(simp only [Zv];done));first|exact id|exact nofun|exact fun _=>rfl)))
   all_goals first|exact ⟨rfl,rfl⟩|exact ⟨rfl,rfl,id⟩|exact ⟨rfl,rfl,rfl,rfl⟩
  obtain ⟨k,rfl⟩:∃ j,k = j + 1:=⟨k - 1,by omega⟩
  have i1:((left:Int) > 0) = True:=eq_true (by omega)
  have hdt:drwG code (drw1 (drawG code)) 3 [srcD code s] [[.int (left:Int)]] = some ([.own 1 ((drawF code s left).1.map eI) true],[srcD code (drawF code s left).2]):=vU hs ⟨by omega,by omega⟩
  obtain ⟨g1,g2⟩:=vO hc (m:=left) hs
  have g3:=drawF_len hc (m:=left) hs (by omega)
  have gl:=yD g1.lev
  have gn:=xL g1.lev
  have gi:=kP g1.lev
  have hca:=jC0 (drawF code s left).1 g1.lev (by omega)
  have hds:dforF code (k + 1) left s out = (if out ≠ []∧(out.getLastD []).length ≤ left then
    dforF code k (left - (if (nxtF code (drawF code s left).2 3).1 = 0 then out.getLastD [] else canon (drawF code s left).1).length) (nxtF code (drawF code s left).2 3).2 (out ++ [if (nxtF code (drawF code s left).2 3).1 = 0 then out.getLastD [] else canon (drawF code s left).1])
   else dforF code k (left - (canon (drawF code s left).1).length) (drawF code s left).2 (out ++ [canon (drawF code s left).1])):=by
   show (if left = 0 then (out,s) else _) = _
   rw [if_neg (by omega)]
  rw [hds] at hdz
  obtain ⟨⟨p,s2⟩,hp2⟩:∃ q,q = drawF code s left:=⟨_,rfl⟩
  rw [← hp2] at hdt g1 g2 g3 gl gn gi hca hdz
  simp only at hdt g1 g2 g3 gl gn gi hca hdz
  obtain ⟨ct,hct⟩:∃ ct,ct = canon p:=⟨_,rfl⟩
  rw [← hct] at gl gn gi hca hdz
  have hol:=len_sumD (f:=out) hfo.lev
  have hos:=hfo.sum
  have hom:(out.map eL).length = out.length:=List.length_map _
  have q1:=jP (n:=out.length + 1) (by omega)
  have q2:=jO (n:=out.length + 1) (c:=24) (by omega) (by omega)
  have hwl:w64 (((out.length + 1:Nat):Int) - 1) = (out.length:Int):=by rw [jQ (by omega)];omega
  have k2:((0:Int) ≤ (out.length:Int)) = True:=eq_true (by omega)
  have k3:((out.length:Int) < ((out.length + 1:Nat):Int)) = True:=eq_true (by omega)
  have key:∀ (t:List Int) (s':Nat × Int),qY t→canon t = t→t.length ≤ left→s'.1 ≤ code.length→dforF code k (left - t.length) s' (out ++ [t]) = Z →
    (left - t.length ≤ k∧left - t.length ≤ n∧s'.1 ≤ code.length∧FOk (n - (left - t.length)) (out ++ [t])∧dforF code k (left - t.length) s' (out ++ [t]) = Z)∧left - t.length < left:=fun t s' h1 h2 h3 h4 h5 => by
   have:=h1.posL
   have hsn:=hfo.snoc h1 h2 (Nat.le_refl t.length)
   refine ⟨⟨by omega,by omega,h4,?_,h5⟩,by omega⟩
   rw [show n - (left - t.length) = n - left + t.length by omega]
   exact hsn
  have hgt:∀ t:List Int,(out.map eL ++ [[D.sl 1 (t.map eI)]])[out.length]? = some [D.sl 1 (t.map eI)]:=fun t => by
   rw [List.getElem?_append_right (by rw [hom];exact Nat.le_refl _),hom,Nat.sub_self];rfl
  have hgtl:∀ t:List Int,(out.map eL ++ [[D.sl 1 (t.map eI)]]).length = out.length + 1:=fun t => by rw [List.length_append,hom];rfl
  simp only [eL] at hca
  by_cases ho:out = []
  ·subst ho
   rw [if_neg (fun h => h.1 rfl)] at hdz
   obtain ⟨kk,kl⟩:=key ct s2 gl gi (by omega) g2 hdz
   have z1:(((0:Nat):Int) > 0) = False:=eq_false (by omega)
   have hcl:(ct.map eI).length = ct.length:=List.length_map _
   have hw6:w64 ((left:Int) - (ct.length:Int)) = ((left - ct.length:Nat):Int):=by rw [jQ (by omega)];omega
   have u1:w64 (1 - 1) = 0:=by rw [jQ (by omega)];rfl
   have u2:((0:Int) ≤ 0) = True:=eq_true (by omega)
   have u3:((0:Int) < 1) = True:=eq_true (by omega)
   have t0:(0:Int).toNat = 0:=rfl
   have u0:w64 0 = 0:=by rw [jQ (by omega)]
   have u1':w64 (((1:Nat):Int) - 1) = 0:=by rw [jQ (by omega)];rfl
   have u3':((0:Int) < ((1:Nat):Int)) = True:=eq_true (by omega)
   repeat' (first|with_reducible (first|refine Q1 ?_|refine Q2 ?_|refine Q3 ?_|refine Q4 ?_|refine Q5 ?_|refine Q6 ?_|refine Q7 ?_|refine Q8 ?_|refine Q9 ?_|refine Qa ?_|refine Qb ?_|refine Qc ?_|refine Qd ?_|refine Qe ?_|refine Qf ?_|refine QO ?_|refine QV 8 ?_|refine QY 8 ?_)|with_reducible ((first|apply QS (qQ 60) ((((Tab.none.pin 82 (nxtE code) hpin).pin 126 (drwE code (drw1 (drawG code))) hdw).at' 186 hca))|apply QC);refine QW ?_;simp only [Zg,Zi,seval,hdt,nxtE,drwE,i1,z1,q1,q2,hcl,hw6,u0,u1,u1',u2,u3,u3',t0];rfl))
   refine qW.on (k,left - ct.length,s2,[ct]) ⟨kk,kl⟩ ?_
   (repeat' (first|exact Qn|((with_reducible refine Qr ?_ ?_);focus first|with_reducible rfl|(simp only [Zz,Nat.reduceBEq,List.map_cons,List.map_nil,eL,List.length_singleton];done)|rfl)|((with_reducible apply Qj);rfl)|((with_reducible refine Qw ?_ ?_);(focus first|with_reducible rfl|(simp only [Zv,List.map_cons,List.map_nil,eL,List.length_singleton];done));first|exact id|exact nofun|exact fun _=>rfl)))
   all_goals first|exact ⟨rfl,rfl⟩|exact ⟨rfl,rfl,id⟩|exact ⟨rfl,rfl,rfl,rfl⟩|exact ⟨rfl,rfl,fun h => nomatch h⟩
  have hop:0 < out.length:=List.length_pos_iff.2 ho
  have z1:((out.length:Int) > 0) = True:=eq_true (by omega)
  have hlm:=getLastL_mem ho
  have hll:=yY hlm
  have hlv:=hfo.lev _ hlm
  have hlc:=hfo.can _ hlm
  have hgl:(out.map eL)[out.length - 1]? = some [.sl 1 ((out.getLastD []).map eI)]:=by
   rw [List.getElem?_map,← List.getLast?_eq_getElem?]
   exact lastL_get ho
  obtain ⟨la,hla⟩:∃ la,la = out.getLastD []:=⟨_,rfl⟩
  rw [← hla] at hll hlv hlc hgl hdz
  have hlaM:(la.map eI).length = la.length:=List.length_map _
  have w5:w64 ((out.length:Int) - 1) = ((out.length - 1:Nat):Int):=by rw [jQ (by omega)];omega
  have k5:((0:Int) ≤ ((out.length - 1:Nat):Int)) = True:=eq_true (by omega)
  have k6:(((out.length - 1:Nat):Int) < (out.length:Int)) = True:=eq_true (by omega)
  have hcl:(ct.map eI).length = ct.length:=List.length_map _
  have tail:∀ (t:List Int) (s':Nat × Int),t.length ≤ left→(t.map eI).length = t.length∧w64 ((left:Int) - (t.length:Int)) = ((left - t.length:Nat):Int):=fun t s' h => ⟨List.length_map _,by rw [jQ (by omega)];omega⟩
  by_cases hle:la.length ≤ left
  rotate_left
  ·rw [if_neg (fun h => hle h.2)] at hdz
   obtain ⟨kk,kl⟩:=key ct s2 gl gi (by omega) g2 hdz
   have z2:((la.length:Int) ≤ (left:Int)) = False:=eq_false (by omega)
   obtain ⟨_,hw6⟩:=tail ct s2 (by omega)
   repeat' (first|with_reducible (first|refine Q1 ?_|refine Q2 ?_|refine Q3 ?_|refine Q4 ?_|refine Q5 ?_|refine Q6 ?_|refine Q7 ?_|refine Q8 ?_|refine Q9 ?_|refine Qa ?_|refine Qb ?_|refine Qc ?_|refine Qd ?_|refine Qe ?_|refine Qf ?_|refine QO ?_|refine QV 8 ?_|refine QY 8 ?_)|with_reducible ((first|apply QS (qQ 60) ((((Tab.none.pin 82 (nxtE code) hpin).pin 126 (drwE code (drw1 (drawG code))) hdw).at' 186 hca))|apply QC);refine QW ?_;simp only [Zg,Zi,seval,hdt,nxtE,drwE,i1,z1,z2,q1,q2,hcl,hw6,hom,w5,k5,k6,hgl,hlaM,hwl,k2,k3,hgt,hgtl,Int.toNat_natCast];rfl))
   refine qW.on (k,left - ct.length,s2,out ++ [ct]) ⟨kk,kl⟩ ?_
   (repeat' (first|exact Qn|((with_reducible refine Qr ?_ ?_);focus first|with_reducible rfl|(simp only [Zz,Nat.reduceBEq,List.map_append,List.map_cons,List.map_nil,eL,List.length_append,List.length_singleton];done)|rfl)|((with_reducible apply Qj);rfl)|((with_reducible refine Qw ?_ ?_);(focus first|with_reducible rfl|(simp only [Zv,List.map_append,List.map_cons,List.map_nil,eL,List.length_append,List.length_singleton];done));first|exact id|exact nofun|exact fun _=>rfl)))
   all_goals first|exact ⟨rfl,rfl⟩|exact ⟨rfl,rfl,id⟩|exact ⟨rfl,rfl,rfl,rfl⟩|exact ⟨rfl,rfl,fun h => nomatch h⟩
  ·rw [if_pos ⟨ho,hle⟩] at hdz
   have z2:((la.length:Int) ≤ (left:Int)) = True:=eq_true (by omega)
   have hd3:=xE code s2 3 g2
   have ha3:=yZ (n:=3) g2
   obtain ⟨⟨cc,s3⟩,hc3⟩:∃ q,q = nxtF code s2 3:=⟨_,rfl⟩
   rw [← hc3] at hd3 ha3 hdz
   simp only [eI] at hd3 ha3 hdz
   by_cases hc0:cc = 0
   ·subst hc0
    rw [if_pos rfl] at hdz
    obtain ⟨kk,kl⟩:=key la s3 hlv hlc hle ha3 hdz
    obtain ⟨_,hw6⟩:=tail la s3 hle
    have how:=a_l01Own la (by omega)
    simp only [eL] at how
    repeat' (first|with_reducible (first|refine Q1 ?_|refine Q2 ?_|refine Q3 ?_|refine Q4 ?_|refine Q5 ?_|refine Q6 ?_|refine Q7 ?_|refine Q8 ?_|refine Q9 ?_|refine Qa ?_|refine Qb ?_|refine Qc ?_|refine Qd ?_|refine Qe ?_|refine Qf ?_|refine QO ?_|refine QV 8 ?_|refine QY 8 ?_)|with_reducible ((first|apply QS (qQ 60) (((((Tab.none.pin 82 (nxtE code) hpin).pin 126 (drwE code (drw1 (drawG code))) hdw).at' 186 hca).at' 133 how))|apply QC);refine QW ?_;simp only [Zg,Zi,seval,hdt,hd3,nxtE,drwE,i1,z1,z2,q1,q2,hcl,hw6,hom,w5,k5,k6,hgl,hlaM,hwl,k2,k3,hgt,hgtl,Int.toNat_natCast];rfl))
    refine qW.on (k,left - la.length,s3,out ++ [la]) ⟨kk,kl⟩ ?_
    (repeat' (first|exact Qn|((with_reducible refine Qr ?_ ?_);focus first|with_reducible rfl|(simp only [Zz,Nat.reduceBEq,List.map_append,List.map_cons,List.map_nil,eL,List.length_append,List.length_singleton];done)|rfl)|((with_reducible apply Qj);rfl)|((with_reducible refine Qw ?_ ?_);(focus first|with_reducible rfl|(simp only [Zv,List.map_append,List.map_cons,List.map_nil,eL,List.length_append,List.length_singleton];done));first|exact id|exact nofun|exact fun _=>rfl)))
    all_goals first|exact ⟨rfl,rfl⟩|exact ⟨rfl,rfl,id⟩|exact ⟨rfl,rfl,rfl,rfl⟩|exact ⟨rfl,rfl,fun h => nomatch h⟩
   ·rw [if_neg hc0] at hdz
    obtain ⟨kk,kl⟩:=key ct s3 gl gi (by omega) ha3 hdz
    obtain ⟨_,hw6⟩:=tail ct s3 (by omega)
    have bc0:(cc == 0) = false:=by simp [hc0]
    repeat' (first|with_reducible (first|refine Q1 ?_|refine Q2 ?_|refine Q3 ?_|refine Q4 ?_|refine Q5 ?_|refine Q6 ?_|refine Q7 ?_|refine Q8 ?_|refine Q9 ?_|refine Qa ?_|refine Qb ?_|refine Qc ?_|refine Qd ?_|refine Qe ?_|refine Qf ?_|refine QO ?_|refine QV 8 ?_|refine QY 8 ?_)|with_reducible ((first|apply QS (qQ 60) ((((Tab.none.pin 82 (nxtE code) hpin).pin 126 (drwE code (drw1 (drawG code))) hdw).at' 186 hca))|apply QC);refine QW ?_;simp only [Zg,Zi,seval,hdt,hd3,nxtE,drwE,i1,z1,z2,bc0,q1,q2,hcl,hw6,hom,w5,k5,k6,hgl,hlaM,hwl,k2,k3,hgt,hgtl,Int.toNat_natCast];rfl))
    refine qW.on (k,left - ct.length,s3,out ++ [ct]) ⟨kk,kl⟩ ?_
    (repeat' (first|exact Qn|((with_reducible refine Qr ?_ ?_);focus first|with_reducible rfl|(simp only [Zz,Nat.reduceBEq,List.map_append,List.map_cons,List.map_nil,eL,List.length_append,List.length_singleton];done)|rfl)|((with_reducible apply Qj);rfl)|((with_reducible refine Qw ?_ ?_);(focus first|with_reducible rfl|(simp only [Zv,List.map_append,List.map_cons,List.map_nil,eL,List.length_append,List.length_singleton];done));first|exact id|exact nofun|exact fun _=>rfl)))
    all_goals first|exact ⟨rfl,rfl⟩|exact ⟨rfl,rfl,id⟩|exact ⟨rfl,rfl,rfl,rfl⟩|exact ⟨rfl,rfl,fun h => nomatch h⟩
 ·rintro _ _
  repeat' (first|with_reducible (first|refine Q1 ?_|refine Q2 ?_|refine Q3 ?_|refine Q4 ?_|refine Q5 ?_|refine Q6 ?_|refine Q7 ?_|refine Q8 ?_|refine Q9 ?_|refine Qa ?_|refine Qb ?_|refine Qc ?_|refine Qd ?_|refine Qe ?_|refine Qf ?_|refine QO ?_|refine QV 8 ?_|refine QY 8 ?_)|with_reducible ((first|apply QS (qQ 60) (Tab.none.at' 187 hso)|apply QC);refine QW ?_;simp only [Zg,Zi,seval,eL];rfl))
  (refine EndsP.mk (by simp) (rs:=?_) (ks:=?_) (xs':=?_) hres hrts ?_ ?_ ?_ ?_ ?_;rotate_left 3;(focus (simp only [Ze,Zg,Zi,seval];with_reducible rfl));(focus simp);(focus simp);(focus (simp only [look,Nat.reduceEqDiff,Nat.reduceBEq,if_true,if_false];rfl));focus (first|exact ⟨rfl,rfl⟩|exact ⟨rfl,rfl,rfl⟩|skip))
def RU:Rep Int where
 k:=1
 rd:=fun _ _ cs n => cs = [.int .u8 n]∧0 ≤ n∧n ≤ 255
 own:=fun _ cs n F => (cs = [.int .u8 n]∧0 ≤ n∧n ≤ 255)∧F = []
 kpos:=by decide
 rd_len:=by intro A w cs x h;rw [h.1];rfl
 rd_one:=by intro A w cs x h v hv;rw [h.1] at hv;simp at hv;subst hv;rfl
 rd_frame:=fun h _ => h
 rd_mono:=fun h _ => h
 own_rd:=fun h => h.1
 own_frame:=fun h _ => h
 own_lt:=by intro w cs x F h b hb;rw [h.2] at hb;simp at hb
abbrev RBytes:Rep (List Int):=RS RU
theorem opU8:Opens Tryz.prog RU 5:=by
 intro H enc w base spare held fuel cs x h
 obtain ⟨n,rfl,_,hw⟩:=DataW.trod_int Tryz.underlying5 h
 exact ⟨n,rfl,bounds_u8 hw⟩
theorem opBytes:Opens Tryz.prog RBytes 22:=Opens.slice Tryz.underlying22 (by kernel_rfl) opU8
theorem rdU_to {A:Nat→Prop} {w:World}:∀ {code:List Int} {ds:List Value},rdL RU A w ds code→rdL (RK 1 (by decide) (RC 0)) A w ds (code.map eU)∧jB code
 | [],_,h => ⟨h,fun c hc => nomatch hc⟩
 | c :: code,ds,⟨c1,d1,e,⟨h1,h2,h3⟩,h4⟩ => by
  obtain ⟨h5,h6⟩:=rdU_to h4
  refine ⟨⟨c1,d1,e,⟨by rw [h1];rfl,rfl,?_⟩,h5⟩,fun x hx => ?_⟩
  ·rw [h1]
   exact kI.2 ⟨rfl,rfl⟩
  ·rcases List.mem_cons.1 hx with rfl|hx
   ·omega
   ·exact h6 x hx
theorem arg_bytes {w:World} {u:Value} {code:List Int} (h:Rd RBytes w [u] code):kD (· < w.heap.size) w (eCode code) u∧jB code:=by
 obtain ⟨oa,cap,ds,h1,h2,h3,h4,h5,h6⟩:=h
 obtain ⟨k1,k2⟩:=rdU_to h5
 refine ⟨?_,k2⟩
 show rdV _ w u (.sl 1 (code.map eU))
 rw [yA]
 rw [List.length_map]
 exact ⟨oa,cap,ds,(List.cons.inj h1).1,h2,h3,h4,⟨0,by decide,k1⟩,h6⟩
theorem law_code {f:FuncId} (hf:∀ code:List Int,jB code→AFn Tryz.prog f [eCode code] (· = [.val (.bool true)])) (v:Value) (code:List Int) (w:World) (h:Rd RBytes w [v] code):Calls Tryz.prog f #[v] w (RetV w (.bool true)):=by
 obtain ⟨h1,h2⟩:=arg_bytes h
 exact AFn.one (fun _ _ _ h => jD.1 h) (hf code h2) (args1 h1)
theorem a_big (code:List Int):AFn Tryz.prog 10 [eCode code] (· = [.val (.bool (decide (4096 < code.length)))]):=by
 by_cases h:4096 < code.length
 ·have i1:((code.length:Int) > 4096) = True:=eq_true (by omega)
  rw [decide_eq_true h]
  refine AFn.of_runs (qQ 6) Tryz.func10 rfl rfl rfl gz ?_
  have hres:Tryz.f10.results.toList = [.tmp 2]:=rfl
  have hrts:Tryz.f10.resultTypes.toList = [4]:=rfl
  simp only [qK,qB,eL,eI,eLL,eB,Nat.zero_add,Nat.reduceAdd,eCode,dCode]
  intro M
  refine qJ.of ?_
  refine gw141 i1 ?_
  exact gw8
 ·have i1:((code.length:Int) > 4096) = False:=eq_false (by omega)
  rw [decide_eq_false h]
  refine AFn.of_runs (qQ 6) Tryz.func10 rfl rfl rfl gz ?_
  have hres:Tryz.f10.results.toList = [.tmp 2]:=rfl
  have hrts:Tryz.f10.resultTypes.toList = [4]:=rfl
  simp only [qK,qB,eL,eI,eLL,eB,Nat.zero_add,Nat.reduceAdd,eCode,dCode]
  intro M
  refine qJ.of ?_
  refine gw141 i1 ?_
  exact gw8
def xM (code:List Int) (s:Nat × Int) (m:Int):List (List Int) × (Nat × Int) :=
 let f:=xY code s m
 let c:=nxtF code f.2 24
 if c.1 = 0 then
  let t:=drawF code c.2 4
  (f.1 ++ [t.1],t.2)
 else if c.1 = 1 then
  let t:=xV code c.2 3
  (f.1 ++ [t.1],t.2)
 else if c.1 = 2 then ([0,1,1] :: f.1,c.2)
 else (f.1,c.2)
structure FAOk (n:Nat) (f:List (List Int)):Prop where
 sum:qX f ≤ n
 len:f.length ≤ n
theorem drawForF_ok {code:List Int} (hc:jB code) {s:Nat × Int} {m:Int} (hs:s.1 ≤ code.length):FOk m.toNat (xY code s m).1∧(xY code s m).2.1 ≤ code.length:=by
 have hb:=yP hc s (m + 1)
 have ha:=yZ (n:=m + 1) hs
 obtain ⟨h1,h2⟩:=dforF_ok hc (nxtF code s (m + 1)).1.toNat (nxtF code s (m + 1)).1.toNat 0 (s:=(nxtF code s (m + 1)).2) (out:=[]) ⟨by simp,by simp,by simp [qX]⟩ ha
 unfold xY
 simp only
 obtain ⟨Z,hZ⟩:∃ Z,Z = dforF code (nxtF code s (m + 1)).1.toNat (nxtF code s (m + 1)).1.toNat (nxtF code s (m + 1)).2 []:=⟨_,rfl⟩
 rw [← hZ] at h1 h2 ⊢
 refine ⟨⟨fun t ht => h1.lev t (jR.1 ht),fun t ht => h1.can t (jR.1 ht),?_⟩,h2⟩
 have:=kC (show (sortC cmpT Z.1).Perm Z.1 from jG _)
 have hsu:=h1.sum
 show qX (sortC cmpT Z.1) ≤ _
 omega
theorem drawForAnyF_ok {code:List Int} (hc:jB code) {s:Nat × Int} {m:Int} (hs:s.1 ≤ code.length):FAOk (m.toNat + 13) (xM code s m).1∧(xM code s m).2.1 ≤ code.length:=by
 obtain ⟨h1,h2⟩:=drawForF_ok hc (m:=m) hs
 unfold xM
 obtain ⟨f,hf⟩:∃ f,f = xY code s m:=⟨_,rfl⟩
 rw [← hf] at h1 h2 ⊢
 simp only
 have hl:=len_sumD h1.lev
 have hsu:=h1.sum
 have h3:=yZ (n:=24) h2
 split
 ·obtain ⟨g1,g2⟩:=vO hc (m:=4) h3
  have:=g1.len
  refine ⟨⟨?_,by simp;omega⟩,g2⟩
  rw [kO]
  have e:qX [(drawF code (nxtF code f.2 24).2 4).1] = (drawF code (nxtF code f.2 24).2 4).1.length:=by simp [qX]
  have h4:(4:Int).toNat = 4:=rfl
  omega
 ·split
  ·obtain ⟨g1,g2⟩:=drawAnyF_ok hc (m:=3) h3
   have:=g1.len
   refine ⟨⟨?_,by simp;omega⟩,g2⟩
   rw [kO]
   have e:qX [(xV code (nxtF code f.2 24).2 3).1] = (xV code (nxtF code f.2 24).2 3).1.length:=by simp [qX]
   have h4:(3:Int).toNat = 3:=rfl
   omega
  ·split
   ·refine ⟨⟨?_,by simp;omega⟩,h3⟩
    have e:qX ([0,1,1] :: f.1) = 3 + qX f.1:=by simp [qX]
    show qX ([0,1,1] :: f.1) ≤ _
    omega
   ·exact ⟨⟨show qX f.1 ≤ _ by omega,show f.1.length ≤ _ by omega⟩,h3⟩
def vP (code:List Int) (s:Nat × Int) (m:Int):List Res × (Nat × Int):=([.own 1 ((xM code s m).1.map eL) false],(xM code s m).2)
theorem AEp.forget {P:Program} {f:FuncId} {ptr:Bool} {k k':Nat} {xs xs0 ys:List (List D)} {post:List (List D)} (h:AEp P f ptr k xs post (fun r x => r = [.own k' ys true]∧x = xs0)):AEp P f ptr k xs post (fun r x => r = [.own k' ys false]∧x = xs0):=by
 refine ⟨h.call,fun A w us og cap ds a1 a2 a3 a4 a5 a6 => (h.fn A w us og cap ds a1 a2 a3 a4 a5 a6).mono ?_⟩
 rintro e w' ⟨v,rs,x',ds',us',G,X,rfl,⟨rfl,rfl⟩,hb,rfl,hG1,hG2,hrel,hlen,hrow,hrd⟩
 obtain ⟨v1,us1,G1,G2,Y1,Y2,rfl,e1,e2,ho,⟨og',cap',F,dd,rfl,hrow',hk',e3,e4,hel⟩,hend⟩:=hrel
 have hend:us1 = []∧G2 = []∧Y2 = []:=hend
 obtain ⟨rfl,rfl,rfl⟩:=hend
 have hel:ownR k' w' dd ys F:=hel
 rw [List.append_nil] at e1 e2
 have e3:G1 = og'.toList ++ F:=e3
 subst e3;subst e4;subst e1;subst e2
 refine ⟨_,_,_,ds',[_],og'.toList,og'.toList,rfl,⟨rfl,rfl⟩,hb,rfl,(List.nodup_append.1 hG1).1,fun b hb' => hG2 b (List.mem_append_left _ hb'),?_,hlen,hrow,hrd⟩
 refine ⟨_,[],og'.toList,[],og'.toList,[],rfl,by simp,by simp,ho,⟨og',cap',[],dd,rfl,hrow',hk',by simp,rfl,?_⟩,rfl,rfl,rfl⟩
 show rdR k' (fun b => (A b ∨ w.heap.size ≤ b)∧b ∉ og'.toList) w' dd ys
 exact hel.rd.mono (fun b hb' _ => ⟨.inr (hG2 b (List.mem_append_right _ hb')),fun h2 => (List.nodup_append.1 hG1).2.2 b h2 b hb' rfl⟩)
theorem yN0 {code:List Int} (hc:jB code) (hl:code.length ≤ 1000000000):DrawsE Tryz.prog 63 code (drw1 (vP code)):=by
 refine drw1_of fun s m hs hm1 hm2 => ?_
 have hpin:=qX0 hc hl
 have hdw:=(p_l03Draw hc hl).ok
 have hda:=(p_l03DrawAny hc hl).ok
 have hdf:=(p_l03DrawForest hc hl).ok
 have hdt:drwG code (drw1 (vG code)) 3 [srcD code s] [[.int m]] = some ([.own 1 ((xY code s m).1.map eL) true],[srcD code (xY code s m).2]):=vU hs ⟨hm1,hm2⟩
 obtain ⟨h1,h2⟩:=drawForF_ok hc (m:=m) hs
 have hdr:=xE code (xY code s m).2 24 h2
 have hat:=yZ (n:=24) h2
 unfold vP xM
 obtain ⟨⟨f,s1⟩,hp⟩:∃ p,p = xY code s m:=⟨_,rfl⟩
 rw [← hp] at h1 h2 hdr hat hdt ⊢
 simp only at h1 h2 hdr hat hdt ⊢
 obtain ⟨⟨c,s2⟩,hq⟩:∃ p,p = nxtF code s1 24:=⟨_,rfl⟩
 rw [← hq] at hdr hat ⊢
 simp only [eI] at hdr hat ⊢
 have hfl:=len_sumD h1.lev
 have hfs:=h1.sum
 have hfm:(f.map eL).length = f.length:=List.length_map _
 have q1:=jP (n:=f.length + 1) (by omega)
 have q2:=jO (n:=f.length + 1) (c:=24) (by omega) (by omega)
 by_cases c0:c = 0
 ·refine AEp.forget ?_
  subst c0
  have hd0:drwG code (drw1 (drawG code)) 3 [srcD code s2] [[.int (4:Int)]] = some ([.own 1 ((drawF code s2 4).1.map eI) true],[srcD code (drawF code s2 4).2]):=vU hat (by omega)
  obtain ⟨⟨t,s3⟩,ht⟩:∃ p,p = drawF code s2 4:=⟨_,rfl⟩
  rw [← ht] at hd0 ⊢
  simp only [if_true] at hd0 ⊢
  rw [show (f ++ [t]).map eL = f.map eL ++ [[D.sl 1 (t.map eI)]] by rw [List.map_append];rfl]
  refine AEp.of_runs (qQ 32) Tryz.func63 rfl rfl rfl (fun _ => rfl) gz ?_
  have hres:Tryz.f63.results.toList = [.tmp 4]:=rfl
  have hrts:Tryz.f63.resultTypes.toList = [36]:=rfl
  simp only [List.length_cons,List.length_nil,yX,if_true,qK,qB,eL,eI,eLL,eB,Nat.zero_add,Nat.reduceAdd]
  intro M og cap
  refine qJ.of ?_
  refine gw142 (Y6 hdr hdt hd0 hfm q1 q2) ?_
  exact gw127
 ·have e0:(c == 0) = false:=by simp [c0]
  by_cases c1:c = 1
  ·refine AEp.forget ?_
   subst c1
   have hd0:drwG code (drw1 (drawAnyG code)) 3 [srcD code s2] [[.int (3:Int)]] = some ([.own 1 ((xV code s2 3).1.map eI) true],[srcD code (xV code s2 3).2]):=vU hat (by omega)
   obtain ⟨⟨t,s3⟩,ht⟩:∃ p,p = xV code s2 3:=⟨_,rfl⟩
   rw [← ht] at hd0 ⊢
   rw [if_neg c0,if_pos rfl]
   simp only at hd0 ⊢
   rw [show (f ++ [t]).map eL = f.map eL ++ [[D.sl 1 (t.map eI)]] by rw [List.map_append];rfl]
   refine AEp.of_runs (qQ 32) Tryz.func63 rfl rfl rfl (fun _ => rfl) gz ?_
   have hres:Tryz.f63.results.toList = [.tmp 4]:=rfl
   have hrts:Tryz.f63.resultTypes.toList = [36]:=rfl
   simp only [List.length_cons,List.length_nil,yX,if_true,qK,qB,eL,eI,eLL,eB,Nat.zero_add,Nat.reduceAdd]
   intro M og cap
   refine qJ.of ?_
   refine gw143 (Y7 hdr hdt hd0 e0 hfm q1 q2) ?_
   exact gw127
  ·have e1:(c == 1) = false:=by simp [c1]
   by_cases c2:c = 2
   ·subst c2
    rw [if_neg c0,if_neg c1,if_pos rfl]
    rw [show ([0,1,1] :: f).map eL = [D.sl 1 [[D.int 0],[D.int 1],[D.int 1]]] :: f.map eL from rfl]
    have q3:=jP (n:=1 + f.length) (by omega)
    have q4:=jO (n:=1 + f.length) (c:=24) (by omega) (by omega)
    refine AEp.of_runs (qQ 32) Tryz.func63 rfl rfl rfl (fun _ => rfl) gz ?_
    have hres:Tryz.f63.results.toList = [.tmp 4]:=rfl
    have hrts:Tryz.f63.resultTypes.toList = [36]:=rfl
    simp only [List.length_cons,List.length_nil,yX,if_true,qK,qB,eL,eI,eLL,eB,Nat.zero_add,Nat.reduceAdd]
    intro M og cap
    refine qJ.of ?_
    refine gw144 (Y5 hdr hdt e0 e1 hfm) ?_
    refine qJ.frz 5 ?_
    ((refine gw145 ?_);(with_reducible refine qJ.regCut (qQ 32) Tab.none 1 (s1:=?_) ?_ ?_);rotate_left 1;(focus ((with_reducible refine QW ?_);simp only [Zg,Zi,seval];with_reducible rfl));simp only [List.toList_toArray,List.drop_succ_cons,List.drop_zero])
    refine qV.frzs [27] ?_
    (refine qV.opsT (qQ 32) (T:=Tab.none) (s':=?_) ?_ ?_;rotate_left 1;focus (simp only [Zg,Zi,seval,hfm,q3,q4];with_reducible rfl))
    refine gw146 ?_
    exact gw127
   ·have e2:(c == 2) = false:=by simp [c2]
    rw [if_neg c0,if_neg c1,if_neg c2]
    refine AEp.forget ?_
    refine AEp.of_runs (qQ 32) Tryz.func63 rfl rfl rfl (fun _ => rfl) gz ?_
    have hres:Tryz.f63.results.toList = [.tmp 4]:=rfl
    have hrts:Tryz.f63.resultTypes.toList = [36]:=rfl
    simp only [List.length_cons,List.length_nil,yX,if_true,qK,qB,eL,eI,eLL,eB,Nat.zero_add,Nat.reduceAdd]
    intro M og cap
    refine qJ.of ?_
    refine gw144 (Y6 hdr hdt e0 e1 e2 hfm) ?_
    exact gw127
def viaK (P:Program) (cfg:Cfg) (M:Nat→Prop) (b:Code) (fs:List Fr) (Q:Exit→St→Prop) (s1:St):Exit→St→Prop
 | .normal,s => jX s s1
 | e,s => outK P cfg M (.seq b :: fs) Q e s
theorem qJ.via {P:Program} {cfg:Cfg} {M:Nat→Prop} {a b:Code} {fs:List Fr} {Q:Exit→St→Prop} {s:St} (s1:St) (h1:qJ P cfg M a [] (viaK P cfg M b fs Q s1) s) (h2:qJ P cfg M b fs Q s1):qJ P cfg M a (.seq b :: fs) Q s :=
 qU.monoF (Q1:=viaK P cfg M b fs Q s1) h1 fun e s' h => by
  cases e with
  | normal => exact ⟨s1,.inr h,h2⟩
  | _ => exact ⟨s',.inl rfl,h⟩
theorem viaK.on {P:Program} {cfg:Cfg} {M:Nat→Prop} {b:Code} {fs:List Fr} {Q:Exit→St→Prop} {s s1:St} (h:jX s s1):outK P cfg M [] (viaK P cfg M b fs Q s1) .normal s:=h
def drawCF (code:List Int):List (List Int):=(xM code (src0 code) 7).1
theorem drawCF_ok {code:List Int} (hc:jB code):FAOk 20 (drawCF code):=(drawForAnyF_ok hc (s:=src0 code) (m:=7) (Nat.zero_le _)).1
theorem yR0 {code:List Int} (hc:jB code) (hl:code.length ≤ 1000000000):AFn Tryz.prog 18 [eCode code] (· = [.own 1 ((drawCF code).map eL) false]):=by
 have hfrom:=p_l01From hc hl
 have hs:(src0 code).1 ≤ code.length:=Nat.zero_le _
 have hd1:=vU (G:=vP code) hs (m:=7) (by omega)
 unfold drawCF
 have e1:vP code (src0 code) 7 = ([.own 1 ((xM code (src0 code) 7).1.map eL) false],(xM code (src0 code) 7).2):=rfl
 rw [e1] at hd1
 obtain ⟨⟨t,s1⟩,hp⟩:∃ p,p = xM code (src0 code) 7:=⟨_,rfl⟩
 rw [← hp] at hd1 ⊢
 simp only at hd1 ⊢
 simp only [eCode,dCode] at hfrom ⊢
 have hda:=(yN0 hc hl).ok
 refine AFn.of_runs (qQ 6) Tryz.func18 rfl rfl rfl gz ?_
 have hres:Tryz.f18.results.toList = [.tmp 2]:=rfl
 have hrts:Tryz.f18.resultTypes.toList = [36]:=rfl
 simp only [qK,qB,eL,eI,eLL,eB,Nat.zero_add,Nat.reduceAdd,eCode,dCode]
 intro M
 refine qJ.of ?_
 ((refine gw147 ?_);with_reducible (apply QS (qQ 6) Tab.none;refine QW ?_;simp only [Zg,Zi,seval];rfl);(refine gw147 ?_))
 ((refine gw147 ?_);(with_reducible refine qJ.regCut (qQ 6) Tab.none 1 (s1:=?_) ?_ ?_);rotate_left 1;(focus ((with_reducible refine QW ?_);simp only [Zg,Zi,seval];with_reducible rfl));simp only [List.toList_toArray,List.drop_succ_cons,List.drop_zero])
 refine qV.callR (qQ 6) rfl (d:=4) rfl (by decide) rfl rfl rfl rfl hfrom rfl ?_
 intro b
 (refine qV.opsT (qQ 6) (T:=Tab.none.pin 63 (drwE code (drw1 (vP code))) hda) (s':=?_) ?_ ?_;rotate_left 1;focus (simp only [Zg,Zi,seval,hd1,drwE,srcD_len];with_reducible rfl))
 refine gw148 ?_
 exact gw8
theorem codLL_one (t:List Int):codLL.d [.sl 1 [[.sl 1 (t.map eI)]]] = some [t]:=vZ [t]
theorem th_midL {c:Cu} (h:ThZ c) {i:Nat} {l:Kn} (hl:KnOk (256 * i) l) {k:Nat} (hk:k ≤ (cfOf c.1.1).1.length):KnOk (256 * i + k) (addN l (ctbL c ((cfOf c.1.1).1.take k))):=by
 have h1:=addN_ok (ps:=ctbL c ((cfOf c.1.1).1.take k)) hl fun p hp => by
  obtain ⟨z,hz,rfl⟩:=List.mem_map.1 hp
  exact ctbL_bd h _ (List.mem_map.2 ⟨z,List.mem_of_mem_take hz,rfl⟩)
 have e:(ctbL c ((cfOf c.1.1).1.take k)).length = k:=by unfold ctbL;rw [List.length_map,List.length_take];omega
 rw [e] at h1
 exact h1
theorem th_midR {c:Cu} (h:ThZ c) {i:Nat} {l:Kn} (hl:KnOk (256 * i) l) {k:Nat} (hk:k ≤ (trk c.1.2).length):KnOk (256 * i + k) (addN l (ctbR c ((trk c.1.2).take k))):=by
 have h1:=addN_ok (ps:=ctbR c ((trk c.1.2).take k)) hl fun p hp => by
  obtain ⟨z,hz,rfl⟩:=List.mem_map.1 hp
  exact ctbR_bd h _ (List.mem_map.2 ⟨z,List.mem_of_mem_take hz,rfl⟩)
 have e:(ctbR c ((trk c.1.2).take k)).length = k:=by unfold ctbR;rw [List.length_map,List.length_take];omega
 rw [e] at h1
 exact h1
theorem ctb_succL {c:Cu} {S:List (Spl × Int)} {k:Nat} (h:k < S.length) (l:Kn):addN l (ctbL c (S.take (k + 1))) = keepN (addN l (ctbL c (S.take k))) (key3 S[k].1.1 S[k].1.2 [c.1.2]) (c.2 * S[k].2):=by
 have e:ctbL c (S.take (k + 1)) = ctbL c (S.take k) ++ [(key3 S[k].1.1 S[k].1.2 [c.1.2],c.2 * S[k].2)]:=by
  unfold ctbL
  rw [List.take_succ_eq_append_getElem h,List.map_append];rfl
 rw [e,addN_snoc]
theorem ctb_succR {c:Cu} {S:List Cu} {k:Nat} (h:k < S.length) (l:Kn):addN l (ctbR c (S.take (k + 1))) = keepN (addN l (ctbR c (S.take k))) (key3 c.1.1 S[k].1.1 [S[k].1.2]) (c.2 * S[k].2):=by
 have e:ctbR c (S.take (k + 1)) = ctbR c (S.take k) ++ [(key3 c.1.1 S[k].1.1 [S[k].1.2],c.2 * S[k].2)]:=by
  unfold ctbR
  rw [List.take_succ_eq_append_getElem h,List.map_append];rfl
 rw [e,addN_snoc]
noncomputable def TTh:Tab Tryz.prog:=by
 classical
 exact Tab.none.add 16 (tab1 codLL fun f => if ShF f then some [.val (.raw (.string (bb (txF f))))] else none) (kB fun f rs h => by split at h;cases h;rename_i hs;exact a_text9 f hs;cases h)
noncomputable def TNt:Tab Tryz.prog:=Tab.none.add 20 (tab1 codLL fun f => if f.length ≤ 1000∧qX f ≤ 1000 then some [.val (.int (qX f:Nat))] else none) (kB fun f rs h => by split at h;cases h;rename_i hs;exact a_nodes9t f (by have:=hs.1;omega) (by have:=hs.2;omega);cases h)
theorem a_FnThreefold (code:List Int) (hc:jB code):AFn Tryz.prog 3 [eCode code] (· = [.val (.bool true)]):=by
 have hbg:=a_big code
 by_cases hbig:4096 < code.length
 ·rw [decide_eq_true hbig] at hbg
  simp only [eCode,dCode] at hbg
  refine AFn.of_runs (qQ 243) Tryz.func3 rfl rfl rfl gz ?_
  have hres:Tryz.f3.results.toList = [.tmp 2]:=rfl
  have hrts:Tryz.f3.resultTypes.toList = [4]:=rfl
  simp only [qK,qB,eL,eI,eLL,eB,Nat.zero_add,Nat.reduceAdd,eCode,dCode]
  intro M
  refine qJ.of ?_
  refine gw149 ?_
  exact gw8
 rw [decide_eq_false hbig] at hbg
 have hl:code.length ≤ 1000000000:=by omega
 have hroll:=p_roll hc hl 1051 (by decide)
 have htr:=(p_tree9 hc hl).ok
 obtain ⟨s0,hs0⟩:∃ s0,s0 = dice0 1051 code:=⟨_,rfl⟩
 have hs0l:s0.1 ≤ code.length:=by rw [hs0];exact Nat.zero_le _
 rw [← hs0] at hroll
 have hd1:=vU (G:=drawG code) hs0l (m:=6) (by omega)
 obtain ⟨htok,_⟩:=vO hc hs0l (m:=6)
 have htl:=drawF_len hc hs0l (m:=6) (by decide)
 have e1:drawG code s0 6 = ([.own 1 ((drawF code s0 6).1.map eI) true],(drawF code s0 6).2):=rfl
 rw [e1] at hd1
 obtain ⟨⟨t,s1⟩,hp⟩:∃ p,p = drawF code s0 6:=⟨_,rfl⟩
 rw [← hp] at hd1 htok htl
 simp only at hd1 htok htl
 have hlev:=htok.lev
 have ht8:t.length ≤ 8:=Nat.le_trans htl (by decide)
 have hco:=AFn.valT2 (jP0 t)
 have eco:coOf t = (cutsL t,0):=by unfold coOf;rw [if_pos (lev8_mk hlev ht8)]
 rw [eco] at hco
 have hsame:=th_same hlev ht8
 have hz:=th_all hlev ht8
 have hL2:=cuts_two hlev
 have hLl:=(cutsL_th hlev ht8).1
 have hstep:=th_step hz
 obtain ⟨L,hL⟩:∃ L,L = cutsL t:=⟨_,rfl⟩
 rw [← hL] at hco hsame hz hL2 hLl hstep
 have hLm:(L.map eK).length = L.length:=List.length_map _
 have b0:((0:Int) != 0) = false:=by decide
 have l2:((L.length:Int) < 2) = False:=eq_false (by omega)
 obtain ⟨C,hC⟩:∃ C,C = code.map eU:=⟨_,rfl⟩
 simp only [eCode,dCode] at hbg hroll
 rw [← hC] at hbg hroll
 simp only [eL] at hco
 refine AFn.of_runs (qQ 243) Tryz.func3 rfl rfl rfl gz ?_
 have hres:Tryz.f3.results.toList = [.tmp 2]:=rfl
 have hrts:Tryz.f3.resultTypes.toList = [4]:=rfl
 simp only [qK,qB,eL,eI,eLL,eB,Nat.zero_add,Nat.reduceAdd,eCode,dCode]
 intro M
 refine qJ.of ?_
 rw [← hC]
 refine gw149 ?_
 ((refine gw150 ?_);(with_reducible refine qJ.regCut (qQ 243) Tab.none 1 (s1:=?_) ?_ ?_);rotate_left 1;(focus ((with_reducible refine QW ?_);simp only [Zg,Zi,seval];with_reducible rfl));simp only [List.toList_toArray,List.drop_succ_cons,List.drop_zero])
 refine qV.callR (qQ 243) rfl (d:=29) rfl (by decide) rfl rfl rfl rfl hroll rfl ?_
 intro b
 (refine qV.opsT (qQ 243) (T:=Tab.none.pin 11 (drwE code (drw1 (drawG code))) htr) (s':=?_) ?_ ?_;rotate_left 1;focus (simp only [Zg,Zi,seval,hd1,drwE,srcD_len];with_reducible rfl))
 refine gw151 (Y3 b0 l2 hLm) ?_
 refine qJ.loop (β:=Nat) (γ:=Unit) (fun i => ⟨[(0,.c (.val (.sl 1 C))),(4,.c (.val (.sl 3 (L.map eK)))),(6,.c (.own 6 (addN [] (conL (L.take i))).length)),(7,.c (.own 7 (addN [] (conR (L.take i))).length)),(8,.c (.val (.int i)))],[(6,.row 2 ((addN [] (conL (L.take i))).map eKn) false),(7,.row 2 ((addN [] (conR (L.take i))).map eKn) false)]⟩) (fun i => i ≤ L.length) (fun i => L.length - i)
  (fun _ => ⟨[(0,.c (.val (.sl 1 C))),(6,.c (.own 6 (addN [] (conL L)).length)),(7,.c (.own 7 (addN [] (conR L)).length))],[(6,.row 2 ((addN [] (conL L)).map eKn) false),(7,.row 2 ((addN [] (conR L)).map eKn) false)]⟩) (fun _ => True) 0 (Nat.zero_le _) ?_ ?_ ?_
 ·exact gw152 (Yp (show addN [] (conL (L.take 0)) = [] from rfl) (show addN [] (conR (L.take 0)) = [] from rfl))
 ·intro i hi
  have hi:i ≤ L.length:=hi
  have hw:=qL (n:=i) (by omega)
  by_cases h:i < L.length
  rotate_left
  ·have i1:((i:Int) < (L.length:Int)) = False:=eq_false (by omega)
   obtain rfl:i = L.length:=by omega
   rw [List.take_length]
   refine gw153 (Yp i1 hLm) ?_
   refine qW.out () trivial ?_
   exact gw154
  have i1:((i:Int) < (L.length:Int)) = True:=eq_true (by omega)
  have i2:((0:Int) ≤ (i:Int)) = True:=eq_true (by omega)
  have hZ:=hz L[i] (List.getElem_mem _)
  obtain ⟨hkl,hkr⟩:=hstep i hi
  have hnl:=con_succL h
  have hnr:=con_succR h
  obtain ⟨c,hcd⟩:∃ c,c = L[i]:=⟨_,rfl⟩
  rw [← hcd] at hZ hnl hnr
  have hg:(L.map eK)[i]? = some [.sl 1 (c.1.1.map eL),.sl 1 (c.1.2.map eI),.int c.2]:=by rw [qR h,hcd];rfl
  have hcf:=AFn.valT2 (yQ0 c.1.1 (by have:=hZ.cs;omega) (by have:=hZ.cl;omega))
  rw [hZ.cf] at hcf
  obtain ⟨l,hlq⟩:∃ l,l = addN [] (conL (L.take i)):=⟨_,rfl⟩
  obtain ⟨r,hrq⟩:∃ r,r = addN [] (conR (L.take i)):=⟨_,rfl⟩
  have hnl:addN [] (conL (L.take (i + 1))) = addN l (ctbL c (cfOf c.1.1).1):=by rw [hnl,wK,hlq]
  have hnr:addN [] (conR (L.take (i + 1))) = addN r (ctbR c (trk c.1.2)):=by rw [hnr,wK,hrq]
  rw [← hlq] at hkl ⊢
  rw [← hrq] at hkr ⊢
  have hml:=fun k hk => th_midL hZ hkl (k:=k) hk
  have hmr:=fun k hk => th_midR hZ hkr (k:=k) hk
  have hln:=hZ.ln
  have hlt:=hZ.lt
  have haL:=hZ.aL
  have haR:=hZ.aR
  have shT:=eq_true hZ.shT
  have shC:=eq_true hZ.shC
  have xT:=hZ.shT.len
  have xC:=hZ.shC.len
  obtain ⟨S,hS⟩:∃ S,S = (cfOf c.1.1).1:=⟨_,rfl⟩
  obtain ⟨R,hR⟩:∃ R,R = trk c.1.2:=⟨_,rfl⟩
  rw [← hS] at hcf hnl hml hln haL
  rw [← hR] at hnr hmr hlt haR
  have hSm:(S.map eSs).length = S.length:=List.length_map _
  have hRm:(R.map eK).length = R.length:=List.length_map _
  have htm:(c.1.2.map eI).length = c.1.2.length:=List.length_map _
  simp only [eLL] at hcf
  refine gw155 (Y5 i1 i2 hg hLm htm) ?_
  refine qJ.via ⟨[(0,.c (.val (.sl 1 C))),(4,.c (.val (.sl 3 (L.map eK)))),(6,.c (.own 6 l.length)),(7,.c (.own 7 r.length)),(8,.c (.val (.int i))),(9,.c (.val (.sl 3 (S.map eSs)))),(10,.c (.val (.int 0))),(11,.c (.val (.sl 3 (R.map eK)))),(12,.c (.val (.int 0)))],[(6,.row 2 (l.map eKn) false),(7,.row 2 (r.map eKn) false)]⟩ ?_ ?_
  ·rcases hZ.tr with hc0|⟨hc1,hc2⟩
   ·have hx:¬ ((c.1.2.length:Int) > 0):=by rw [hc0];simp
    have hR0:R.map eK = [[.sl 1 [],.sl 1 [],.int 1]]:=by rw [hR,hc0];rfl
    rw [hR0]
    rw [decide_eq_false hx]
    refine qJ.frz 11 ?_
    refine qJ.fits (s0:=⟨[(0,.c (.val (.sl 1 C))),(4,.c (.val (.sl 3 (L.map eK)))),(6,.c (.own 6 l.length)),(7,.c (.own 7 r.length)),(8,.c (.val (.int i))),(9,.c (.val (.sl 3 (S.map eSs)))),(10,.c (.val (.int 0))),(11,.c (.val (.sl 3 [[.sl 1 [],.sl 1 [],.int 1]]))),(12,.c (.val (.int 0)))],[(6,.row 2 (l.map eKn) false),(7,.row 2 (r.map eKn) false)]⟩) ?_ ?_
    ·exact gw156
    refine gw153 Y0 ?_
    refine viaK.on ?_
    exact gw154
   ·have hx:((c.1.2.length:Int) > 0):=by have:=List.length_pos_iff.2 hc2;omega
    have hRe:R = cutsL c.1.2:=by rw [hR];unfold trk;rw [if_neg hc2]
    have hco2:=AFn.valT2 (jP0 c.1.2)
    rw [hc1,← hRe] at hco2
    simp only [eL] at hco2
    rw [decide_eq_true hx]
    refine gw157 (Y4 i1 i2 hg hLm) ?_
    refine viaK.on ?_
    exact gw154
  refine gw153 b0 ?_
  refine qJ.loop (β:=Nat) (γ:=Unit) (fun k => ⟨[(0,.c (.val (.sl 1 C))),(4,.c (.val (.sl 3 (L.map eK)))),(6,.c (.own 6 (addN l (ctbL c (S.take k))).length)),(7,.c (.own 7 r.length)),(8,.c (.val (.int i))),(9,.c (.val (.sl 3 (S.map eSs)))),(11,.c (.val (.sl 3 (R.map eK)))),(13,.c (.val (.int k)))],[(6,.row 2 ((addN l (ctbL c (S.take k))).map eKn) false),(7,.row 2 (r.map eKn) false)]⟩) (fun k => k ≤ S.length) (fun k => S.length - k)
   (fun _ => ⟨[(0,.c (.val (.sl 1 C))),(4,.c (.val (.sl 3 (L.map eK)))),(6,.c (.own 6 (addN l (ctbL c S)).length)),(7,.c (.own 7 r.length)),(8,.c (.val (.int i))),(11,.c (.val (.sl 3 (R.map eK))))],[(6,.row 2 ((addN l (ctbL c S)).map eKn) false),(7,.row 2 (r.map eKn) false)]⟩) (fun _ => True) 0 (Nat.zero_le _) ?_ ?_ ?_
  ·exact gw158 (show addN l (ctbL c (S.take 0)) = l from rfl)
  ·intro k hk
   have hk:k ≤ S.length:=hk
   have hwk:=qL (n:=k) (by omega)
   by_cases h':k < S.length
   rotate_left
   ·have j1:((k:Int) < (S.length:Int)) = False:=eq_false (by omega)
    obtain rfl:k = S.length:=by omega
    rw [List.take_length]
    refine gw153 (Yp j1 hSm) ?_
    refine qW.out () trivial ?_
    exact gw154
   have j1:((k:Int) < (S.length:Int)) = True:=eq_true (by omega)
   have j2:((0:Int) ≤ (k:Int)) = True:=eq_true (by omega)
   have hkn:=hml k hk
   have hst:=ctb_succL (c:=c) h' l
   obtain ⟨a1,a2,a3,a4⟩:=haL S[k] (List.getElem_mem _)
   obtain ⟨z,hzd⟩:∃ z,z = S[k]:=⟨_,rfl⟩
   rw [← hzd] at hst a1 a2 a3 a4
   have hgz:(S.map eSs)[k]? = some [.sl 1 (z.1.1.map eL),.sl 1 (z.1.2.map eL),.int z.2]:=by rw [qR h',hzd];rfl
   have x1:=a1.len
   have x2:=a2.len
   have sh1:=eq_true a1
   have sh2:=eq_true a2
   have wm:w64 (c.2 * z.2) = c.2 * z.2:=jQ (by omega)
   unfold key3 at hst
   obtain ⟨m,hm⟩:∃ m,m = addN l (ctbL c (S.take k)):=⟨_,rfl⟩
   rw [← hm] at hkn hst ⊢
   obtain ⟨X,hX⟩:∃ X,X = txF z.1.1:=⟨_,rfl⟩
   obtain ⟨Y,hY⟩:∃ Y,Y = txF z.1.2:=⟨_,rfl⟩
   obtain ⟨Z,hZZ⟩:∃ Z,Z = txF [c.1.2]:=⟨_,rfl⟩
   rw [← hX,← hY,← hZZ] at hst
   rw [← hX] at x1
   rw [← hY] at x2
   rw [← hZZ] at xT
   have e1:=bb_le (p:=X) (q:=[124]) (by simp;omega)
   have e2:=bb_le (p:=X ++ [124]) (q:=Y) (by simp;omega)
   have e3:=bb_le (p:=X ++ [124] ++ Y) (q:=[124]) (by simp;omega)
   have e4:=bb_le (p:=X ++ [124] ++ Y ++ [124]) (q:=Z) (by simp;omega)
   have hkp:=a_keep9 m (X ++ [124] ++ Y ++ [124] ++ Z) (c.2 * z.2) hkn (by omega) ⟨a3,a4⟩
   simp only [eI] at hkp
   refine gw153 (Yp j1 hSm) ?_
   ((with_reducible refine qJ.wFz (qQ 243) TTh qA [111] (tr:=?_) (s1:=?_) (rest:=?_) ?_ ?_ ?_);rotate_left 3;(focus ((with_reducible refine QW ?_);simp only [Zg,Zd,Zi,seval,drunF,xP,kG,valD,vW,List.contains_cons,List.contains_nil,TTh,TTh,vZ,codLL_one,sh1,sh2,shT,← hX,← hY,← hZZ,bb_bar,bb_app,e1,e2,e3,e4,wm,i1,i2,j1,j2,hg,hgz,hLm,hSm,Int.toNat_natCast];with_reducible rfl));focus ((with_reducible refine QK ?_);simp only [Zk];kernel_rfl))
   (refine qV.opsT (qQ 243) (T:=Tab.none.own' 15 0 hkp) (s':=?_) ?_ ?_;rotate_left 1;focus (simp only [Zg,Zi,seval,Tab.own',atOwn_eq];with_reducible rfl))
   refine gw153 hwk ?_
   refine qW.on (k + 1) ⟨h',by omega⟩ ?_
   rw [hst]
   exact gw154
  intro _ _
  refine gw153 Y0 ?_
  rw [← hnl]
  obtain ⟨l',hl'⟩:∃ l',l' = addN [] (conL (L.take (i + 1))):=⟨_,rfl⟩
  rw [← hl']
  refine qJ.loop (β:=Nat) (γ:=Unit) (fun k => ⟨[(0,.c (.val (.sl 1 C))),(4,.c (.val (.sl 3 (L.map eK)))),(6,.c (.own 6 l'.length)),(7,.c (.own 7 (addN r (ctbR c (R.take k))).length)),(8,.c (.val (.int i))),(11,.c (.val (.sl 3 (R.map eK)))),(14,.c (.val (.int k)))],[(6,.row 2 (l'.map eKn) false),(7,.row 2 ((addN r (ctbR c (R.take k))).map eKn) false)]⟩) (fun k => k ≤ R.length) (fun k => R.length - k)
   (fun _ => ⟨[(0,.c (.val (.sl 1 C))),(4,.c (.val (.sl 3 (L.map eK)))),(6,.c (.own 6 l'.length)),(7,.c (.own 7 (addN r (ctbR c R)).length)),(8,.c (.val (.int i)))],[(6,.row 2 (l'.map eKn) false),(7,.row 2 ((addN r (ctbR c R)).map eKn) false)]⟩) (fun _ => True) 0 (Nat.zero_le _) ?_ ?_ ?_
  ·exact gw158 (show addN r (ctbR c (R.take 0)) = r from rfl)
  ·intro k hk
   have hk:k ≤ R.length:=hk
   have hwk:=qL (n:=k) (by omega)
   by_cases h':k < R.length
   rotate_left
   ·have j1:((k:Int) < (R.length:Int)) = False:=eq_false (by omega)
    obtain rfl:k = R.length:=by omega
    rw [List.take_length]
    refine gw153 (Yp j1 hRm) ?_
    refine qW.out () trivial ?_
    exact gw154
   have j1:((k:Int) < (R.length:Int)) = True:=eq_true (by omega)
   have j2:((0:Int) ≤ (k:Int)) = True:=eq_true (by omega)
   have hkn:=hmr k hk
   have hst:=ctb_succR (c:=c) h' r
   obtain ⟨a1,a2,a3,a4⟩:=haR R[k] (List.getElem_mem _)
   obtain ⟨d,hdd⟩:∃ d,d = R[k]:=⟨_,rfl⟩
   rw [← hdd] at hst a1 a2 a3 a4
   have hgd:(R.map eK)[k]? = some [.sl 1 (d.1.1.map eL),.sl 1 (d.1.2.map eI),.int d.2]:=by rw [qR h',hdd];rfl
   have x1:=a1.len
   have x2:=a2.len
   have sh1:=eq_true a1
   have sh2:=eq_true a2
   have wm:w64 (c.2 * d.2) = c.2 * d.2:=jQ (by omega)
   unfold key3 at hst
   obtain ⟨m,hm⟩:∃ m,m = addN r (ctbR c (R.take k)):=⟨_,rfl⟩
   rw [← hm] at hkn hst ⊢
   obtain ⟨X,hX⟩:∃ X,X = txF c.1.1:=⟨_,rfl⟩
   obtain ⟨Y,hY⟩:∃ Y,Y = txF d.1.1:=⟨_,rfl⟩
   obtain ⟨Z,hZZ⟩:∃ Z,Z = txF [d.1.2]:=⟨_,rfl⟩
   rw [← hX,← hY,← hZZ] at hst
   rw [← hX] at xC
   rw [← hY] at x1
   rw [← hZZ] at x2
   have e1:=bb_le (p:=X) (q:=[124]) (by simp;omega)
   have e2:=bb_le (p:=X ++ [124]) (q:=Y) (by simp;omega)
   have e3:=bb_le (p:=X ++ [124] ++ Y) (q:=[124]) (by simp;omega)
   have e4:=bb_le (p:=X ++ [124] ++ Y ++ [124]) (q:=Z) (by simp;omega)
   have hkp:=a_keep9 m (X ++ [124] ++ Y ++ [124] ++ Z) (c.2 * d.2) hkn (by omega) ⟨a3,a4⟩
   simp only [eI] at hkp
   refine gw153 (Yp j1 hRm) ?_
   ((with_reducible refine qJ.wFz (qQ 243) TTh qA [153] (tr:=?_) (s1:=?_) (rest:=?_) ?_ ?_ ?_);rotate_left 3;(focus ((with_reducible refine QW ?_);simp only [Zg,Zd,Zi,seval,drunF,xP,kG,valD,vW,List.contains_cons,List.contains_nil,TTh,TTh,vZ,codLL_one,sh1,sh2,shC,← hX,← hY,← hZZ,bb_bar,bb_app,e1,e2,e3,e4,wm,i1,i2,j1,j2,hg,hgd,hLm,hRm,Int.toNat_natCast];with_reducible rfl));focus ((with_reducible refine QK ?_);simp only [Zk];kernel_rfl))
   (refine qV.opsT (qQ 243) (T:=Tab.none.own' 15 0 hkp) (s':=?_) ?_ ?_;rotate_left 1;focus (simp only [Zg,Zi,seval,Tab.own',atOwn_eq];with_reducible rfl))
   refine gw153 hwk ?_
   refine qW.on (k + 1) ⟨h',by omega⟩ ?_
   rw [hst]
   exact gw154
  intro _ _
  rw [← hnr]
  refine gw153 hw ?_
  refine qW.on (i + 1) ⟨h,by omega⟩ ?_
  rw [← hl']
  exact gw154
 intro _ _
 obtain ⟨hsl,hsm⟩:=hsame
 have hkl:=(hstep L.length (Nat.le_refl _)).kl
 rw [List.take_length] at hkl
 have heq:=a_equal9 (addN [] (conL L)) (addN [] (conR L)) hsl hsm (by have:=hkl.len;omega)
 obtain ⟨l,hlq⟩:∃ l,l = addN [] (conL L):=⟨_,rfl⟩
 obtain ⟨r,hrq⟩:∃ r,r = addN [] (conR L):=⟨_,rfl⟩
 rw [← hlq,← hrq] at heq ⊢
 have hdf:=AFn.val1 (yR0 hc hl)
 have hfk:=drawCF_ok hc
 obtain ⟨f,hf⟩:∃ f,f = drawCF code:=⟨_,rfl⟩
 rw [← hf] at hdf hfk
 have hf1:=hfk.sum
 have hf2:=hfk.len
 have hc1:=AFn.valT2 (yQ0 f (by omega) (by omega))
 obtain ⟨fl,hc2⟩:=yP0 f (by omega) (by omega)
 have hc2:=AFn.valB2 hc2
 simp only [eCode,dCode] at hdf
 rw [← hC] at hdf
 simp only [eLL] at hc1 hc2
 have b1:((1:Int) != 0) = true:=by decide
 have b11:((1:Int) != 1) = false:=by decide
 have b00:((0:Int) == 0) = true:=by decide
 by_cases hF:forB f = true
 rotate_left
 ·have ec:cfOf f = ([],1):=by unfold cfOf;rw [if_neg hF]
  rw [ec] at hc1 hc2
  refine gw159 (Y3 b1 b11 b00) ?_
  exact gw8
 have TF:=th_for hF
 have htot:=totZ_all hF
 have ec2:(cfOf f).2 = 0:=by unfold cfOf;rw [if_pos hF]
 rw [ec2] at hc1 hc2
 have tl:=TF.ln
 have tz:=TF.z
 have tzl:=TF.zl
 have tcc:=TF.cc
 have tpc:=TF.pc
 obtain ⟨ts1,ts2⟩:=TF.sl
 have tlv:=TF.lv
 obtain ⟨S,hS⟩:∃ S,S = (cfOf f).1:=⟨_,rfl⟩
 rw [← hS] at hc1 hc2 htot tl tz tzl
 have htb:=totZ_bd fun z hz => (tz z hz).1
 have hSm:(S.map eSs).length = S.length:=List.length_map _
 have hfm:(f.map eL).length = f.length:=List.length_map _
 have n3:=eq_true (show f.length ≤ 1000∧qX f ≤ 1000 from ⟨by omega,by omega⟩)
 refine gw160 b0 ?_
 refine qJ.loop (β:=Nat) (γ:=Unit) (fun k => ⟨[(15,.c (.val (.sl 1 (f.map eL)))),(16,.c (.val (.sl 3 (S.map eSs)))),(20,.c (.val (.int (totZ S k)))),(21,.c (.val (.int 1))),(22,.c (.val (.int k)))],[]⟩) (fun k => k ≤ S.length) (fun k => S.length - k)
  (fun _ => ⟨[(15,.c (.val (.sl 1 (f.map eL)))),(20,.c (.val (.int (pcF f:Nat)))),(21,.c (.val (.int 1)))],[]⟩) (fun _ => True) 0 (Nat.zero_le _) ?_ ?_ ?_
 ·exact gw116 (show totZ S 0 = 0 from rfl)
 ·intro k hk
  have hk:k ≤ S.length:=hk
  have hwk:=qL (n:=k) (by omega)
  by_cases h':k < S.length
  rotate_left
  ·have j1:((k:Int) < (S.length:Int)) = False:=eq_false (by omega)
   obtain rfl:k = S.length:=by omega
   rw [htot]
   refine gw153 (Yp j1 hSm) ?_
   refine qW.out () trivial ?_
   exact gw6
  have j1:((k:Int) < (S.length:Int)) = True:=eq_true (by omega)
  have j2:((0:Int) ≤ (k:Int)) = True:=eq_true (by omega)
  have hst:=totZ_succ h'
  have hb:=htb k hk
  obtain ⟨hz1,hz2⟩:=tz S[k] (List.getElem_mem _)
  obtain ⟨hz3,hz4⟩:=tzl S[k] (List.getElem_mem _)
  obtain ⟨z,hzd⟩:∃ z,z = S[k]:=⟨_,rfl⟩
  rw [← hzd] at hst hz1 hz2 hz3 hz4
  have hgz:(S.map eSs)[k]? = some [.sl 1 (z.1.1.map eL),.sl 1 (z.1.2.map eL),.int z.2]:=by rw [qR h',hzd];rfl
  have n1:=eq_true (show z.1.1.length ≤ 1000∧qX z.1.1 ≤ 1000 from ⟨by omega,by omega⟩)
  have n2:=eq_true (show z.1.2.length ≤ 1000∧qX z.1.2 ≤ 1000 from ⟨by omega,by omega⟩)
  have w1:w64 (totZ S k + z.2) = totZ S (k + 1):=by rw [hst,jQ (by omega)]
  have w2:w64 (((qX z.1.1:Nat):Int) + ((qX z.1.2:Nat):Int)) = ((qX f:Nat):Int):=by rw [jQ (by omega)];omega
  have bff:(((qX f:Nat):Int) != ((qX f:Nat):Int)) = false:=by simp
  refine gw161 (Y11 n1 n2 n3 w1 w2 bff j1 j2 hgz hSm hwk) ?_
  refine qW.on (k + 1) ⟨h',by omega⟩ ?_
  exact gw6
 intro _ _
 refine gw153 Y0 ?_
 refine qJ.loop (β:=Nat) (γ:=Unit) (fun k => ⟨[(15,.c (.val (.sl 1 (f.map eL)))),(20,.c (.val (.int (pcF f:Nat)))),(21,.c (.val (.int (pcF (f.take k):Nat)))),(23,.c (.val (.int k)))],[]⟩) (fun k => k ≤ f.length) (fun k => f.length - k)
  (fun _ => ⟨[(20,.c (.val (.int (pcF f:Nat)))),(21,.c (.val (.int (pcF f:Nat))))],[]⟩) (fun _ => True) 0 (Nat.zero_le _) ?_ ?_ ?_
 ·exact gw121 (show pcF [] = 1 from rfl)
 ·intro k hk
  have hk:k ≤ f.length:=hk
  have hwk:=qL (n:=k) (by omega)
  by_cases h':k < f.length
  rotate_left
  ·have j1:((k:Int) < (f.length:Int)) = False:=eq_false (by omega)
   obtain rfl:k = f.length:=by omega
   rw [List.take_length]
   refine gw153 (Yp j1 hfm) ?_
   refine qW.out () trivial ?_
   exact gw6
  have j1:((k:Int) < (f.length:Int)) = True:=eq_true (by omega)
  have j2:((0:Int) ≤ (k:Int)) = True:=eq_true (by omega)
  have hst:=pcF_succ h'
  have hle:=pcF_take tlv (k + 1)
  have hccv:=tcc f[k] (List.getElem_mem _)
  have hcn:=a_impl_CountCuts f[k]
  rw [hccv] at hcn
  obtain ⟨u,hu⟩:∃ u,u = f[k]:=⟨_,rfl⟩
  rw [← hu] at hst hcn
  have hgu:(f.map eL)[k]? = some [.sl 1 (u.map eI)]:=by rw [qR h',hu];rfl
  have w1:w64 (((pcF (f.take k):Nat):Int) * (((split u).length:Nat):Int)) = ((pcF (f.take (k + 1)):Nat):Int):=by
   have e:((pcF (f.take k):Nat):Int) * (((split u).length:Nat):Int) = ((pcF (f.take (k + 1)):Nat):Int):=by rw [hst,Int.natCast_mul]
   rw [e,jQ (by omega)]
  simp only [eL] at hcn
  refine gw162 (Y7 j1 j2 hgu hfm b0 w1 hwk) ?_
  refine qW.on (k + 1) ⟨h',by omega⟩ ?_
  exact gw6
 intro _ _
 refine gw153 Y0 ?_
 exact gw8
theorem walk_FnThreefold (v0:Value) (x0:List Int) (w:World) (h0:Rd RBytes w [v0] x0):Calls Tryz.prog 3 #[v0] w (RetV w (.bool true)):=law_code (fun code hc => a_FnThreefold code hc) v0 x0 w h0
end Go.Proofs.YtedgfkpfhonlpaaGreat

/- Lemmas (9). -/
import Derived.BigQuiet
import Derived.Test.YtedgfkpfhonlpaaGreatZN4
import Derived.Test.YtedgfkpfhonlpaaGreatZN5
import Derived.Test.YtedgfkpfhonlpaaGreatZN6
import Derived.Test.YtedgfkpfhonlpaaGreatZN7
import Derived.Test.YtedgfkpfhonlpaaGreatZN8
set_option maxHeartbeats 16000000
set_option maxRecDepth 100000
set_option linter.unusedSimpArgs false
set_option linter.unusedVariables false
namespace Go.Proofs.YtedgfkpfhonlpaaGreat
open Go.RowKit
theorem yT0 (f:List (List Int)) (hl:f.length ≤ 1000) (hs:∀ b ∈ f,b.length ≤ 1000):AFn Tryz.prog 67 [eLL f] (· = [.own 1 (f.map eL) false]):=by
 refine AFn.of_runs (qX 21) Tryz.func67 rfl rfl rfl gz ?_
 have hres:Tryz.f67.results.toList = [.tmp 2]:=rfl
 have hrts:Tryz.f67.resultTypes.toList = [36]:=rfl
 simp only [qU,qT,eL,eI,eLL,eB,Nat.zero_add,Nat.reduceAdd]
 intro M
 refine qJ.of ?_
 refine gw1 (kk 5) ?_
 refine qJ.loop (β:=Nat) (γ:=Unit) (fun i => ⟨[(0,.c (.val (.sl 1 (f.map eL)))),(3,.c (.own 3 (f.take i).length)),(4,.c (.val (.int i)))],[(3,.row 1 ((f.take i).map eL) false)]⟩) (fun i => i ≤ f.length) (fun i => f.length - i)
  (fun _ => ⟨[(3,.c (.own 3 f.length))],[(3,.row 1 (f.map eL) false)]⟩) (fun _ => True) 0 (Nat.zero_le _) ?_ ?_ ?_
 ·exact gw2
 ·intro i hi
  have hi:i ≤ f.length:=hi
  have hw:=qD (n:=i) (by omega)
  by_cases h:i < f.length
  ·have i1:((i:Int) < (f.length:Int)) = True:=eq_true (by omega)
   have i2:((0:Int) ≤ (i:Int)) = True:=eq_true (by omega)
   obtain ⟨t,ht⟩:∃ t,t = f[i]:=⟨_,rfl⟩
   have hg:(f.map eL)[i]? = some [.sl 1 (t.map eI)]:=by rw [qE h,ht];rfl
   have htl:t.length ≤ 1000:=hs t (by rw [ht];exact List.getElem_mem h)
   have how:=a_l01Own t (by omega)
   simp only [eL] at how
   have htk:f.take (i + 1) = f.take i ++ [t]:=by rw [ht];exact List.take_succ_eq_append_getElem h
   have hil:(f.take i).length = i:=by rw [List.length_take];omega
   have q1:=jW (n:=(f.take i).length + 1) (by omega)
   have q2:=jZ (n:=(f.take i).length + 1) (c:=24) (by omega) (by omega)
   refine gw3 (kk 5) (Y6 i1 i2 hg hw q1 q2) ?_
   refine qY.on (i + 1) ⟨h,by omega⟩ ?_
   rw [htk]
   exact gw4
  ·have i1:((i:Int) < (f.length:Int)) = False:=eq_false (by omega)
   obtain rfl:i = f.length:=by omega
   rw [List.take_length]
   refine gw5 (kk 5) i1 ?_
   refine qY.out () trivial ?_
   exact gw6 Y0
 ·rintro _ _
  refine gw7 (kk 5) Y0 ?_
  exact gw8
theorem sortC_take_succ' {c:List Int→List Int→Int} {t:List (List Int)} (k:Nat) (h:k < t.length):sortC c (t.take (k + 1)) = ins c t[k] (sortC c (t.take k)):=by
 rw [List.take_succ_eq_append_getElem h,sortC_snoc]
theorem own_step {W:World} {ops:Array Oper} {o:Oper} {a:Act} {K:Act→World→Prop} {Q:Exit→Act→World→Prop} {E:Prop} (hgd:o.guard = none) (args:Array Operand) (ts:Array TypeId)
  (ho:o.op = .call { callee:=.value (.func 133),args:=args,argTypes:=ts }) (v:Value) (x:List Int) (hv:args.map a.eval = #[v]) (wb:World) (hW:W.heap = wb.heap) (hr:Rd (RS RI) wb [v] x) (hxl:x.length ≤ 1000000000)
  (h:∀ ou cu w2,Own (RS RI) wb.heap.size w2.heap.size w2 [.slice ou x.length cu] x→Below wb.heap.size W w2→wb.heap.size ≤ w2.heap.size→K (a.put o.dst (.slice ou x.length cu)) w2) :
  if Region.wanted o (yielded ops a.tmps) = true then Oper.wp Tryz.prog o a W K Q else E:=by
 refine step_call hgd 133 args ts ho (enters (P:=Tryz.prog) (f:=133) Tryz.func133 (by kernel_rfl) rfl) #[v] hv ?_
 refine (kD0 v x W (hr.of_heap hW) hxl).mono ?_
 rintro e w2 ⟨u,rfl,o2,b2⟩
 obtain ⟨ou,cu,rfl,_⟩:=o2.val
 rw [hW] at o2 b2
 exact ⟨_,rfl,h ou cu w2 o2 b2 (by have:=b2.size;rw [hW] at this;exact this)⟩
theorem c_spec_l03Sort (v:Value) (bs:List (List Int)) (w:World) (h:Rd (RS (RS RI)) w [v] bs) (hsz:bs.length ≤ 1000000) (hsl:∀ b ∈ bs,b.length ≤ 1000000000) :
  Calls Tryz.prog 187 #[v] w (RetO (RS (RS RI)) w (forest bs)):=by
 obtain ⟨oa,cap,L⟩:=h.lists
 obtain rfl:=L.val
 have m1:=L.le;have m2:=L.capLe
 have HL:=Lib.hid L
 have HS:=Lib.hid hsl
 have EGL:=Lib.hid (enters (P:=Tryz.prog) (f:=133) Tryz.func133 (by kernel_rfl) rfl)
 clear L h hsl
 go_enter Tryz.func187,Tryz.ntmps187
 go_wp2_with fail
 go_loopw [3,4] (fun o i wr => ∃ (k:Nat) (ys:List (List Int)),k ≤ bs.length∧i = .int .i64 k∧Hid (ys = sortC cmpT (bs.take k))∧Hid (ys.length = k)∧(∃ g cap,o = .slice (some ⟨g,0,none⟩) ys.length cap)∧Hid (Own (RS (RS RI)) w.heap.size wr.heap.size wr [o] ys)∧Below w.heap.size w wr) (fun _ i _ => bs.length - (intOf i).toNat)
 case atStart => exact ⟨0,[],Nat.zero_le _,rfl,Lib.hid (by simp [sortC]),Lib.hid rfl,⟨_,_,rfl⟩,Lib.hid ((Own.empty (R:=RS RI) (w:=w) 24 w.heap.size (Nat.le_refl _)).top _ (by simp)),(Below.refl _ _).alloc (Nat.le_refl _) _⟩
 case round =>
  obtain ⟨k,ys,hk,rfl,hys,Hyl,⟨g0,cap0,rfl⟩,hown,hbel⟩:=hrel
  have hsz2:=hbel.size
  obtain ⟨wo,hwo⟩:∃ wo:World,wo = wr:=⟨_,rfl⟩
  subst hwo
  by_cases hlt:k < bs.length
  ·obtain ⟨b,off,rfl,hb,hc⟩:=HL.out.get hlt
   obtain ⟨oi,ci,g1,hrd,q1,q2⟩:=hc k hlt
   have g2:wo.cell? ⟨b,off + k,none⟩ = some (.slice oi bs[k].length ci):=(hbel.cell (p:=⟨b,off + k,none⟩) hb).trans g1
   have hst:=sortC_take_succ' (c:=cmpT) k hlt
   rw [← hys.out] at hst
   obtain ⟨x,hx⟩:∃ x,x = bs[k]:=⟨_,rfl⟩
   have hxl:x.length ≤ 1000000000:=by rw [hx];exact HS.out _ (List.getElem_mem hlt)
   rw [← hx] at g2 hrd q1 hst
   have HST:=Lib.hid hst
   have HR:=Lib.hid (hrd.below hbel (Nat.le_refl _))
   have HOO:Hid (∀ (W' w2:World),W'.heap = wo.heap→Below wo.heap.size W' w2→Own (RS (RS RI)) w.heap.size wo.heap.size w2 [.slice (some ⟨g0,0,none⟩) ys.length cap0] ys):=Lib.hid (fun W' w2 e b => (hown.out.of_heap e).below b (Nat.le_refl _))
   have ik1:(0:Int) ≤ (k:Int):=by omega
   have ik2:(k:Int) < (bs.length:Int):=by omega
   clear hst hc g1 hx hrd
   go_wp2_with fail
   go_loopw [5] (fun i wr => ∃ (j:Nat),j ≤ ys.length∧i = .int .i64 j∧Hid (∀ q (h:q < ys.length),q < j→¬ cmpT x ys[q] < 0)∧∃ n,wr = wo.drewN n) (fun i _ => ys.length - (intOf i).toNat)
   case atStart => exact ⟨0,Nat.zero_le _,rfl,Lib.hid (fun q _ h => by omega),0,rfl⟩
   case round =>
    obtain ⟨j,hj,rfl,hall,nd,rfl⟩:=hrel
    have HO3:Hid (Own (RS (RS RI)) w.heap.size wo.heap.size (wo.drewN nd) [.slice (some ⟨g0,0,none⟩) ys.length cap0] ys):=hown.out.of_heap rfl
    have g3:(wo.drewN nd).cell? ⟨b,off + k,none⟩ = some (.slice oi x.length ci):=g2
    have hyb:ys.length ≤ 1000000:=by rw [Hyl.out];omega
    have hle4:=hown.out.val
    obtain ⟨_,_,ev,le4,_⟩:=hle4
    simp only [Value.slice.injEq,true_and] at ev
    obtain ⟨rfl,rfl⟩:=ev
    by_cases hjl:j < ys.length
    ·obtain ⟨g',cap',h0,hv,q1',q2',hg1',hg2',hcell,hel⟩:=HO3.out.elem j hjl
     simp only [Value.slice.injEq,true_and] at hv
     obtain ⟨e1,e2⟩:=hv
     simp only [Option.some.injEq,Addr.mk.injEq,and_true] at e1
     subst e1;subst e2
     obtain ⟨oj,cj,rfl,_⟩:=hel.val
     have hls:∀ a,Calls Tryz.prog 129 #[.slice oi x.length ci,.slice oj ys[j].length cj] (wo.drewN (nd + a)) (RetQ (wo.drewN (nd + a)) (.bool (decide (cmpT x ys[j] < 0)))):=fun a => kR0 _ _ x ys[j] _ (HR.out.of_heap rfl) (hel.rd.of_heap rfl)
     obtain ⟨yl,hyl'⟩:∃ yl,yl = ys[j].length:=⟨_,rfl⟩
     rw [← hyl'] at hls hcell
     replace hcell:wo.cell? ⟨g0,j,none⟩ = some (.slice oj yl cj):=hcell
     have ij1:(0:Int) ≤ (j:Int):=by omega
     have ij2:(j:Int) < (ys.length:Int):=by omega
     have ij3:decide ((j:Int) < (ys.length:Int)) = true:=decide_eq_true ij2
     clear hel hyl'
     by_cases hle:cmpT x ys[j] < 0
     ·have hd:decide (cmpT x ys[j] < 0) = true:=decide_eq_true hle
      rw [hd] at hls
      have HLS:=Lib.hid hls
      have HE:Hid (ins cmpT x ys = ys.take j ++ x :: ys.drop j):=Lib.hid (ins_at hj hall.out (fun _ => hle))
      clear hd hle hls
      go_wp2_with fail
      go_quiet ((go_at_call 129;exact Calls.qQ' (HLS.out _)))
      clear HLS hcell
      have hcj:¬ cap0 = j:=by omega
      go_wp2_with fail
      go_region_law (first
       | (refine own_step rfl _ _ rfl (.slice oi x.length ci) x (by simp [Act.eval]) wo (by rfl) HR.out hxl ?_;intro ou cu w2 o2 b2 hsz5;have HO4:=HOO.out _ _ (by rfl) b2;obtain ⟨d1,d2,t1l,t2l,t1,t2,t3,hcl,hmk⟩:=HO4.insRow (R:=RS RI) rfl hsz5 hsz2 o2 j hj;rw [← HE.out,← HST.out] at hmk;have T1L:=Lib.hid t1l;have T2L:=Lib.hid t2l;have hbel4:Below w.heap.size w w2:=(hbel.trans (Below.drewN _ _ _)).trans (b2.mono hsz2);clear t1l t2l o2 HO4)
       | (refine step_appendS rfl _ _ 36 rfl 24 (.slice none 0 0) 1 24 tI64S (.slice (some ⟨w2.heap.size,0,none⟩) 1 1) 1 [.slice ou x.length cu] (some w2.heap.size) rfl (by simpa using Row.lit w2 #[.slice ou x.length cu] 24 1 1 (by decide) (by simp)) _ _ _ d2 rfl (by have:=T2L.out;omega) (by intro h;cases h) (by intro a ha i u hi;cases ha;rw [Addr.add_lit];exact (hcl (w2.alloc _) ((Below.refl _ _).alloc (Nat.le_refl _) _)).2 i u hi) t2 (by have:=T2L.out;omega) (by have:=T2L.out;unfold maxLen;omega) ?_;intro vA wA ogA happA))
      all_goals
       replace happA:yB (w2.alloc (.cells #[.slice ou x.length cu] 24)) wA vA 1 (1 + d2.length) ([.slice ou x.length cu] ++ d2) (some w2.heap.size) ogA:=by have e:=T2L.out;first|exact happA|(rw [e];simpa using happA)
       obtain ⟨oA,capA,rfl,pA1,pA2⟩:=happA.1.val
       unfold maxLen at pA2
       have lowA:=happA.low (B:=(w2).heap.size) (by simp) (fun g hg => by cases hg;exact Nat.le_refl _)
       have belA:Below (w2).heap.size (w2) wA:=((Below.refl _ _).alloc (Nat.le_refl _) _).trans lowA.2
       have sA:=belA.size
       have HA:=Lib.hid happA.1
       have HogA:=Lib.hid lowA.1
       have CA:=(hcl wA belA).1
       clear happA lowA
       go_wp2_with (at_builtin;refine yP (o:=⟨some 46,_,_,_,_,_⟩) ?_)
       refine jA.go ?_
       refine xD rfl _ _ 36 rfl 24 (.slice none 0 0) 1 24 tI64S (.slice (some ⟨wA.heap.size,0,none⟩) 0 0) 0 [] (some wA.heap.size) rfl (by simpa using Row.lit wA #[] 24 1 0 (by decide) (by simp)) (some ⟨g0,0,none⟩) j _ d1 rfl (by have:=T1L.out;omega) (fun h => by cases h) (by intro a ha i u hi;cases ha;rw [Addr.add_lit,Nat.zero_add];have:=(hcl (wA.alloc (.cells #[] 24)) (belA.alloc sA _)).1 i u hi;exact this) t1 (by have:=T1L.out;omega) (by unfold maxLen;omega) ?_
       intro vB wB ogB happB
       rw [Nat.zero_add,List.nil_append] at happB
       obtain ⟨oB,capB,rfl,pB1,pB2⟩:=happB.1.val
       unfold maxLen at pB2
       have lowB:=happB.low (B:=(w2).heap.size) (Nat.le_trans sA (by simp)) (fun g hg => by cases hg;exact sA)
       have lowB2:=happB.low (B:=wA.heap.size) (by simp) (fun g hg => by cases hg;exact Nat.le_refl _)
       have belB2:Below wA.heap.size wA wB:=((Below.refl _ _).alloc (Nat.le_refl _) _).trans lowB2.2
       have belB:Below (w2).heap.size (w2) wB:=belA.trans (belB2.mono sA)
       have sB:=belB.size
       have hrA:Row wB (.slice oA (1 + d2.length) capA) 1 (1 + d2.length) ([(.slice ou x.length cu)] ++ d2) ogA:=HA.out.frame (fun g hg => belB2.block g (HA.out.lt g hg))
       obtain ⟨gA,hgA⟩:=hrA.some_of (j:=0) (by omega)
       subst hgA
       obtain ⟨oA',cA',eA,_,_,_,eA2⟩:=hrA.value
       simp only [Value.slice.injEq,true_and] at eA
       obtain ⟨rfl,rfl⟩:=eA
       simp only [Option.map_some] at eA2
       subst eA2
       have HRA:=Lib.hid hrA
       have HB:=Lib.hid happB.1
       have HogB:=Lib.hid lowB.1
       clear hrA happB lowB lowB2 CA
       go_wp2_with (at_builtin;refine yP (o:=⟨some 48,_,_,_,_,_⟩) ?_)
       refine jA.go ?_
       refine xD rfl _ _ 36 rfl 24 (.slice none 0 0) 1 24 tI64S (.slice oB j capB) j d1 ogB rfl HB.out (some ⟨gA,0,none⟩) _ _ ([(.slice ou x.length cu)] ++ d2) rfl (by simp <;> omega) (fun h => by cases h) (by intro a ha i u hi;cases ha;rw [Addr.add_lit,Nat.zero_add];exact HRA.out.cells i u hi) (fun u hu => (List.mem_append.1 hu).elim (fun h => by simp at h;subst h;exact t3) (t2 u)) (by have:=T2L.out;omega) (by have:=T2L.out;unfold maxLen;omega) ?_
       intro vC wC ogC happC
       have lowC:=happC.low (B:=(w2).heap.size) sB HogB.out
       have belC:Below (w2).heap.size (w2) wC:=belB.trans lowC.2
       have hrC:=happC.1
       have eN:j + (1 + d2.length) = ys.length + 1:=by have:=T1L.out;have:=T2L.out;omega
       rw [eN,List.singleton_append] at hrC
       have hfin:=hmk wC vC ogC belC hrC lowC.1
       obtain ⟨gC,hgC⟩:=hrC.some_of (j:=0) (by omega)
       subst hgC
       obtain ⟨capC,hvC,_,_⟩:=hrC.slice
       subst hvC
       have HFIN:=Lib.hid hfin
       clear hfin hrC happC lowC HA HB HRA HogA HogB eN
       have hfl:(sortC cmpT (bs.take (k + 1))).length = ys.length + 1:=by rw [wN];simp;rw [Hyl.out];omega
       obtain ⟨zs,hzs⟩:∃ zs,zs = sortC cmpT (bs.take (k + 1)):=⟨_,rfl⟩
       rw [← hzs] at HFIN hfl
       have hkz:zs.length = k + 1:=by rw [hfl,Hyl.out]
       rw [← hfl] at HFIN
       rw [← hfl]
       have HZ:=Lib.hid hzs
       have HKZ:=Lib.hid hkz
       clear hzs hfl hkz
       go_wp2_with fail
       go_roundw
       case rel => exact ⟨k + 1,zs,by omega,by go_num,HZ,HKZ,⟨_,_,rfl⟩,HFIN,hbel4.trans (belC.mono (Nat.le_trans hsz2 hsz5))⟩
       case measure => simp [intOf];omega
     ·have hd:decide (cmpT x ys[j] < 0) = false:=decide_eq_false hle
      rw [hd] at hls
      have HLS:=Lib.hid hls
      have HN:Hid (¬ cmpT x ys[j] < 0):=Lib.hid hle
      clear hd hle hls
      go_wp2_with fail
      go_quiet ((go_at_call 129;exact Calls.qQ' (HLS.out _)))
      go_wp2_with fail
      go_roundw
      case rel =>
       refine ⟨j + 1,by omega,by go_num,Lib.hid (fun q h hq => ?_),(by first|exact xW _ _|exact xY _ _ _|exact drewN3 _ _ _ _)⟩
       by_cases hqj:q = j
       ·subst hqj;have:=HN.out;omega
       ·have:=hall.out q h (by omega);omega
      case measure => simp [intOf];omega
    ·obtain rfl:j = ys.length:=by omega
     have HE:Hid (ins cmpT x ys = ys.take ys.length ++ x :: ys.drop ys.length):=Lib.hid (ins_at hj hall.out (fun h => by omega))
     have ij3:decide ((ys.length:Int) < (ys.length:Int)) = false:=by simp
     go_wp2_with fail
     go_quiet (fail)
     by_cases hcj:cap0 = ys.length
     all_goals
      go_wp2_with fail
      go_region_law (first
       | (refine own_step rfl _ _ rfl (.slice oi x.length ci) x (by simp [Act.eval]) wo (by rfl) HR.out hxl ?_;intro ou cu w2 o2 b2 hsz5;have HO4:=HOO.out _ _ (by rfl) b2;obtain ⟨d1,d2,t1l,t2l,t1,t2,t3,hcl,hmk⟩:=HO4.insRow (R:=RS RI) rfl hsz5 hsz2 o2 ys.length hj;rw [← HE.out,← HST.out] at hmk;have T1L:=Lib.hid t1l;have T2L:=Lib.hid t2l;have hbel4:Below w.heap.size w w2:=(hbel.trans (Below.drewN _ _ _)).trans (b2.mono hsz2);clear t1l t2l o2 HO4)
       | (refine step_appendS rfl _ _ 36 rfl 24 (.slice none 0 0) 1 24 tI64S (.slice (some ⟨w2.heap.size,0,none⟩) 1 1) 1 [.slice ou x.length cu] (some w2.heap.size) rfl (by simpa using Row.lit w2 #[.slice ou x.length cu] 24 1 1 (by decide) (by simp)) _ _ _ d2 rfl (by have:=T2L.out;omega) (by intro h;simp) (by intro a ha i u hi;rw [List.eq_nil_of_length_eq_zero (l:=d2) (by have:=T2L.out;omega)] at hi;simp at hi) t2 (by have:=T2L.out;omega) (by have:=T2L.out;unfold maxLen;omega) ?_;intro vA wA ogA happA))
      all_goals
       replace happA:yB (w2.alloc (.cells #[.slice ou x.length cu] 24)) wA vA 1 (1 + d2.length) ([.slice ou x.length cu] ++ d2) (some w2.heap.size) ogA:=by have e:=T2L.out;first|exact happA|(rw [e];simpa using happA)
       obtain ⟨oA,capA,rfl,pA1,pA2⟩:=happA.1.val
       unfold maxLen at pA2
       have lowA:=happA.low (B:=(w2).heap.size) (by simp) (fun g hg => by cases hg;exact Nat.le_refl _)
       have belA:Below (w2).heap.size (w2) wA:=((Below.refl _ _).alloc (Nat.le_refl _) _).trans lowA.2
       have sA:=belA.size
       have HA:=Lib.hid happA.1
       have HogA:=Lib.hid lowA.1
       have CA:=(hcl wA belA).1
       clear happA lowA
       go_wp2_with (at_builtin;refine yP (o:=⟨some 46,_,_,_,_,_⟩) ?_)
       refine jA.go ?_
       refine xD rfl _ _ 36 rfl 24 (.slice none 0 0) 1 24 tI64S (.slice (some ⟨wA.heap.size,0,none⟩) 0 0) 0 [] (some wA.heap.size) rfl (by simpa using Row.lit wA #[] 24 1 0 (by decide) (by simp)) (some ⟨g0,0,none⟩) ys.length _ d1 rfl (by have:=T1L.out;omega) (fun h => by cases h) (by intro a ha i u hi;cases ha;rw [Addr.add_lit,Nat.zero_add];have:=(hcl (wA.alloc (.cells #[] 24)) (belA.alloc sA _)).1 i u hi;exact this) t1 (by have:=T1L.out;omega) (by unfold maxLen;omega) ?_
       intro vB wB ogB happB
       rw [Nat.zero_add,List.nil_append] at happB
       obtain ⟨oB,capB,rfl,pB1,pB2⟩:=happB.1.val
       unfold maxLen at pB2
       have lowB:=happB.low (B:=(w2).heap.size) (Nat.le_trans sA (by simp)) (fun g hg => by cases hg;exact sA)
       have lowB2:=happB.low (B:=wA.heap.size) (by simp) (fun g hg => by cases hg;exact Nat.le_refl _)
       have belB2:Below wA.heap.size wA wB:=((Below.refl _ _).alloc (Nat.le_refl _) _).trans lowB2.2
       have belB:Below (w2).heap.size (w2) wB:=belA.trans (belB2.mono sA)
       have sB:=belB.size
       have hrA:Row wB (.slice oA (1 + d2.length) capA) 1 (1 + d2.length) ([(.slice ou x.length cu)] ++ d2) ogA:=HA.out.frame (fun g hg => belB2.block g (HA.out.lt g hg))
       obtain ⟨gA,hgA⟩:=hrA.some_of (j:=0) (by omega)
       subst hgA
       obtain ⟨oA',cA',eA,_,_,_,eA2⟩:=hrA.value
       simp only [Value.slice.injEq,true_and] at eA
       obtain ⟨rfl,rfl⟩:=eA
       simp only [Option.map_some] at eA2
       subst eA2
       have HRA:=Lib.hid hrA
       have HB:=Lib.hid happB.1
       have HogB:=Lib.hid lowB.1
       clear hrA happB lowB lowB2 CA
       go_wp2_with (at_builtin;refine yP (o:=⟨some 48,_,_,_,_,_⟩) ?_)
       refine jA.go ?_
       refine xD rfl _ _ 36 rfl 24 (.slice none 0 0) 1 24 tI64S (.slice oB ys.length capB) ys.length d1 ogB rfl HB.out (some ⟨gA,0,none⟩) _ _ ([(.slice ou x.length cu)] ++ d2) rfl (by simp <;> omega) (fun h => by cases h) (by intro a ha i u hi;cases ha;rw [Addr.add_lit,Nat.zero_add];exact HRA.out.cells i u hi) (fun u hu => (List.mem_append.1 hu).elim (fun h => by simp at h;subst h;exact t3) (t2 u)) (by have:=T2L.out;omega) (by have:=T2L.out;unfold maxLen;omega) ?_
       intro vC wC ogC happC
       have lowC:=happC.low (B:=(w2).heap.size) sB HogB.out
       have belC:Below (w2).heap.size (w2) wC:=belB.trans lowC.2
       have hrC:=happC.1
       have eN:ys.length + (1 + d2.length) = ys.length + 1:=by have:=T1L.out;have:=T2L.out;omega
       rw [eN,List.singleton_append] at hrC
       have hfin:=hmk wC vC ogC belC hrC lowC.1
       obtain ⟨gC,hgC⟩:=hrC.some_of (j:=0) (by omega)
       subst hgC
       obtain ⟨capC,hvC,_,_⟩:=hrC.slice
       subst hvC
       have HFIN:=Lib.hid hfin
       clear hfin hrC happC lowC HA HB HRA HogA HogB eN
       have hfl:(sortC cmpT (bs.take (k + 1))).length = ys.length + 1:=by rw [wN];simp;rw [Hyl.out];omega
       obtain ⟨zs,hzs⟩:∃ zs,zs = sortC cmpT (bs.take (k + 1)):=⟨_,rfl⟩
       rw [← hzs] at HFIN hfl
       have hkz:zs.length = k + 1:=by rw [hfl,Hyl.out]
       rw [← hfl] at HFIN
       rw [← hfl]
       have HZ:=Lib.hid hzs
       have HKZ:=Lib.hid hkz
       clear hzs hfl hkz
       go_wp2_with fail
       go_roundw
       case rel => exact ⟨k + 1,zs,by omega,by go_num,HZ,HKZ,⟨_,_,rfl⟩,HFIN,hbel4.trans (belC.mono (Nat.le_trans hsz2 hsz5))⟩
       case measure => simp [intOf];omega
  ·have hfin:Hid (ys = forest bs):=Lib.hid (by rw [hys.out,List.take_of_length_le (by omega)];rfl)
   have hkb:¬ ((k:Int) < (bs.length:Int)):=by omega
   clear hlt
   go_wp2_with fail
   go_ret
   exact ⟨_,rfl,by rw [← hfin.out];exact hown.out,hbel⟩
theorem AFn.val1 {P:Program} {f:FuncId} {ds:List (List D)} {k:Nat} {xs:List (List D)} (h:AFn P f ds (· = [.own k xs false])):AFn P f ds (· = [.val (.sl k xs)]):=by
 refine ⟨h.call,fun A w vs hA hr => (h.fn A w vs hA hr).mono ?_⟩
 rintro e w' ⟨v,rs,rfl,rfl,hb,us,G,X,rfl,hG1,hG2,v1,us1,G1,G2,Y1,Y2,rfl,rfl,rfl,ho,⟨og,cap,F,dd,rfl,hrow,hk,rfl,rfl,hel⟩,rfl,rfl,rfl⟩
 refine ⟨_,_,rfl,rfl,hb,[_],[],[],rfl,List.nodup_nil,(fun b hb => nomatch hb),_,[],[],[],[],[],rfl,rfl,rfl,ho,⟨?_,rfl,rfl⟩,rfl,rfl,rfl⟩
 have hel:rdR k (fun b => (A b ∨ w.heap.size ≤ b)∧b ∉ og.toList ++ []) w' dd xs:=hel
 obtain ⟨oa,c,e,h1,h2,h3,h4⟩:=wI hrow
 refine xQ.2 ⟨oa,c,dd,e,h1,h2,h3,hel.mono (fun b hb _ => ⟨hb.1,by simp⟩),?_⟩
 cases og with
 | none =>
  left
  have:=hrow.len0
  exact List.eq_nil_of_length_eq_zero (by rw [hrow.1,this,Nat.zero_mul])
 | some g =>
  refine .inr ⟨g,0,h4,⟨.inr (hG2 g (by simp)),by simp⟩,fun j u hj => ?_⟩
  rw [Nat.zero_add]
  exact hrow.cells j u hj
def SmF (f:List (List Int)):Prop:=f.length ≤ 19∧qQ f ≤ 100
instance (f:List (List Int)):Decidable (SmF f):=inferInstanceAs (Decidable (_∧_))
theorem SmF.b {f:List (List Int)} (h:SmF f):∀ b ∈ f,b.length ≤ 1000:=fun b hb => by have:=jK hb;have:=h.2;omega
theorem AFn.valT {P:Program} {f:FuncId} {ds:List (List D)} {k:Nat} {xs:List (List D)} (h:AFn P f ds (· = [.own k xs true])):AFn P f ds (· = [.val (.sl k xs)]):=by
 refine ⟨h.call,fun A w vs hA hr => (h.fn A w vs hA hr).mono ?_⟩
 rintro e w' ⟨v,rs,rfl,rfl,hb,us,G,X,rfl,hG1,hG2,v1,us1,G1,G2,Y1,Y2,rfl,rfl,rfl,ho,⟨og,cap,F,dd,rfl,hrow,hk,rfl,rfl,hel⟩,rfl,rfl,rfl⟩
 refine ⟨_,_,rfl,rfl,hb,[_],[],[],rfl,List.nodup_nil,(fun b hb => nomatch hb),_,[],[],[],[],[],rfl,rfl,rfl,ho,⟨?_,rfl,rfl⟩,rfl,rfl,rfl⟩
 have hel:ownR k w' dd xs F:=hel
 have hv:=kS.2 ⟨og,dd,F,hrow,hel,rfl⟩
 exact hv.rd.mono (fun b hb _ => ⟨.inr (hG2 b (by simpa using hb)),by simp⟩)
theorem a_forestOf (f:List (List Int)) (hl:f.length ≤ 19) (hs:qQ f ≤ 1000000000):AFn Tryz.prog 102 [eLL f] (· = [.own 1 ((forest f).map eL) true]) :=
 afn_LLL_oo (enters_of Tryz.func102 rfl rfl) (fun u w h => c_impl_forestOf u f w h hl (fun b hb => Nat.le_trans (jK hb) hs))
theorem a_l03Sort (f:List (List Int)) (hl:f.length ≤ 1000) (hs:∀ b ∈ f,b.length ≤ 1000):AFn Tryz.prog 187 [eLL f] (· = [.own 1 ((forest f).map eL) true]) :=
 afn_LLL_oo (enters_of Tryz.func187 rfl rfl) (fun u w h => c_spec_l03Sort u f w h (by omega) (fun b hb => by have:=hs b hb;omega))
theorem a_l03Times (f g:List (List Int)) (hl:f.length ≤ 400) (hs:∀ b ∈ f,b.length ≤ 1000) (hl2:g.length ≤ 400) (hs2:∀ b ∈ g,b.length ≤ 1000):AFn Tryz.prog 148 [eLL f,eLL g] (· = [.own 1 ((mulF f g).map eL) true]):=by
 have h1:=yT0 f (by omega) hs
 have h2:=a_l03Sort (f ++ g) (by rw [List.length_append];omega) (fun b hb => by
  rcases List.mem_append.1 hb with hb|hb
  ·exact hs b hb
  ·exact hs2 b hb)
 simp only [eLL,List.map_append] at h1 h2
 have q1:=jW (n:=f.length + g.length) (by omega)
 have q2:=jZ (n:=f.length + g.length) (c:=24) (by omega) (by omega)
 have e:mulF f g = forest (f ++ g):=rfl
 rw [e]
 refine AFn.of_runs (qX 10) Tryz.func148 rfl rfl rfl gz ?_
 have hres:Tryz.f148.results.toList = [.tmp 4]:=rfl
 have hrts:Tryz.f148.resultTypes.toList = [36]:=rfl
 simp only [qU,qT,eL,eI,eLL,eB,Nat.zero_add,Nat.reduceAdd]
 intro M
 refine qJ.of ?_
 refine gw9 (kk 5) (Yp q1 q2) ?_
 exact gw8
theorem vX0 (t:List Int) (h:qZ t) (hl:t.length ≤ 13):AFn Tryz.prog 91 [eL t] (· = [.own 1 ((canon t).map eI) true]) :=
 afn_L_o (enters_of Tryz.func91 rfl rfl) (fun u w h' => kV0 13 u t w h' h hl (by omega))
theorem a_rootOn (f:List (List Int)) (hs:Small f) (hsz:qQ f ≤ 1000000000):AFn Tryz.prog 100 [eLL f] (· = [.own 1 ((qB f).map eI) true]) :=
 afn_LLL_o (enters_of Tryz.func100 rfl rfl) (fun u w h => vY0 u f w h hs hsz)
theorem xE0 (t:List Int) (h:qZ t) (hl:t.length ≤ 1000):AFn Tryz.prog 186 [eL t] (· = [.own 1 ((canon t).map eI) true]) :=
 afn_L_o (enters_of Tryz.func186 rfl rfl) (fun u w h' => kL0 1000 u t w h' h hl (by omega))
theorem a_l03Root (f:List (List Int)) (hf:SmF f) (hlev:∀ b ∈ f,qZ b):AFn Tryz.prog 193 [eLL f] (· = [.own 1 ((canon (qB f)).map eI) true]):=by
 have hrl:=xS f
 have hca:=xE0 (qB f) (vU hlev) (by have:=hf.2;omega)
 simp only [eL] at hca
 have hsum:∀ i,(qB (f.take i)).length ≤ 101:=fun i => by
  rw [xS]
  have h1:=hf.2
  have h2:qQ (f.take i) ≤ qQ f:=by
   conv => rhs;rw [← List.take_append_drop i f]
   simp only [qQ,List.map_append,List.sum_append];omega
  omega
 refine AFn.of_runs (qX 35) Tryz.func193 rfl rfl rfl gz ?_
 have hres:Tryz.f193.results.toList = [.tmp 2]:=rfl
 have hrts:Tryz.f193.resultTypes.toList = [24]:=rfl
 simp only [qU,qT,eL,eI,eLL,eB,Nat.zero_add,Nat.reduceAdd]
 intro M
 refine qJ.of ?_
 refine gw7 (kk 6) Y0 ?_
 refine qJ.loop (β:=Nat) (γ:=Unit) (fun i => ⟨[(0,.c (.val (.sl 1 (f.map eL)))),(3,.c (.own 3 (qB (f.take i)).length)),(4,.c (.val (.int i)))],[(3,.row 1 ((qB (f.take i)).map eI) true)]⟩) (fun i => i ≤ f.length) (fun i => f.length - i)
  (fun _ => ⟨[(3,.c (.own 3 (qB f).length))],[(3,.row 1 ((qB f).map eI) true)]⟩) (fun _ => True) 0 (Nat.zero_le _) ?_ ?_ ?_
 ·exact gw10 (show qB [] = [0] from rfl)
 ·intro i hi
  have hi:i ≤ f.length:=hi
  have hw:=qD (n:=i) (by have:=hf.1;omega)
  by_cases h:i < f.length
  ·have i1:((i:Int) < (f.length:Int)) = True:=eq_true (by omega)
   have i2:((0:Int) ≤ (i:Int)) = True:=eq_true (by omega)
   obtain ⟨b,hb⟩:∃ b,b = f[i]:=⟨_,rfl⟩
   have hg:(f.map eL)[i]? = some [.sl 1 (b.map eI)]:=by rw [qE h,hb];rfl
   have hbl:b.length ≤ 100:=by have:=jK (show b ∈ f by rw [hb];exact List.getElem_mem _);have:=hf.2;omega
   have hbs:=(hlev b (by rw [hb];exact List.getElem_mem _)).small (by omega)
   have hst:qB (f.take (i + 1)) = qB (f.take i) ++ b.map (· + 1):=by rw [List.take_succ_eq_append_getElem h,jR0,hb]
   have hsi:=hsum i
   refine gw5 (kk 6) i1 ?_
   refine qJ.loop (β:=Nat) (γ:=Unit) (fun k => ⟨[(0,.c (.val (.sl 1 (f.map eL)))),(3,.c (.own 3 ((qB (f.take i)).length + k))),(4,.c (.val (.int i))),(5,.c (.val (.int k)))],[(3,.row 1 ((qB (f.take i) ++ (b.take k).map (· + 1)).map eI) true)]⟩) (fun k => k ≤ b.length) (fun k => b.length - k)
    (fun _ => ⟨[(0,.c (.val (.sl 1 (f.map eL)))),(3,.c (.own 3 ((qB (f.take i)).length + b.length))),(4,.c (.val (.int i)))],[(3,.row 1 ((qB (f.take (i + 1))).map eI) true)]⟩) (fun _ => True) 0 (Nat.zero_le _) ?_ ?_ ?_
   ·exact gw11
   ·intro k hk
    have hk:k ≤ b.length:=hk
    have hwk:=qD (n:=k) (by omega)
    have hlen:((qB (f.take i) ++ (b.take k).map (· + 1)).map eI).length = (qB (f.take i)).length + k:=by
     rw [List.length_map,List.length_append,List.length_map,List.length_take];omega
    by_cases hkb:k < b.length
    ·have k1:((k:Int) < (b.length:Int)) = True:=eq_true (by omega)
     have k2:((0:Int) ≤ (k:Int)) = True:=eq_true (by omega)
     obtain ⟨x,hx⟩:∃ x,x = b[k]:=⟨_,rfl⟩
     have hxb:=hbs b[k] (List.getElem_mem _)
     rw [← hx] at hxb
     have hgx:(b.map eI)[k]? = some [.int x]:=by rw [qE hkb,hx];rfl
     have hwx:=qL (n:=x + 1) (by omega)
     have q1:=jW (n:=(qB (f.take i)).length + k + 1) (by omega)
     have q2:=jZ (n:=(qB (f.take i)).length + k + 1) (c:=8) (by omega) (by omega)
     have htk:(b.take (k + 1)).map (· + 1) = (b.take k).map (· + 1) ++ [x + 1]:=by rw [List.take_succ_eq_append_getElem hkb,List.map_append,hx];rfl
     have hlf:(f.map eL).length = f.length:=List.length_map _
     have hlb:(b.map eI).length = b.length:=List.length_map _
     refine gw12 (kk 6) (Y12 i1 i2 k1 k2 hg hgx hwk hwx q1 q2 hlen (Yp hlf hlb)) ?_
     refine qY.on (k + 1) ⟨hkb,by omega⟩ ?_
     rw [htk,← List.append_assoc]
     exact gw13
    ·have k1:((k:Int) < (b.length:Int)) = False:=eq_false (by omega)
     obtain rfl:k = b.length:=by omega
     have hlf:(f.map eL).length = f.length:=List.length_map _
     have hlb:(b.map eI).length = b.length:=List.length_map _
     rw [List.take_length,← hst]
     refine gw12 (kk 6) (Y6 i1 i2 k1 hg hlf hlb) ?_
     refine qY.out () trivial ?_
     exact gw6 Y0
   ·rintro _ _
    refine gw7 (kk 6) hw ?_
    refine qY.on (i + 1) ⟨h,by omega⟩ ?_
    have hl2:(qB (f.take (i + 1))).length = (qB (f.take i)).length + b.length:=by rw [hst,List.length_append,List.length_map]
    rw [hl2]
    exact gw6 Y0
  ·have i1:((i:Int) < (f.length:Int)) = False:=eq_false (by omega)
   obtain rfl:i = f.length:=by omega
   rw [List.take_length]
   refine gw5 (kk 6) i1 ?_
   refine qY.out () trivial ?_
   exact gw6 Y0
 ·rintro _ _
  refine gw14 (kk 6) ?_
  exact gw8
theorem z10:((1:Int) == 0) = false:=rfl
theorem z00:((0:Int) == 0) = true:=rfl
theorem zm0:((-1:Int) == 0) = false:=rfl
theorem lexC_step {α:Type} {c:α→α→Int} {f g:List α} {k:Nat} (h1:k < f.length) (h2:k < g.length):lexC c (f.drop k) (g.drop k) = if c f[k] g[k] = 0 then lexC c (f.drop (k + 1)) (g.drop (k + 1)) else c f[k] g[k]:=by
 rw [List.drop_eq_getElem_cons h1,List.drop_eq_getElem_cons h2];rfl
theorem lexC_endL {α:Type} {c:α→α→Int} {f g:List α} {k:Nat} (h1:¬ k < f.length) (h2:k < g.length):lexC c (f.drop k) (g.drop k) = -1:=by
 rw [List.drop_eq_nil_of_le (Nat.not_lt.1 h1),List.drop_eq_getElem_cons h2];rfl
theorem lexC_endR {α:Type} {c:α→α→Int} {f g:List α} {k:Nat} (h1:k < f.length) (h2:¬ k < g.length):lexC c (f.drop k) (g.drop k) = 1:=by
 rw [List.drop_eq_getElem_cons h1,List.drop_eq_nil_of_le (Nat.not_lt.1 h2)];rfl
theorem lexC_end0 {α:Type} {c:α→α→Int} {f g:List α} {k:Nat} (h1:¬ k < f.length) (h2:¬ k < g.length):lexC c (f.drop k) (g.drop k) = 0:=by
 rw [List.drop_eq_nil_of_le (Nat.not_lt.1 h1),List.drop_eq_nil_of_le (Nat.not_lt.1 h2)];rfl
theorem c_CompareFunc (v1 v2:Value) (f g:List (List Int)) (w:World) (h1:Rd (RS (RS RI)) w [v1] f) (h2:Rd (RS (RS RI)) w [v2] g) :
  Calls Tryz.prog 181 #[v1,v2,.func (.func 119) #[] #[]] w (RetS w (.int .i64 (lexC cmpT f g))):=by
 obtain ⟨oa,ca,L1⟩:=h1.lists
 obtain ⟨ob,cb,L2⟩:=h2.lists
 obtain rfl:=L1.val
 obtain rfl:=L2.val
 have m1:=L1.le;have m2:=L1.capLe;have m3:=L2.le;have m4:=L2.capLe
 unfold maxLen at m2 m4
 have HL1:=Lib.hid L1
 have HL2:=Lib.hid L2
 clear L1 L2 h1 h2
 go_enter Tryz.func181,Tryz.ntmps181
 go_wp2_with fail
 go_loop [13] (fun i => ∃ k:Nat,k ≤ f.length∧k ≤ g.length∧i = .int .i64 k∧lexC cmpT f g = lexC cmpT (f.drop k) (g.drop k)) (fun i => f.length - (intOf i).toNat)
 case atStart => exact ⟨0,Nat.zero_le _,Nat.zero_le _,rfl,by simp⟩
 case round =>
  obtain ⟨k,hk,hk2,rfl,he⟩:=hrel
  have He:=Lib.hid he
  clear he
  by_cases hlt:k < f.length
  ·obtain ⟨b1,o1,rfl,hb1,hc1⟩:=HL1.out.get hlt
   obtain ⟨oi,ci,g1,hrd1,q1,q2⟩:=hc1 k hlt
   clear hc1
   by_cases hlt2:k < g.length
   ·obtain ⟨b2,o2,rfl,hb2,hc2⟩:=HL2.out.get hlt2
    obtain ⟨oj,cj,g2,hrd2,q3,q4⟩:=hc2 k hlt2
    clear hc2
    have hs:=lexC_step (c:=cmpT) hlt hlt2
    by_cases h0:cmpT f[k] g[k] = 0
    ·rw [if_pos h0] at hs
     have hcall:=yO0 _ _ _ _ w hrd1 hrd2
     rw [h0] at hcall
     have HC:=Lib.hid hcall
     have Hs:=Lib.hid hs
     obtain ⟨x1,hx1⟩:∃ x,x = f[k].length:=⟨_,rfl⟩
     obtain ⟨x2,hx2⟩:∃ x,x = g[k].length:=⟨_,rfl⟩
     rw [← hx1] at g1 q1 HC
     rw [← hx2] at g2 q3 HC
     clear hs h0 hcall hrd1 hrd2 hx1 hx2
     go_wp2_with (go_at_call 119;refine HC.out.mono ?_;rintro e w' ⟨rfl,rfl⟩)
     go_round
     case rel => exact ⟨k + 1,by omega,by omega,by go_num,by rw [He.out,Hs.out]⟩
     case measure => simp [intOf];omega
    ·rw [if_neg h0] at hs
     have hcall:=yO0 _ _ _ _ w hrd1 hrd2
     have hb:(cmpT f[k] g[k] != 0) = true:=by simp [h0]
     obtain ⟨z,hz⟩:∃ z,z = cmpT f[k] g[k]:=⟨_,rfl⟩
     rw [← hz] at hcall hb hs
     have HC:=Lib.hid hcall
     have Hs:=Lib.hid hs
     obtain ⟨x1,hx1⟩:∃ x,x = f[k].length:=⟨_,rfl⟩
     obtain ⟨x2,hx2⟩:∃ x,x = g[k].length:=⟨_,rfl⟩
     rw [← hx1] at g1 q1 HC
     rw [← hx2] at g2 q3 HC
     clear hs h0 hcall hrd1 hrd2 hx1 hx2 hz
     go_wp2_with (go_at_call 119;refine HC.out.mono ?_;rintro e w' ⟨rfl,rfl⟩)
     go_ret
     exact ⟨by (rw [He.out,Hs.out] <;> rfl),rfl⟩
   ·have HE:=Lib.hid (lexC_endR (c:=cmpT) hlt hlt2)
    go_wp2_with fail
    go_ret
    exact ⟨by (rw [He.out,HE.out] <;> rfl),rfl⟩
  ·by_cases hlt2:k < g.length
   ·have HE:=Lib.hid (lexC_endL (c:=cmpT) hlt hlt2)
    go_wp2_with fail
    go_ret
    exact ⟨by (rw [He.out,HE.out] <;> rfl),rfl⟩
   ·have HE:=Lib.hid (lexC_end0 (c:=cmpT) hlt hlt2)
    go_wp2_with fail
    go_ret
    exact ⟨by (rw [He.out,HE.out] <;> rfl),rfl⟩
theorem xK0 (v1 v2:Value) (f g:List (List Int)) (w:World) (h1:Rd (RS (RS RI)) w [v1] f) (h2:Rd (RS (RS RI)) w [v2] g) :
  Calls Tryz.prog 121 #[v1,v2] w (RetS w (.int .i64 (cmpN f g))):=by
 obtain ⟨oa,c1,e1,m1,m2⟩:=h1.val
 obtain ⟨ob,c2,e2,m3,m4⟩:=h2.val
 subst e1;subst e2
 unfold maxLen at m2 m4
 rw [cmpN_eq]
 by_cases hl:f.length = g.length
 ·have hlb:((f.length:Int) != (g.length:Int)) = false:=by simp [hl]
  have hcall:=c_CompareFunc _ _ _ _ w h1 h2
  rw [if_pos (by rw [hl])]
  have HC:=Lib.hid hcall
  clear hl hcall h1 h2
  go_enter Tryz.func121,Tryz.ntmps121
  go_wp2_with (go_at_call 181;refine HC.out.mono ?_;rintro e w' ⟨rfl,rfl⟩)
  go_ret
  exact ⟨rfl,rfl⟩
 ·have hlb:((f.length:Int) != (g.length:Int)) = true:=by simp;omega
  have hw:IntKind.i64.wrap ((f.length:Int) - (g.length:Int)) = (f.length:Int) - (g.length:Int):=IntWalk.i64_in _ (by omega)
  rw [if_neg (by omega)]
  clear h1 h2
  go_enter Tryz.func121,Tryz.ntmps121
  go_wp2_with fail
  go_ret
  exact ⟨rfl,rfl⟩
theorem jF0 (v1 v2:Value) (f g:List (List Int)) (w:World) (h1:Rd (RS (RS RI)) w [v1] f) (h2:Rd (RS (RS RI)) w [v2] g) (hf:qQ f ≤ 1000000000000000000) (hg:qQ g ≤ 1000000000000000000) :
  Calls Tryz.prog 87 #[v1,v2] w (RetS w (.int .i64 (cmpF f g))):=by
 have hn1:=xF0 _ _ w h1
 have hn2:=xF0 _ _ w h2
 rw [kC f hf] at hn1
 rw [kC g hg] at hn2
 have ht:=xK0 _ _ _ _ w h1 h2
 rw [cmpF_N]
 obtain ⟨p,hp⟩:∃ p,p = qQ f:=⟨_,rfl⟩
 obtain ⟨q,hq⟩:∃ q,q = qQ g:=⟨_,rfl⟩
 rw [← hp] at hf hn1 ⊢
 rw [← hq] at hg hn2 ⊢
 have hw:IntKind.i64.wrap ((p:Int) - (q:Int)) = (p:Int) - (q:Int):=IntWalk.i64_in _ (by omega)
 obtain ⟨Rl,hR⟩:∃ R:Value→Int→Prop,∀ v n,R v n ↔ Calls Tryz.prog 88 #[v] w (RetS w (.int .i64 n)):=⟨_,fun _ _ => Iff.rfl⟩
 have r1:Rl v1 p:=(hR _ _).2 hn1
 have r2:Rl v2 q:=(hR _ _).2 hn2
 have HN:Hid (∀ v n,Rl v n→Calls Tryz.prog 88 #[v] w (RetS w (.int .i64 n))):=Lib.hid (fun v n => (hR v n).1)
 have H3:=Lib.hid ht
 clear hp hq h1 h2 hn1 hn2 ht hR
 by_cases hl:(p:Int) = q
 ·have hlb:(((p:Int) - (q:Int)) != 0) = false:=by rw [hl];simp
  rw [if_pos hl]
  clear hl
  go_enter Tryz.func87,Tryz.ntmps87
  go_wp2_with (first|(go_at_call 88;refine (HN.out _ _ (by assumption)).mono ?_;rintro e w' ⟨rfl,rfl⟩)|(go_at_call 121;refine H3.out.mono ?_;rintro e w' ⟨rfl,rfl⟩))
  go_ret
  exact ⟨rfl,rfl⟩
 ·have hlb:(((p:Int) - (q:Int)) != 0) = true:=by simp;omega
  rw [if_neg hl]
  clear hl
  go_enter Tryz.func87,Tryz.ntmps87
  go_wp2_with (go_at_call 88;refine (HN.out _ _ (by assumption)).mono ?_;rintro e w' ⟨rfl,rfl⟩)
  go_ret
  exact ⟨rfl,rfl⟩
theorem lexC_in64:∀ (f g:List (List Int)),(∀ t ∈ f,t.length ≤ maxLen)→(∀ t ∈ g,t.length ≤ maxLen)→qH (lexC cmpT f g):=by
 intro f
 induction f with
 | nil => intro g _ _;cases g <;> (unfold lexC qH;omega)
 | cons x xs ih => intro g h3 h4;cases g with
  | nil => unfold lexC qH;omega
  | cons y bs =>
   unfold lexC
   split
   ·exact ih bs (fun t ht => h3 t (by simp [ht])) (fun t ht => h4 t (by simp [ht]))
   ·exact cmpT_in64 (h3 x (by simp)) (h4 y (by simp))
theorem cmpF_in64 {f g:List (List Int)} (hf:qQ f ≤ 1000000000000000000) (hg:qQ g ≤ 1000000000000000000) (h1:f.length ≤ maxLen) (h2:g.length ≤ maxLen) (h3:∀ t ∈ f,t.length ≤ maxLen) (h4:∀ t ∈ g,t.length ≤ maxLen):qH (cmpF f g):=by
 rw [cmpF_N,cmpN_eq]
 unfold maxLen at h1 h2
 split
 ·split
  ·exact lexC_in64 f g h3 h4
  ·unfold qH;omega
 ·unfold qH;omega
abbrev Elt:=List (Int × List (List Int))
def canT (t:List Int):Bool:=lev8 t && decide (canon t = t)
def okT (f:List (List Int)) (i:Nat):Bool:=canT (f.getD i []) && (decide (i = 0) || decide (cmpT (f.getD (i - 1) []) (f.getD i []) ≤ 0))
def forB (f:List (List Int)):Bool:=decide (qQ f ≤ 8) && (List.range f.length).all (okT f)
def okP (e:Elt) (i:Nat):Bool :=
 decide (1 ≤ (e.getD i (0,[])).1) && decide ((e.getD i (0,[])).1 < 10007) && forB (e.getD i (0,[])).2 && (decide (i = 0) || decide (cmpF (e.getD (i - 1) (0,[])).2 (e.getD i (0,[])).2 < 0))
def elB (e:Elt):Bool:=decide (e.length ≤ 300) && (List.range e.length).all (okP e)
theorem qY0 {n:Nat} {p:Nat→Bool}:(List.range n).all p = true ↔ ∀ i < n,p i = true:=by
 rw [List.all_eq_true]
 exact ⟨fun h i hi => h i (List.mem_range.2 hi),fun h i hi => h i (List.mem_range.1 hi)⟩
theorem kZ {n i:Nat} {p:Nat→Bool} (hi:i < n) (h:p i = false):(List.range n).all p = false:=by
 rcases hq:(List.range n).all p with _|_
 ·rfl
 ·rw [qY0.1 hq i hi] at h;cases h
theorem xD0 {α:Type} {r:α→α→Prop} (ht:∀ a b d,r a b→r b d→r a d):∀ {l:List α},(∀ i (h:i + 1 < l.length),r l[i] l[i + 1])→l.Pairwise r
 | [],_ => List.Pairwise.nil
 | [a],_ => List.pairwise_singleton _ _
 | a :: b :: l,h => by
  have ih:=xD0 ht (l:=b :: l) (fun i hi => h (i + 1) (by simp at hi ⊢;omega))
  refine List.pairwise_cons.2 ⟨fun x hx => ?_,ih⟩
  have h0:r a b:=h 0 (by simp)
  rcases List.mem_cons.1 hx with rfl|hx
  ·exact h0
  ·exact ht a b x h0 ((List.pairwise_cons.1 ih).1 x hx)
theorem yM {α:Type} {l:List α} {d:α} {i:Nat} (h:i < l.length):l.getD i d = l[i]:=by
 rw [List.getD_eq_getElem?_getD,List.getElem?_eq_getElem h];rfl
theorem xU {f:List (List Int)} (h:forB f = true):qQ f ≤ 8∧(∀ t ∈ f,canT t = true)∧f.Pairwise fun a b => cmpT a b ≤ 0:=by
 unfold forB at h
 rw [Bool.and_eq_true,qY0] at h
 refine ⟨of_decide_eq_true h.1,fun t ht => ?_,xD0 (fun a b d => yF.trans a b d) (fun i hi => ?_)⟩
 ·obtain ⟨i,hi,rfl⟩:=List.getElem_of_mem ht
  have:=h.2 i hi
  unfold okT at this
  rw [Bool.and_eq_true,yM hi] at this
  exact this.1
 ·have:=h.2 (i + 1) hi
  unfold okT at this
  rw [Bool.and_eq_true,Bool.or_eq_true,yM hi,Nat.add_sub_cancel,yM (show i < f.length by omega)] at this
  rcases this.2 with h1|h1
  ·have:=of_decide_eq_true h1;omega
  ·exact of_decide_eq_true h1
theorem yE {e:Elt} (h:elB e = true):e.length ≤ 300∧NfS cmpF e∧SrtF e∧∀ p ∈ e,forB p.2 = true:=by
 unfold elB at h
 rw [Bool.and_eq_true,qY0] at h
 have hall:∀ p ∈ e,(1 ≤ p.1∧p.1 < 10007)∧forB p.2 = true:=fun p hp => by
  obtain ⟨i,hi,rfl⟩:=List.getElem_of_mem hp
  have:=h.2 i hi
  unfold okP at this
  rw [yM hi] at this
  simp only [Bool.and_eq_true,decide_eq_true_eq] at this
  exact ⟨this.1.1,this.1.2⟩
 refine ⟨of_decide_eq_true h.1,⟨xD0 (r:=fun p q:Int × List (List Int) => cmpF p.2 q.2 < 0) (fun a b d h1 h2 => jV.lt_tr h1 h2) (fun i hi => ?_),fun p hp => (hall p hp).1⟩,fun p hp => (xU (hall p hp).2).2.2,fun p hp => (hall p hp).2⟩
 have:=h.2 (i + 1) hi
 unfold okP at this
 rw [yM hi,Nat.add_sub_cancel,yM (show i < e.length by omega)] at this
 simp only [Bool.and_eq_true,Bool.or_eq_true,decide_eq_true_eq] at this
 rcases this.2 with h1|h1
 ·omega
 ·exact h1
theorem yF0 {κ:Type} {c:κ→κ→Int} {k:Int} {x:κ} (hk:k ≠ 0) (M:List (Int × κ)):∀ {L:List (Int × κ)},(∀ q ∈ L,0 < c x q.2)→putS c (L ++ M) k x = L ++ putS c M k x
 | [],_ => rfl
 | (a,y) :: L,h => by
  have h0:0 < c x y:=h (a,y) (by simp)
  show putS c ((a,y) :: (L ++ M)) k x = _
  conv => lhs;unfold putS
  rw [if_neg hk,if_neg (by omega),if_neg (by omega),yF0 hk M (fun q hq => h q (by simp [hq]))]
  rfl
theorem putS_zero {κ:Type} {c:κ→κ→Int} {x:κ} (L:List (Int × κ)):putS c L 0 x = L:=by
 cases L <;> simp [putS]
def degE (e:Elt):Int:=match e.getLast? with
 | none => -1
 | some p => qQ p.2
def limS (L:Elt):Elt × Int:=if L.length ≤ 300∧∀ p ∈ L,qQ p.2 ≤ 8 then (L,0) else ([],3)
def addOf (d e:Elt):Elt × Int:=if (elB d && elB e) = true then limS (sumS cmpF (d ++ e)) else ([],1)
def sclOf (e:Elt) (k:Int):Elt × Int:=if elB e = true then (if inR k 0 10006 = true then (sumS cmpF (e.map fun p => (mP (p.1 * k),p.2)),0) else ([],2)) else ([],1)
def timOf (d e:Elt):Elt × Int:=if (elB d && elB e) = true then limS (sumS cmpF (prodL d e)) else ([],1)
theorem forB_tree' {f:List (List Int)} (h:forB f = true):(∀ t ∈ f,1 ≤ t.length)∧qQ f ≤ 8:=by
 obtain ⟨h1,h2,_⟩:=xU h
 refine ⟨fun t ht => ?_,h1⟩
 have:=h2 t ht
 unfold canT at this
 rw [Bool.and_eq_true] at this
 exact (lev8_lev this.1).pos
theorem len_le_sum1:∀ f:List (List Int),(∀ t ∈ f,1 ≤ t.length)→f.length ≤ qQ f
 | [],_ => by simp
 | b :: bs,h => by
  have ih:=len_le_sum1 bs (fun c hc => h c (by simp [hc]))
  have:=h b (by simp)
  simp only [qQ,List.map_cons,List.sum_cons,List.length_cons] at ih ⊢
  omega
theorem forB_short {f:List (List Int)} (h:forB f = true):f.length ≤ 8:=by
 obtain ⟨h1,h2⟩:=forB_tree' h
 have:=len_le_sum1 f h1
 omega
theorem vZ {f:List (List Int)} (h:forB f = true):∀ b ∈ f,qZ b:=fun b hb => by
 have:=(xU h).2.1 b hb
 unfold canT at this
 rw [Bool.and_eq_true] at this
 exact lev8_lev this.1
theorem forB_can {f:List (List Int)} (h:forB f = true):∀ b ∈ f,canon b = b:=fun b hb => by
 have:=(xU h).2.1 b hb
 unfold canT at this
 rw [Bool.and_eq_true] at this
 exact of_decide_eq_true this.2
theorem a_impl_IsTree (t:List Int):AFn Tryz.prog 118 [eL t] (· = [.val (.bool (canT t))]):=by
 have h1:=a_impl_IsLevels t
 unfold canT
 cases h8:lev8 t
 ·rw [h8] at h1
  rw [Bool.false_and]
  refine AFn.of_runs (qX 11) Tryz.func118 rfl rfl rfl gz ?_
  have hres:Tryz.f118.results.toList = [.tmp 2]:=rfl
  have hrts:Tryz.f118.resultTypes.toList = [4]:=rfl
  simp only [qU,qT,eL,eI,eLL,eB,Nat.zero_add,Nat.reduceAdd]
  intro M
  refine qJ.of ?_
  refine gw15 (kk 3) ?_
  exact gw8
 ·rw [h8] at h1
  rw [Bool.true_and]
  have h2:=a_canonical t (lev8_lev h8) (lev8_len h8)
  have h3:=a_slicesEqual (canon t) t
  refine AFn.of_runs (qX 11) Tryz.func118 rfl rfl rfl gz ?_
  have hres:Tryz.f118.results.toList = [.tmp 2]:=rfl
  have hrts:Tryz.f118.resultTypes.toList = [4]:=rfl
  simp only [qU,qT,eL,eI,eLL,eB,Nat.zero_add,Nat.reduceAdd]
  intro M
  refine qJ.of ?_
  refine gw16 (kk 3) ?_
  exact gw8
theorem a_spec_IsTree (t:List Int) (hsz:t.length ≤ 1048576):AFn Tryz.prog 128 [eL t] (· = [.val (.bool (canT t))]):=by
 have h1:=a_spec_l03Is t hsz
 unfold canT
 cases h8:lev8 t
 ·rw [h8] at h1
  rw [Bool.false_and]
  refine AFn.of_runs (qX 11) Tryz.func128 rfl rfl rfl gz ?_
  have hres:Tryz.f128.results.toList = [.tmp 2]:=rfl
  have hrts:Tryz.f128.resultTypes.toList = [4]:=rfl
  simp only [qU,qT,eL,eI,eLL,eB,Nat.zero_add,Nat.reduceAdd]
  intro M
  refine qJ.of ?_
  refine gw17 (kk 3) ?_
  exact gw8
 ·rw [h8] at h1
  rw [Bool.true_and]
  have h2:=a_l03Canon t (lev8_lev h8) (lev8_len h8)
  have h3:=a_l01Same (canon t) t
  refine AFn.of_runs (qX 11) Tryz.func128 rfl rfl rfl gz ?_
  have hres:Tryz.f128.results.toList = [.tmp 2]:=rfl
  have hrts:Tryz.f128.resultTypes.toList = [4]:=rfl
  simp only [qU,qT,eL,eI,eLL,eB,Nat.zero_add,Nat.reduceAdd]
  intro M
  refine qJ.of ?_
  refine gw18 (kk 3) ?_
  exact gw8
noncomputable def TFor:Tab Tryz.prog :=
 ((Tab.none.add 118 (tab1 codL fun t => some [.val (.bool (canT t))]) (yA fun t rs h => by cases h;exact a_impl_IsTree t)).add
   119 (tab2 codL codL fun xs ys => some [.val (.int (cmpT xs ys))]) (yH fun xs ys rs h => by cases h;exact a_compareTrees xs ys)).add
   88 (tab1 codLL fun f => some [.val (.int (jF f))]) (yA fun f rs h => by cases h;exact a_nodesIn f)
noncomputable def jR:Tab Tryz.prog :=
 ((Tab.none.add 128 (tab1 codL fun t => if t.length ≤ 1048576 then some [.val (.bool (canT t))] else none) (yA fun t rs h => by split at h;cases h;exact a_spec_IsTree t ‹_›;cases h)).add
   129 (tab2 codL codL fun xs ys => some [.val (.bool (decide (cmpT xs ys < 0)))]) (yH fun xs ys rs h => by cases h;exact a_l03Before xs ys)).add
   130 (tab1 codLL fun f => some [.val (.int (jF f))]) (yA fun f rs h => by cases h;exact a_l03Nodes f)
theorem wG {n:Nat} {p:Nat→Bool} (h:(List.range n).all p = true) (h2:p n = true):(List.range (n + 1)).all p = true :=
 qY0.2 (fun i hi => by
  by_cases e:i = n
  ·rw [e];exact h2
  ·exact qY0.1 h i (by omega))
theorem a_impl_IsForest (f:List (List Int)) (hsz:qQ f ≤ 1000000000) (hln:f.length ≤ 1000000000):AFn Tryz.prog 59 [eLL f] (· = [.val (.bool (forB f))]):=by
 have hn:jF f = qQ f:=kC f (by omega)
 refine AFn.of_runs (qX 33) Tryz.func59 rfl rfl rfl gz ?_
 have hres:Tryz.f59.results.toList = [.tmp 2]:=rfl
 have hrts:Tryz.f59.resultTypes.toList = [4]:=rfl
 simp only [qU,qT,eL,eI,eLL,eB,Nat.zero_add,Nat.reduceAdd]
 intro M
 refine qJ.of ?_
 by_cases h8:qQ f ≤ 8
 ·have i8:((qQ f:Int) > 8) = False:=eq_false (by omega)
  refine gw19 (kk 11) (Yp hn i8) ?_
  refine qJ.loop (β:=Nat) (γ:=Unit) (fun i => ⟨[(0,.c (.val (.sl 1 (f.map eL)))),(8,.c (.val (.sl 1 (f.map eL)))),(9,.c (.val (.int f.length))),(10,.c (.val (.int i)))],[]⟩) (fun i => i ≤ f.length∧(List.range i).all (okT f) = true) (fun i => f.length - i)
   (fun _ => ⟨[],[]⟩) (fun _ => (List.range f.length).all (okT f) = true) 0 ⟨Nat.zero_le _,rfl⟩ ?_ ?_ ?_
  ·exact gw6 Y0
  ·rintro i ⟨hi,hall⟩
   have hw:=qD (n:=i) (by omega)
   by_cases h:i < f.length
   ·have i1:((i:Int) < (f.length:Int)) = True:=eq_true (by omega)
    have i2:((0:Int) ≤ (i:Int)) = True:=eq_true (by omega)
    obtain ⟨t,ht⟩:∃ t,t = f[i]:=⟨_,rfl⟩
    have hg:(f.map eL)[i]? = some [.sl 1 (t.map eI)]:=by rw [qE h,ht];rfl
    have hgd:f.getD i [] = t:=by rw [yM h,ht]
    by_cases hc:canT t = true
    ·by_cases h0:i = 0
     ·have j1:((i:Int) > 0) = False:=eq_false (by omega)
      have hok:okT f i = true:=by unfold okT;rw [hgd,hc,h0];rfl
      refine gw20 (kk 11) (Y6 i1 i2 hg hw hc j1) ?_
      refine qY.on (i + 1) ⟨⟨h,wG hall hok⟩,by omega⟩ ?_
      exact gw6 Y0
     ·have j1:((i:Int) > 0) = True:=eq_true (by omega)
      have hw1:w64 ((i:Int) - 1) = ((i - 1:Nat):Int):=by rw [qL (by omega)];omega
      have i3:((0:Int) ≤ ((i - 1:Nat):Int)) = True:=eq_true (by omega)
      have i4:(((i - 1:Nat):Int) < (f.length:Int)) = True:=eq_true (by omega)
      obtain ⟨s,hs⟩:∃ s,s = f[i - 1]:=⟨_,rfl⟩
      have hgs:(f.map eL)[i - 1]? = some [.sl 1 (s.map eI)]:=by rw [qE (by omega),hs];rfl
      have hgds:f.getD (i - 1) [] = s:=by rw [yM (by omega),hs]
      by_cases hk:cmpT s t > 0
      ·have hok:okT f i = false:=by unfold okT;rw [hgd,hgds,hc,decide_eq_false h0,decide_eq_false (by omega)];rfl
       have hB:forB f = false:=by unfold forB;rw [kZ h hok,Bool.and_false]
       have k1:(cmpT s t > 0) = True:=eq_true hk
       rw [hB]
       refine gw20 (kk 11) (Y11 i1 i2 i3 i4 hg hgs hw hw1 hc j1 k1) ?_
       refine qY.ret ?_
       refine gw21 (kk 11) Y0 ?_
       exact gw8
      ·have hok:okT f i = true:=by unfold okT;rw [hgd,hgds,hc,decide_eq_true (show cmpT s t ≤ 0 by omega),Bool.or_true];rfl
       have k1:(cmpT s t > 0) = False:=eq_false hk
       refine gw20 (kk 11) (Y11 i1 i2 i3 i4 hg hgs hw hw1 hc j1 k1) ?_
       refine qY.on (i + 1) ⟨⟨h,wG hall hok⟩,by omega⟩ ?_
       exact gw6 Y0
    ·have hc:canT t = false:=by simpa using hc
     have hok:okT f i = false:=by unfold okT;rw [hgd,hc,Bool.false_and]
     have hB:forB f = false:=by unfold forB;rw [kZ h hok,Bool.and_false]
     rw [hB]
     refine gw20 (kk 11) (Y5 i1 i2 hg hw hc) ?_
     refine qY.ret ?_
     refine gw21 (kk 11) Y0 ?_
     exact gw8
   ·have i1:((i:Int) < (f.length:Int)) = False:=eq_false (by omega)
    obtain rfl:i = f.length:=by omega
    refine gw21 (kk 11) i1 ?_
    refine qY.out () hall ?_
    exact gw6 Y0
  ·rintro _ hall
   have hB:forB f = true:=by unfold forB;rw [hall,decide_eq_true h8];rfl
   rw [hB]
   refine gw21 (kk 11) Y0 ?_
   exact gw8
 ·have i8:((qQ f:Int) > 8) = True:=eq_true (by omega)
  have hB:forB f = false:=by unfold forB;rw [decide_eq_false h8,Bool.false_and]
  rw [hB]
  refine gw19 (kk 11) (Yp hn i8) ?_
  exact gw8
theorem a_l03Forest (f:List (List Int)) (hsz:qQ f ≤ 1048576) (hln:f.length ≤ 1048576):AFn Tryz.prog 65 [eLL f] (· = [.val (.bool (forB f))]):=by
 have hn:jF f = qQ f:=kC f (by omega)
 refine AFn.of_runs (qX 35) Tryz.func65 rfl rfl rfl gz ?_
 have hres:Tryz.f65.results.toList = [.tmp 2]:=rfl
 have hrts:Tryz.f65.resultTypes.toList = [4]:=rfl
 simp only [qU,qT,eL,eI,eLL,eB,Nat.zero_add,Nat.reduceAdd]
 intro M
 refine qJ.of ?_
 refine gw22 (kk 4) Y0 ?_
 refine qJ.loop (β:=Nat) (γ:=Unit) (fun i => ⟨[(0,.c (.val (.sl 1 (f.map eL)))),(3,.c (.val (.int i)))],[]⟩) (fun i => i ≤ f.length∧(List.range i).all (okT f) = true) (fun i => f.length - i)
  (fun _ => ⟨[(0,.c (.val (.sl 1 (f.map eL))))],[]⟩) (fun _ => (List.range f.length).all (okT f) = true) 0 ⟨Nat.zero_le _,rfl⟩ ?_ ?_ ?_
 ·exact gw6 Y0
 ·rintro i ⟨hi,hall⟩
  have hw:=qD (n:=i) (by omega)
  by_cases h:i < f.length
  ·have i1:((i:Int) < (f.length:Int)) = True:=eq_true (by omega)
   have i2:((0:Int) ≤ (i:Int)) = True:=eq_true (by omega)
   obtain ⟨t,ht⟩:∃ t,t = f[i]:=⟨_,rfl⟩
   have hg:(f.map eL)[i]? = some [.sl 1 (t.map eI)]:=by rw [qE h,ht];rfl
   have hgd:f.getD i [] = t:=by rw [yM h,ht]
   have htl:(t.length ≤ 1048576) = True:=eq_true (Nat.le_trans (by rw [ht];exact jK (List.getElem_mem h)) hsz)
   by_cases hc:canT t = true
   ·by_cases h0:i = 0
    ·have j1:((i:Int) > 0) = False:=eq_false (by omega)
     have hok:okT f i = true:=by unfold okT;rw [hgd,hc,h0];rfl
     refine gw23 (kk 4) (Y7 i1 i2 hg hw hc j1 htl) ?_
     refine qY.on (i + 1) ⟨⟨h,wG hall hok⟩,by omega⟩ ?_
     exact gw6 Y0
    ·have j1:((i:Int) > 0) = True:=eq_true (by omega)
     have hw1:w64 ((i:Int) - 1) = ((i - 1:Nat):Int):=by rw [qL (by omega)];omega
     have i3:((0:Int) ≤ ((i - 1:Nat):Int)) = True:=eq_true (by omega)
     have i4:(((i - 1:Nat):Int) < (f.length:Int)) = True:=eq_true (by omega)
     obtain ⟨s,hs⟩:∃ s,s = f[i - 1]:=⟨_,rfl⟩
     have hgs:(f.map eL)[i - 1]? = some [.sl 1 (s.map eI)]:=by rw [qE (by omega),hs];rfl
     have hgds:f.getD (i - 1) [] = s:=by rw [yM (by omega),hs]
     have han:=yF.anti t s
     by_cases hk:cmpT t s < 0
     ·have hok:okT f i = false:=by unfold okT;rw [hgd,hgds,hc,decide_eq_false h0,decide_eq_false (by omega)];rfl
      have hB:forB f = false:=by unfold forB;rw [kZ h hok,Bool.and_false]
      have k1:decide (cmpT t s < 0) = true:=decide_eq_true hk
      rw [hB]
      refine gw23 (kk 4) (Y12 i1 i2 i3 i4 hg hgs hw hw1 hc j1 k1 htl) ?_
      refine qY.ret ?_
      refine gw24 (kk 4) Y0 ?_
      exact gw8
     ·have hok:okT f i = true:=by unfold okT;rw [hgd,hgds,hc,decide_eq_true (show cmpT s t ≤ 0 by omega),Bool.or_true];rfl
      have k1:decide (cmpT t s < 0) = false:=decide_eq_false hk
      refine gw23 (kk 4) (Y12 i1 i2 i3 i4 hg hgs hw hw1 hc j1 k1 htl) ?_
      refine qY.on (i + 1) ⟨⟨h,wG hall hok⟩,by omega⟩ ?_
      exact gw6 Y0
   ·have hc:canT t = false:=by simpa using hc
    have hok:okT f i = false:=by unfold okT;rw [hgd,hc,Bool.false_and]
    have hB:forB f = false:=by unfold forB;rw [kZ h hok,Bool.and_false]
    rw [hB]
    refine gw23 (kk 4) (Y6 i1 i2 hg hw hc htl) ?_
    refine qY.ret ?_
    refine gw24 (kk 4) Y0 ?_
    exact gw8
  ·have i1:((i:Int) < (f.length:Int)) = False:=eq_false (by omega)
   obtain rfl:i = f.length:=by omega
   refine gw25 (kk 4) i1 ?_
   refine qY.out () hall ?_
   exact gw6 Y0
 ·rintro _ hall
  have hB:forB f = decide ((qQ f:Int) ≤ 8):=by
   unfold forB;rw [hall,Bool.and_true]
   exact decide_eq_decide.2 (by omega)
  rw [hB]
  refine gw22 (kk 4) hn ?_
  exact gw8
theorem sgn_neg {n:Int} (h:n < 0):sgn n = -1:=by unfold sgn;rw [if_pos h]
theorem sgn_pos {n:Int} (h:0 < n):sgn n = 1:=by unfold sgn;rw [if_neg (by omega),if_neg (by omega)]
theorem sgn_zero:sgn 0 = 0:=rfl
theorem a_l05Compare (f g:List (List Int)) (hf:f.length ≤ 1000000000) (hg:g.length ≤ 1000000000):AFn Tryz.prog 195 [eLL f,eLL g] (· = [.val (.int (sgn (cmpN f g)))]):=by
 rw [cmpN_eq]
 refine AFn.of_runs (qX 42) Tryz.func195 rfl rfl rfl gz ?_
 have hres:Tryz.f195.results.toList = [.tmp 4]:=rfl
 have hrts:Tryz.f195.resultTypes.toList = [2]:=rfl
 simp only [qU,qT,eL,eI,eLL,eB,Nat.zero_add,Nat.reduceAdd]
 intro M
 refine qJ.of ?_
 by_cases hl:f.length = g.length
 ·have hb:((f.length:Int) != (g.length:Int)) = false:=by simp [hl]
  rw [if_pos (by rw [hl])]
  refine gw26 (kk 6) hb ?_
  refine qJ.loop (β:=Nat) (γ:=Unit) (fun i => ⟨[(0,.c (.val (.sl 1 (f.map eL)))),(1,.c (.val (.sl 1 (g.map eL)))),(5,.c (.val (.int i)))],[]⟩) (fun i => i ≤ f.length∧lexC cmpT f g = lexC cmpT (f.drop i) (g.drop i)) (fun i => f.length - i)
   (fun _ => ⟨[],[]⟩) (fun _ => lexC cmpT f g = 0) 0 ⟨Nat.zero_le _,rfl⟩ ?_ ?_ ?_
  ·exact gw6 Y0
  ·rintro i ⟨hi,hx⟩
   have hw:=qD (n:=i) (by omega)
   by_cases h:i < f.length
   ·have h2:i < g.length:=by omega
    have i1:((i:Int) < (f.length:Int)) = True:=eq_true (by omega)
    have i1':((i:Int) < (g.length:Int)) = True:=eq_true (by omega)
    have i2:((0:Int) ≤ (i:Int)) = True:=eq_true (by omega)
    have hs:=lexC_step (c:=cmpT) h h2
    obtain ⟨t,ht⟩:∃ t,t = f[i]:=⟨_,rfl⟩
    obtain ⟨s,hsd⟩:∃ s,s = g[i]:=⟨_,rfl⟩
    rw [← ht,← hsd] at hs
    have hgt:(f.map eL)[i]? = some [.sl 1 (t.map eI)]:=by rw [qE h,ht];rfl
    have hgs:(g.map eL)[i]? = some [.sl 1 (s.map eI)]:=by rw [qE h2,hsd];rfl
    have han:=yF.anti s t
    by_cases c1:cmpT t s < 0
    ·have d1:decide (cmpT t s < 0) = true:=decide_eq_true c1
     rw [hx,hs,if_neg (by omega),sgn_neg c1]
     refine gw23 (kk 6) (Y7 i1 i1' i2 hgt hgs hw d1) ?_
     refine qY.ret ?_
     refine gw24 (kk 6) Y0 ?_
     exact gw8
    ·have d1:decide (cmpT t s < 0) = false:=decide_eq_false c1
     by_cases c2:cmpT s t < 0
     ·have d2:decide (cmpT s t < 0) = true:=decide_eq_true c2
      rw [hx,hs,if_neg (by omega),sgn_pos (by omega)]
      refine gw23 (kk 6) (Y8 i1 i1' i2 hgt hgs hw d1 d2) ?_
      refine qY.ret ?_
      refine gw24 (kk 6) Y0 ?_
      exact gw8
     ·have d2:decide (cmpT s t < 0) = false:=decide_eq_false c2
      rw [if_pos (by omega)] at hs
      refine gw23 (kk 6) (Y8 i1 i1' i2 hgt hgs hw d1 d2) ?_
      refine qY.on (i + 1) ⟨⟨h,by rw [hx,hs]⟩,by omega⟩ ?_
      exact gw6 Y0
   ·have i1:((i:Int) < (f.length:Int)) = False:=eq_false (by omega)
    rw [lexC_end0 h (by omega)] at hx
    refine gw25 (kk 6) i1 ?_
    refine qY.out () hx ?_
    exact gw6 Y0
  ·rintro _ h0
   rw [h0,sgn_zero]
   refine gw24 (kk 6) Y0 ?_
   exact gw8
 ·have hb:((f.length:Int) != (g.length:Int)) = true:=by simp;omega
  rw [if_neg (by omega)]
  by_cases h2:f.length < g.length
  ·have i1:((f.length:Int) < (g.length:Int)) = True:=eq_true (by omega)
   rw [sgn_neg (by omega)]
   refine gw26 (kk 6) (Yp hb i1) ?_
   exact gw8
  ·have i1:((f.length:Int) < (g.length:Int)) = False:=eq_false (by omega)
   rw [sgn_pos (by omega)]
   refine gw26 (kk 6) (Yp hb i1) ?_
   exact gw8
theorem a_l06Order (f g:List (List Int)) (hf:qQ f ≤ 1000000000) (hg:qQ g ≤ 1000000000) (hf2:f.length ≤ 1000000000) (hg2:g.length ≤ 1000000000):AFn Tryz.prog 136 [eLL f,eLL g] (· = [.val (.int (sgn (cmpF f g)))]):=by
 have hn1:jF f = qQ f:=kC f (by omega)
 have hn2:jF g = qQ g:=kC g (by omega)
 have hc:=a_l05Compare f g hf2 hg2
 simp only [eLL] at hc
 rw [cmpF_N]
 refine AFn.of_runs (qX 20) Tryz.func136 rfl rfl rfl gz ?_
 have hres:Tryz.f136.results.toList = [.tmp 4]:=rfl
 have hrts:Tryz.f136.resultTypes.toList = [2]:=rfl
 simp only [qU,qT,eL,eI,eLL,eB,Nat.zero_add,Nat.reduceAdd]
 intro M
 refine qJ.of ?_
 by_cases hl:qQ f = qQ g
 ·have hb:((qQ f:Int) != (qQ g:Int)) = false:=by simp [hl]
  rw [if_pos (by rw [hl])]
  refine gw27 (kk 7) (Y3 hb hn1 hn2) ?_
  exact gw8
 ·have hb:((qQ f:Int) != (qQ g:Int)) = true:=by simp;omega
  rw [if_neg (by omega)]
  by_cases h2:qQ f < qQ g
  ·have i1:((qQ f:Int) < (qQ g:Int)) = True:=eq_true (by omega)
   rw [sgn_neg (by omega)]
   refine gw27 (kk 7) (Y4 hb hn1 hn2 i1) ?_
   exact gw8
  ·have i1:((qQ f:Int) < (qQ g:Int)) = False:=eq_false (by omega)
   rw [sgn_pos (by omega)]
   refine gw27 (kk 7) (Y4 hb hn1 hn2 i1) ?_
   exact gw8
theorem yQ0 (f g:List (List Int)) (hf:qQ f ≤ 1000000000) (hg:qQ g ≤ 1000000000):AFn Tryz.prog 87 [eLL f,eLL g] (· = [.val (.int (cmpF f g))]):=by
 refine ⟨enters_of Tryz.func87 rfl rfl,fun A w vs hA ⟨v1,_,e1,h1,v2,_,e2,h2,e3⟩ => ?_⟩
 subst e3;subst e2;subst e1
 have r1:=Rd.of (rdLL h1)
 have r2:=Rd.of (rdLL h2)
 obtain ⟨oa,c1,k1,m1,m2⟩:=r1.val
 obtain ⟨ob,c2,k2,m3,m4⟩:=r2.val
 refine (jF0 v1 v2 f g w r1 r2 (by omega) (by omega)).mono ?_
 rintro e w' ⟨rfl,rfl⟩
 have hle:∀ {f:List (List Int)},qQ f ≤ 1000000000→∀ t ∈ f,t.length ≤ maxLen:=fun h t ht => Nat.le_trans (jK ht) (Nat.le_trans h (by decide))
 exact ⟨_,_,rfl,rfl,Below.refl _ _,[_],[],[],rfl,List.nodup_nil,by simp,_,[],[],[],[],[],rfl,rfl,rfl,rfl,⟨jJ.2 ⟨rfl,cmpF_in64 (by omega) (by omega) (by omega) (by omega) (hle hf) (hle hg)⟩,rfl,rfl⟩,rfl,rfl,rfl⟩
def eSp (z:Spl × Int):List D:=[.sl 1 (z.1.1.map eL),.sl 1 (z.1.2.map eL),.int z.2]
def codF2:Cod Spl:=codP 1 codLL codLL (fun _ => rfl)
def codSp:Cod (Spl × Int):=codP 2 codF2 codI (fun _ => rfl)
theorem wL (f g:List (List Int)) (n:Int):codSp.d [.sl 1 (f.map eL),.sl 1 (g.map eL),.int n] = some ((f,g),n):=codSp.de ((f,g),n)
theorem codSps_d (L:List (Spl × Int)):(codS 3 codSp).d [.sl 3 (L.map eSp)] = some L:=(codS 3 codSp).de L
def SmS (s:Spl):Prop:=SmF s.1∧SmF s.2
instance (s:Spl):Decidable (SmS s):=inferInstanceAs (Decidable (_∧_))
def HaF (f:List (List Int)):Prop:=f.length ≤ 9∧qQ f ≤ 50
instance (f:List (List Int)):Decidable (HaF f):=inferInstanceAs (Decidable (_∧_))
def HaS (s:Spl):Prop:=HaF s.1∧HaF s.2
theorem HaF.mul {f g:List (List Int)} (hf:HaF f) (hg:HaF g):SmF (mulF f g):=by
 obtain ⟨h1,h2⟩:=hf
 obtain ⟨h3,h4⟩:=hg
 exact ⟨by rw [wJ];omega,by rw [kU];omega⟩
theorem HaS.mul {s c:Spl} (hs:HaS s) (hc:HaS c):SmS (mulS s c):=⟨hs.1.mul hc.1,hs.2.mul hc.2⟩
theorem HaF.sm {f:List (List Int)} (hf:HaF f):SmF f:=⟨by have:=hf.1;omega,by have:=hf.2;omega⟩
theorem HaS.sm {s:Spl} (hs:HaS s):SmS s:=⟨hs.1.sm,hs.2.sm⟩
theorem cmpS_sgn (s c:Spl):sgn (cmpS s c) = if qQ s.1 = qQ c.1 then (if sgn (cmpN s.1 c.1) = 0 then sgn (cmpN s.2 c.2) else sgn (cmpN s.1 c.1)) else (if qQ s.1 < qQ c.1 then -1 else 1):=by
 have z:∀ n:Int,sgn n = 0 ↔ n = 0:=fun n => by unfold sgn;split <;> (try split) <;> omega
 unfold cmpS pairC
 rw [cmpF_N]
 by_cases h:qQ s.1 = qQ c.1
 ·rw [if_pos h]
  simp only [h,if_true]
  by_cases h0:cmpN s.1 c.1 = 0
  ·rw [if_pos h0,if_pos ((z _).2 h0)]
  ·rw [if_neg h0,if_neg (fun e => h0 ((z _).1 e))]
 ·rw [if_neg h,if_neg (show ¬ (qQ s.1:Int) = qQ c.1 by omega),if_neg (by omega)]
  by_cases h2:qQ s.1 < qQ c.1
  ·rw [if_pos h2,sgn_neg (by omega)]
  ·rw [if_neg h2,sgn_pos (by omega)]
noncomputable def TOrd:Tab Tryz.prog :=
 jR.add 195 (tab2 codLL codLL fun f g => if SmF f∧SmF g then some [.val (.int (sgn (cmpN f g)))] else none) (yH fun f g rs h => by split at h;cases h;rename_i hs;exact a_l05Compare f g (by have:=hs.1.1;omega) (by have:=hs.2.1;omega);cases h)
theorem a_l05Order (z y:Spl × Int) (hz:SmS z.1) (hy:SmS y.1):AFn Tryz.prog 231 [eSp z,eSp y] (· = [.val (.int (sgn (cmpS z.1 y.1)))]):=by
 obtain ⟨⟨f,g⟩,n⟩:=z
 obtain ⟨⟨f',g'⟩,n'⟩:=y
 obtain ⟨hz1,hz2⟩:=hz
 obtain ⟨hy1,hy2⟩:=hy
 simp only at hz1 hz2 hy1 hy2
 have hn1:jF f = qQ f:=kC f (by have:=hz1.2;omega)
 have hn2:jF f' = qQ f':=kC f' (by have:=hy1.2;omega)
 have e1:=eq_true hz1
 have e2:=eq_true hz2
 have e3:=eq_true hy1
 have e4:=eq_true hy2
 rw [cmpS_sgn]
 simp only
 refine AFn.of_runs (qX 33) Tryz.func231 rfl rfl rfl gz ?_
 have hres:Tryz.f231.results.toList = [.tmp 4]:=rfl
 have hrts:Tryz.f231.resultTypes.toList = [2]:=rfl
 simp only [qU,qT,eL,eI,eLL,eB,Nat.zero_add,Nat.reduceAdd,eSp]
 intro M
 refine qJ.of ?_
 by_cases hl:qQ f = qQ f'
 ·have hb:((qQ f:Int) != (qQ f':Int)) = false:=by simp [hl]
  rw [if_pos hl]
  by_cases h0:sgn (cmpN f f') = 0
  ·have h0b:(sgn (cmpN f f') != 0) = false:=by simp [h0]
   rw [if_pos h0]
   refine gw28 (kk 8) (Y7 hb hn1 hn2 h0b e1 e2 e4) ?_
   exact gw8
  ·have h0b:(sgn (cmpN f f') != 0) = true:=bne_iff_ne.2 h0
   rw [if_neg h0]
   refine gw28 (kk 8) (Y7 hb hn1 hn2 h0b e1 e2 e4) ?_
   exact gw8
 ·have hb:((qQ f:Int) != (qQ f':Int)) = true:=by simp;omega
  rw [if_neg hl]
  by_cases h2:qQ f < qQ f'
  ·have i1:((qQ f:Int) < (qQ f':Int)) = True:=eq_true (by omega)
   rw [if_pos h2]
   refine gw24 (kk 8) (Y4 hb hn1 hn2 i1) ?_
   exact gw8
  ·have i1:((qQ f:Int) < (qQ f':Int)) = False:=eq_false (by omega)
   rw [if_neg h2]
   refine gw24 (kk 8) (Y4 hb hn1 hn2 i1) ?_
   exact gw8
noncomputable def xZ:Tab Tryz.prog :=
 Tab.none.add 231 (tab2 codSp codSp fun z y => if SmS z.1∧SmS y.1 then some [.val (.int (sgn (cmpS z.1 y.1)))] else none) (yH fun z y rs h => by split at h;cases h;rename_i hs;exact a_l05Order z y hs.1 hs.2;cases h)
structure PutNI (L:List (Spl × Int)) (k:Int) (x:Spl) (y:Nat × Bool × List (Spl × Int)):Prop where
 le:y.1 ≤ L.length
 no:y.2.1 = false→y.2.2 = L.take y.1∧∀ q ∈ L.take y.1,0 < cmpS x q.1
 yes:y.2.1 = true→y.2.2 ++ L.drop y.1 = putN cmpS L k x
 len:y.2.2.length ≤ y.1 + 1
theorem putN_at {L:List (Spl × Int)} {k:Int} {x:Spl} {i:Nat} (h:i < L.length) (hlow:∀ q ∈ L.take i,0 < cmpS x q.1):putN cmpS L k x = L.take i ++ putN cmpS (L[i] :: L.drop (i + 1)) k x:=by
 have h1:=putN_skip (k:=k) (L.drop i) hlow
 rw [List.take_append_drop,List.drop_eq_getElem_cons h] at h1
 exact h1
theorem a_l05Put (L:List (Spl × Int)) (k:Int) (x:Spl) (hl:L.length ≤ 1000000) (hL:∀ q ∈ L,(1 ≤ q.2∧q.2 ≤ 1000000000)∧SmS q.1) (hk:1 ≤ k∧k ≤ 1000000000) (hx:SmS x):AFn Tryz.prog 191 [[.sl 3 (L.map eSp)],eSp (x,k)] (· = [.val (.sl 3 ((putN cmpS L k x).map eSp))]):=by
 refine AFn.val1 ?_
 have hff:=eq_true hx
 obtain ⟨xf,xg⟩:=x
 refine AFn.of_runs (qX 54) Tryz.func191 rfl rfl rfl gz ?_
 have hres:Tryz.f191.results.toList = [.tmp 4]:=rfl
 have hrts:Tryz.f191.resultTypes.toList = [33]:=rfl
 simp only [qU,qT,eL,eI,eLL,eB,Nat.zero_add,Nat.reduceAdd,eSp]
 intro M
 refine qJ.of ?_
 refine gw29 (kk 10) Y0 ?_
 refine qJ.loop (β:=Nat × Bool × List (Spl × Int)) (γ:=Bool × List (Spl × Int)) (fun y => ⟨[(0,.c (.val (.sl 3 (L.map eSp)))),(3,.optr 3 0 0),(5,.c (.own 5 y.2.2.length)),(6,.c (.val (.bool y.2.1))),(7,.c (.val (.int y.1)))],[(3,.row 3 [[.sl 1 (xf.map eL),.sl 1 (xg.map eL),.int k]] false),(5,.row 3 (y.2.2.map eSp) false)]⟩) (PutNI L k (xf,xg)) (fun y => L.length - y.1)
  (fun y => ⟨[(3,.optr 3 0 0),(5,.c (.own 5 y.2.length)),(6,.c (.val (.bool y.1)))],[(3,.row 3 [[.sl 1 (xf.map eL),.sl 1 (xg.map eL),.int k]] false),(5,.row 3 (y.2.map eSp) false)]⟩) (fun y => PutNI L k (xf,xg) (L.length,y)) (0,false,[]) ⟨Nat.zero_le _,fun _ => ⟨rfl,by simp⟩,(fun h => nomatch h),Nat.zero_le _⟩ ?_ ?_ ?_
 ·exact gw30
 ·rintro ⟨i,d,o⟩ ⟨hi,hno,hyes,hlen⟩
  simp only at hi hno hyes hlen ⊢
  have hw:=qD (n:=i) (by omega)
  have q1:=jW (n:=o.length + 1) (by omega)
  have q2:=jZ (n:=o.length + 1) (c:=56) (by omega) (by omega)
  have q3:=jW (n:=o.length + 1 + 1) (by omega)
  have q4:=jZ (n:=o.length + 1 + 1) (c:=56) (by omega) (by omega)
  by_cases h:i < L.length
  ·have i1:((i:Int) < (L.length:Int)) = True:=eq_true (by omega)
   have i2:((0:Int) ≤ (i:Int)) = True:=eq_true (by omega)
   obtain ⟨z,hz⟩:∃ z,z = L[i]:=⟨_,rfl⟩
   obtain ⟨⟨hz1,hz2⟩,hz3⟩:=hL L[i] (List.getElem_mem _)
   have hg:(L.map eSp)[i]? = some [.sl 1 (z.1.1.map eL),.sl 1 (z.1.2.map eL),.int z.2]:=by rw [qE h,hz];rfl
   have hdr:L.drop i = z :: L.drop (i + 1):=by rw [hz];exact List.drop_eq_getElem_cons h
   have htk:L.take (i + 1) = L.take i ++ [z]:=by rw [hz];exact List.take_succ_eq_append_getElem h
   rw [← hz] at hz1 hz2 hz3
   obtain ⟨⟨zf,zg⟩,zn⟩:=z
   simp only at hz1 hz2 hz3 hg
   have hzz:=eq_true hz3
   cases d with
   | true =>
    refine gw31 (kk 10) (Y6 i1 i2 hg hw q1 q2) ?_
    refine qY.on (i + 1,true,o ++ [((zf,zg),zn)]) ?_ ?_
    refine ⟨⟨h,(fun h => nomatch h),fun _ => ?_,?_⟩,?_⟩
    ·rw [← hyes rfl,hdr];simp
    ·simp;omega
    ·show L.length - (i + 1) < L.length - i;omega
    ·exact gw32
   | false =>
    obtain ⟨ho,hlow⟩:=hno rfl
    have hpa:=putN_at (k:=k) h hlow
    rw [← hz] at hpa
    rcases Int.lt_trichotomy (cmpS (xf,xg) (zf,zg)) 0 with hc|hc|hc
    ·have hs:=sgn_neg hc
     have hp:putN cmpS L k (xf,xg) = o ++ [((xf,xg),k)] ++ [((zf,zg),zn)] ++ L.drop (i + 1):=by
      rw [hpa,ho];unfold putN;rw [if_pos hc];simp
     refine gw33 (kk 10) (Y11 i1 i2 hg hw hs hff hzz q1 q2 q3 q4) ?_
     refine qY.on (i + 1,true,o ++ [((xf,xg),k)] ++ [((zf,zg),zn)]) ?_ ?_
     refine ⟨⟨h,(fun h => nomatch h),fun _ => hp.symm,?_⟩,?_⟩
     ·have:o.length = i:=by rw [ho,List.length_take];omega
      simp;omega
     ·show L.length - (i + 1) < L.length - i;omega
     ·exact gw32
    ·have hs:sgn (cmpS (xf,xg) (zf,zg)) = 0:=by rw [hc];rfl
     have hwk:=qL (n:=zn + k) (by omega)
     have hp:putN cmpS L k (xf,xg) = o ++ [((zf,zg),zn + k)] ++ L.drop (i + 1):=by
      rw [hpa,ho];unfold putN;rw [if_neg (show ¬ cmpS (xf,xg) (zf,zg) < 0 by omega),if_pos hc];simp
     refine gw31 (kk 10) (Y10 i1 i2 hg hw hs hwk hff hzz q1 q2) ?_
     refine qY.on (i + 1,true,o ++ [((zf,zg),zn + k)]) ?_ ?_
     refine ⟨⟨h,(fun h => nomatch h),fun _ => hp.symm,?_⟩,?_⟩
     ·simp;omega
     ·show L.length - (i + 1) < L.length - i;omega
     ·exact gw32
    ·have hs:=sgn_pos hc
     refine gw31 (kk 10) (Y9 i1 i2 hg hw hs hff hzz q1 q2) ?_
     refine qY.on (i + 1,false,o ++ [((zf,zg),zn)]) ?_ ?_
     refine ⟨⟨h,fun _ => ⟨by rw [htk,ho],?_⟩,(fun h => nomatch h),?_⟩,?_⟩
     ·intro q hq
      have hq:q ∈ L.take (i + 1):=hq
      rw [htk,List.mem_append,List.mem_singleton] at hq
      rcases hq with hq|rfl
      ·exact hlow q hq
      ·exact hc
     ·simp;omega
     ·show L.length - (i + 1) < L.length - i;omega
     ·exact gw32
  ·have i1:((i:Int) < (L.length:Int)) = False:=eq_false (by omega)
   obtain rfl:i = L.length:=by omega
   refine gw34 (kk 10) i1 ?_
   refine qY.out (d,o) ⟨Nat.le_refl _,hno,hyes,hlen⟩ ?_
   exact gw6 Y0
 ·rintro ⟨d,o⟩ ⟨_,hno,hyes,hlen⟩
  simp only at hno hyes hlen ⊢
  have q1:=jW (n:=o.length + 1) (by omega)
  have q2:=jZ (n:=o.length + 1) (c:=56) (by omega) (by omega)
  cases d with
  | true =>
   have hp:putN cmpS L k (xf,xg) = o:=by rw [← hyes rfl];simp
   rw [hp]
   refine gw29 (kk 10) Y0 ?_
   exact gw8
  | false =>
   obtain ⟨ho,hlow⟩:=hno rfl
   have hp:putN cmpS L k (xf,xg) = o ++ [((xf,xg),k)]:=by
    have h1:=putN_skip (k:=k) [] hlow
    rw [List.append_nil,List.take_length] at h1
    rw [h1,ho,List.take_length]
    rfl
   rw [hp]
   refine gw35 (kk 10) (Yp q1 q2) ?_
   (refine Ends.mk (by simp) (rs:=?_) (ks:=?_) hres hrts ?_ ?_ ?_;rotate_left 2;(focus (simp only [Ze,Zg,Zi,seval,eSp];with_reducible rfl));(focus simp);focus (first|with_reducible rfl|(simp only [Zv,eSp];done)))
def sumN (P:List (Spl × Int)):List (Spl × Int):=P.foldl (fun s p => putN cmpS s p.2 p.1) []
theorem sumN_snoc (P:List (Spl × Int)) (p:Spl × Int):sumN (P ++ [p]) = putN cmpS (sumN P) p.2 p.1:=by unfold sumN;rw [List.foldl_append];rfl
theorem sumN_is {P:List (Spl × Int)} (h:∀ p ∈ P,1 ≤ p.2):IsN cmpS (sumN P) (expN P):=by
 have:=IsN.puts xC P (IsN.nil (c:=cmpS)) h
 rw [List.nil_append] at this
 exact this
theorem sumN_ok {P:List (Spl × Int)} (hP:∀ q ∈ P,1 ≤ q.2∧SmS q.1) (hn:(expN P).length ≤ 1000000):(sumN P).length ≤ 1000000∧∀ q ∈ sumN P,(1 ≤ q.2∧q.2 ≤ 1000000000)∧SmS q.1:=by
 have h:=sumN_is (fun p hp => (hP p hp).1)
 refine ⟨Nat.le_trans h.len hn,fun q hq => ?_⟩
 have h1:=h.cnt q hq
 obtain ⟨r,hr,e⟩:=expN_mem (h.key q hq)
 exact ⟨⟨h1.1,by omega⟩,e ▸ (hP r hr).2⟩
def prodN (A B:List (Spl × Int)):List (Spl × Int):=A.flatMap fun a => B.map fun b => (mulS a.1 b.1,a.2 * b.2)
theorem times_sum (A B:List (Spl × Int)):timesN cmpS mulS A B = sumN (prodN A B):=rfl
theorem prodN_len {A B:List (Spl × Int)} (hA:∀ p ∈ A,1 ≤ p.2) (hB:∀ p ∈ B,1 ≤ p.2):(expN (prodN A B)).length = (expN A).length * (expN B).length:=by
 unfold prodN
 rw [(exp_prod mulS B hB A hA).length_eq]
 generalize expN A = X
 induction X with
 | nil => simp
 | cons x X ih => rw [List.flatMap_cons,List.length_append,ih,List.length_map,List.length_cons,Nat.succ_mul,Nat.add_comm]
theorem prodN_snoc (A B:List (Spl × Int)) (a:Spl × Int):prodN (A ++ [a]) B = prodN A B ++ B.map fun b => (mulS a.1 b.1,a.2 * b.2):=by simp [prodN]
theorem prodN_take {A B:List (Spl × Int)} {i:Nat} (h:i < A.length):∃ Y,prodN A B = (prodN (A.take i) B ++ B.map fun b => (mulS A[i].1 b.1,A[i].2 * b.2)) ++ Y:=by
 refine ⟨prodN (A.drop (i + 1)) B,?_⟩
 rw [← prodN_snoc,← List.take_succ_eq_append_getElem h]
 unfold prodN
 rw [← List.flatMap_append,List.take_append_drop]
noncomputable def TTmN:Tab Tryz.prog :=
 (Tab.none.add 148 (tab2 codLL codLL fun f g => if HaF f∧HaF g then some [.val (.sl 1 ((mulF f g).map eL))] else none) (yH fun f g rs h => by
  split at h
  ·rename_i hs
   cases h
   exact AFn.valT (a_l03Times f g (by have:=hs.1.1;omega) (fun b hb => by have:=jK hb;have:=hs.1.2;omega) (by have:=hs.2.1;omega) (fun b hb => by have:=jK hb;have:=hs.2.2;omega))
  ·cases h)).add
  191 (tab2 (codS 3 codSp) codSp fun L p => if L.length ≤ 1000000∧(∀ q ∈ L,(1 ≤ q.2∧q.2 ≤ 1000000000)∧SmS q.1)∧(1 ≤ p.2∧p.2 ≤ 1000000000)∧SmS p.1 then some [.val (.sl 3 ((putN cmpS L p.2 p.1).map eSp))] else none) (yH fun L p rs h => by
  split at h
  ·rename_i hs
   cases h
   exact a_l05Put L p.2 p.1 hs.1 hs.2.1 hs.2.2.1 hs.2.2.2
  ·cases h)
theorem a_l05Times (A B:List (Spl × Int)) (hA:∀ p ∈ A,1 ≤ p.2∧HaS p.1) (hB:∀ p ∈ B,1 ≤ p.2∧HaS p.1) (nA:(expN A).length ≤ 1000) (nB:(expN B).length ≤ 1000) :
  AFn Tryz.prog 131 [[.sl 3 (A.map eSp)],[.sl 3 (B.map eSp)]] (· = [.val (.sl 3 ((timesN cmpS mulS A B).map eSp))]):=by
 rw [times_sum]
 have cA:∀ p ∈ A,p.2 ≤ 1000:=fun p hp => by
  obtain ⟨s,t,rfl⟩:=List.append_of_mem hp
  rw [qX0,yK,List.length_append,List.length_append,List.length_replicate] at nA
  omega
 have cB:∀ p ∈ B,p.2 ≤ 1000:=fun p hp => by
  obtain ⟨s,t,rfl⟩:=List.append_of_mem hp
  rw [qX0,yK,List.length_append,List.length_append,List.length_replicate] at nB
  omega
 have len1:∀ (L:List (Spl × Int)),(∀ p ∈ L,1 ≤ p.2)→L.length ≤ (expN L).length:=by
  intro L
  induction L with
  | nil => intro _;exact Nat.le_refl _
  | cons p L ih =>
   intro hp
   have h1:=hp p (by simp)
   have h2:=ih (fun q hq => hp q (by simp [hq]))
   rw [yK,List.length_append,List.length_replicate,List.length_cons];omega
 have lA:A.length ≤ 1000:=Nat.le_trans (len1 A (fun p hp => (hA p hp).1)) nA
 have lB:B.length ≤ 1000:=Nat.le_trans (len1 B (fun p hp => (hB p hp).1)) nB
 have hP:∀ q ∈ prodN A B,1 ≤ q.2∧SmS q.1:=fun q hq => by
  obtain ⟨a,ha,hq⟩:=List.mem_flatMap.1 hq
  obtain ⟨b,hb,rfl⟩:=List.mem_map.1 hq
  exact ⟨Int.mul_pos (hA a ha).1 (hB b hb).1,(hA a ha).2.mul (hB b hb).2⟩
 have hN:(expN (prodN A B)).length ≤ 1000000:=by
  rw [prodN_len (fun p hp => (hA p hp).1) (fun p hp => (hB p hp).1)]
  exact Nat.le_trans (Nat.mul_le_mul nA nB) (by decide)
 have hpre:∀ X Y,prodN A B = X ++ Y→(sumN X).length ≤ 1000000∧∀ q ∈ sumN X,(1 ≤ q.2∧q.2 ≤ 1000000000)∧SmS q.1:=fun X Y e =>
  sumN_ok (fun q hq => hP q (by rw [e];simp [hq])) (by rw [e,qX0,List.length_append] at hN;omega)
 refine AFn.of_runs (qX 58) Tryz.func131 rfl rfl rfl gz ?_
 have hres:Tryz.f131.results.toList = [.tmp 4]:=rfl
 have hrts:Tryz.f131.resultTypes.toList = [33]:=rfl
 simp only [qU,qT,eL,eI,eLL,eB,Nat.zero_add,Nat.reduceAdd]
 intro M
 refine qJ.of ?_
 refine gw29 (kk 8) Y0 ?_
 refine qJ.frz 5 ?_
 refine qJ.fits (s0:=⟨[(0,.c (.val (.sl 3 (A.map eSp)))),(1,.c (.val (.sl 3 (B.map eSp)))),(5,.c (.val (.sl 3 []))),(6,.c (.val (.int 0)))],[]⟩) ?_ ?_
 ·exact gw36
 refine qJ.loop (β:=Nat) (γ:=Unit) (fun i => ⟨[(0,.c (.val (.sl 3 (A.map eSp)))),(1,.c (.val (.sl 3 (B.map eSp)))),(5,.c (.val (.sl 3 ((sumN (prodN (A.take i) B)).map eSp)))),(6,.c (.val (.int i)))],[]⟩) (fun i => i ≤ A.length) (fun i => A.length - i)
  (fun _ => ⟨[(5,.c (.val (.sl 3 ((sumN (prodN A B)).map eSp))))],[]⟩) (fun _ => True) 0 (Nat.zero_le _) ?_ ?_ ?_
 ·exact gw37 (Yp (show prodN [] B = [] from rfl) (show sumN [] = [] from rfl))
 ·intro i hi
  have hi:i ≤ A.length:=hi
  have hw:=qD (n:=i) (by omega)
  by_cases h:i < A.length
  ·have i1:((i:Int) < (A.length:Int)) = True:=eq_true (by omega)
   have i2:((0:Int) ≤ (i:Int)) = True:=eq_true (by omega)
   obtain ⟨z,hz⟩:∃ z,z = A[i]:=⟨_,rfl⟩
   obtain ⟨hz1,hz2⟩:=hA A[i] (List.getElem_mem _)
   have hz3:=cA A[i] (List.getElem_mem _)
   obtain ⟨Y,hY⟩:=prodN_take (B:=B) h
   have hg:(A.map eSp)[i]? = some [.sl 1 (z.1.1.map eL),.sl 1 (z.1.2.map eL),.int z.2]:=by rw [qE h,hz];rfl
   have htk:prodN (A.take (i + 1)) B = prodN (A.take i) B ++ B.map fun b => (mulS z.1 b.1,z.2 * b.2):=by
    rw [hz,List.take_succ_eq_append_getElem h,prodN_snoc]
   rw [← hz] at hz1 hz2 hz3 hY
   obtain ⟨R,hR⟩:∃ R,R = prodN (A.take i) B:=⟨_,rfl⟩
   rw [← hR] at hY htk ⊢
   have hle:(A.map eSp).length = A.length:=List.length_map _
   refine gw38 (kk 8) (Y3 i1 i2 hle) ?_
   refine qJ.loop (β:=Nat) (γ:=Unit) (fun j => ⟨[(0,.c (.val (.sl 3 (A.map eSp)))),(1,.c (.val (.sl 3 (B.map eSp)))),(5,.c (.val (.sl 3 ((sumN (R ++ (B.take j).map fun b => (mulS z.1 b.1,z.2 * b.2))).map eSp)))),(6,.c (.val (.int i))),(7,.c (.val (.int j)))],[]⟩) (fun j => j ≤ B.length) (fun j => B.length - j)
    (fun _ => ⟨[(0,.c (.val (.sl 3 (A.map eSp)))),(1,.c (.val (.sl 3 (B.map eSp)))),(5,.c (.val (.sl 3 ((sumN (R ++ B.map fun b => (mulS z.1 b.1,z.2 * b.2))).map eSp)))),(6,.c (.val (.int i)))],[]⟩) (fun _ => True) 0 (Nat.zero_le _) ?_ ?_ ?_
   ·exact gw39
   ·intro j hj
    have hj:j ≤ B.length:=hj
    have hwj:=qD (n:=j) (by omega)
    by_cases g:j < B.length
    ·have j1:((j:Int) < (B.length:Int)) = True:=eq_true (by omega)
     have j2:((0:Int) ≤ (j:Int)) = True:=eq_true (by omega)
     obtain ⟨y,hy⟩:∃ y,y = B[j]:=⟨_,rfl⟩
     obtain ⟨hy1,hy2⟩:=hB B[j] (List.getElem_mem _)
     have hy3:=cB B[j] (List.getElem_mem _)
     have hgj:(B.map eSp)[j]? = some [.sl 1 (y.1.1.map eL),.sl 1 (y.1.2.map eL),.int y.2]:=by rw [qE g,hy];rfl
     have hst:(R ++ (B.take (j + 1)).map fun b => (mulS z.1 b.1,z.2 * b.2)) = (R ++ (B.take j).map fun b => (mulS z.1 b.1,z.2 * b.2)) ++ [(mulS z.1 y.1,z.2 * y.2)]:=by
      rw [hy,List.take_succ_eq_append_getElem g,List.map_append,List.append_assoc];rfl
     rw [← hy] at hy1 hy2 hy3
     have hsplit:prodN A B = (R ++ (B.take j).map fun b => (mulS z.1 b.1,z.2 * b.2)) ++ (((B.drop j).map fun b => (mulS z.1 b.1,z.2 * b.2)) ++ Y):=by
      rw [hY]
      conv => lhs;rw [← List.take_append_drop j B,List.map_append]
      simp only [List.append_assoc]
     obtain ⟨K,hK⟩:∃ K,K = R ++ (B.take j).map fun b => (mulS z.1 b.1,z.2 * b.2):=⟨_,rfl⟩
     rw [← hK] at hsplit hst ⊢
     have hKb:=hpre K _ hsplit
     have hej:(B.map eSp).length = B.length:=List.length_map _
     have hm0:1 ≤ z.2 * y.2:=Int.mul_pos hz1 hy1
     have hm1:z.2 * y.2 ≤ 1000000:=Int.mul_le_mul hz3 hy3 (by omega) (by decide)
     have hwm:=qL (n:=z.2 * y.2) (by omega)
     have t1:=eq_true (And.intro hz2.1 hy2.1)
     have t2:=eq_true (And.intro hz2.2 hy2.2)
     have t3:=eq_true (And.intro hKb.1 (And.intro hKb.2 (And.intro (show 1 ≤ z.2 * y.2∧z.2 * y.2 ≤ 1000000000 by omega) (show SmS (mulF z.1.1 y.1.1,mulF z.1.2 y.1.2) from hz2.mul hy2))))
     refine gw40 (kk 8) (Y12 i1 i2 j1 j2 hg hgj hwj hle hej hwm t1 (Yp t2 t3)) ?_
     refine qY.on (j + 1) ⟨g,by omega⟩ ?_
     rw [hst,sumN_snoc]
     exact gw41
    ·have j1:((j:Int) < (B.length:Int)) = False:=eq_false (by omega)
     obtain rfl:j = B.length:=by omega
     rw [List.take_length]
     refine gw34 (kk 8) j1 ?_
     refine qY.out () trivial ?_
     exact gw6 Y0
   ·rintro _ _
    refine gw29 (kk 8) hw ?_
    refine qY.on (i + 1) ⟨h,by omega⟩ ?_
    rw [htk]
    exact gw6 Y0
  ·have i1:((i:Int) < (A.length:Int)) = False:=eq_false (by omega)
   obtain rfl:i = A.length:=by omega
   rw [List.take_length]
   refine gw34 (kk 8) i1 ?_
   refine qY.out () trivial ?_
   exact gw6 Y0
 ·rintro _ _
  refine gw29 (kk 8) Y0 ?_
  exact gw8
end Go.Proofs.YtedgfkpfhonlpaaGreat

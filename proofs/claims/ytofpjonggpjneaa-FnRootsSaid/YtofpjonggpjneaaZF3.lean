/- Lemmas (3). -/
import Derived.Test.YtofpjonggpjneaaZF1
import Derived.Test.YtofpjonggpjneaaZF2
set_option linter.unusedSimpArgs false
set_option linter.unusedVariables false
namespace Go.Proofs.Ytofpjonggpjneaa
open Go.RowKit
def graftL (u:List Int) (n:Nat) (v:List Int):List Int:=u.take (endOf u n) ++ (v.map (· + (u.getD n 0 + 1)) ++ u.drop (endOf u n))
theorem LevP.head {t:List Int} (h:LevP t):t.getD 0 0 = 0:=by
 have:=h.zero h.pos
 have hp:=h.pos
 simp [hp,this]
theorem LevP.get1 {t:List Int} (h:LevP t) {i:Nat} (h0:0 < i) (hi:i < t.length):1 ≤ t.getD i 0:=by
 obtain ⟨j,rfl⟩:∃ j,i = j + 1:=⟨i - 1,by omega⟩
 have:=(h.succ hi).1
 simpa [hi] using this
theorem endOf_root {t:List Int} (h:LevP t):endOf t 0 = t.length:=by
 refine endOf_eq (by have:=h.pos;omega) (Nat.le_refl _) (fun j h1 h2 => ?_) (.inl rfl)
 rw [h.head]
 have:=h.get1 h1 h2
 omega
theorem graftL_root {b u:List Int} (h:LevP b):graftL b 0 u = b ++ u.map (· + 1):=by
 unfold graftL
 rw [endOf_root h,List.take_length,List.drop_length,List.append_nil,h.head]
 simp
theorem append_lev {b u:List Int} (hb:LevP b) (hu:LevP u):LevP (b ++ u.map (· + 1)):=by
 have e:b ++ u.map (· + 1) = rootOn (brs b ++ [u]):=by rw [rootOn_snoc,rootOn_brs hb]
 rw [e]
 refine rootOn_lev fun c hc => ?_
 rcases List.mem_append.1 hc with hc|hc
 ·exact brs_lev hb c hc
 ·rw [List.mem_singleton] at hc;subst hc;exact hu
theorem cut_len {t:List Int} {n:Nat} (hn:n < t.length):(cutB t n).length + (cutT t n).length = t.length:=by
 have h1:endOf t n ≤ t.length∧n + 1 ≤ endOf t n:=by
  unfold endOf
  have:=(List.takeWhile_sublist (fun l => decide (t.getD n 0 < l)) (l:=t.drop (n + 1))).length_le
  rw [List.length_drop] at this
  omega
 unfold cutB cutT
 simp only [List.length_map,List.length_drop,List.length_take,List.length_append]
 omega
theorem par_check:lists8.all (fun t => (List.range t.length).all fun n => Nat.beq n 0 || (decide (0 ≤ parAt t n) && decide (t.getD (parAt t n).toNat 0 = t.getD n 0 - 1))) = true:=by decide +kernel
theorem par_ok {t:List Int} (h:lev8 t = true) {n:Nat} (h0:0 < n) (hn:n < t.length):0 ≤ parAt t n∧t.getD (parAt t n).toNat 0 = t.getD n 0 - 1:=by
 have:=List.all_eq_true.1 (lev8_all par_check h) n (List.mem_range.2 hn)
 rw [Bool.or_eq_true,Bool.and_eq_true,decide_eq_true_eq,decide_eq_true_eq] at this
 exact this.resolve_left (fun e => by have:=Nat.eq_of_beq_eq_true e;omega)
theorem par_lt (t:List Int) (n:Nat):parAt t n < n:=(parS_lt t (t.getD n 0 - 1) n).2
theorem turnF_zero (f:Nat) (t:List Int):turnF f t 0 = canon t:=by cases f <;> rfl
theorem turnF_lev:∀ (f:Nat) (t:List Int) (n:Nat),lev8 t = true→n < t.length→LevP (turnF f t n)∧(turnF f t n).length = t.length
 | 0,t,n,h,_ => ⟨canon_lev (lev8_lev h),canon_len (lev8_lev h)⟩
 | f + 1,t,n,h,hn => by
  by_cases h0:n = 0
  ·subst h0;rw [turnF_zero];exact ⟨canon_lev (lev8_lev h),canon_len (lev8_lev h)⟩
  ·have hc:=cuts_lev h (by omega) hn
   have hp:=par_ok h (by omega) hn
   have hp2:=par_lt t n
   have hl:=cut_len hn
   have hlt:(parAt t n).toNat < (cutT t n).length:=by
    unfold cutT
    rw [List.length_append,List.length_take]
    omega
   have ih:=turnF_lev f (cutT t n) (parAt t n).toNat hc.1 hlt
   rw [turnF,if_neg h0]
   have hlv:=append_lev (lev8_lev hc.2) ih.1
   refine ⟨canon_lev hlv,?_⟩
   rw [canon_len hlv,List.length_append,List.length_map,ih.2]
   exact hl
theorem cutT_get {t:List Int} {n p:Nat} (hn:n < t.length) (hp:p < n):(cutT t n).getD p 0 = t.getD p 0:=by
 unfold cutT
 rw [List.getD_eq_getElem?_getD,List.getD_eq_getElem?_getD,List.getElem?_append_left (by rw [List.length_take];omega),List.getElem?_take_of_lt hp]
end Go.Proofs.Ytofpjonggpjneaa
namespace Go.Proofs.Ytofpjonggpjneaa
open Go.RowKit
theorem add_take_succ (xs:List Int) (x:Int) (k:Nat) (h:k < xs.length):(xs.take (k + 1)).map (· + x) = (xs.take k).map (· + x) ++ [xs[k] + x]:=by
 rw [List.take_succ_eq_append_getElem h,List.map_append];rfl
set_option maxRecDepth 100000 in
set_option maxHeartbeats 2000000 in
theorem c_spec_l04Graft (vu:Value) (n:Nat) (vv:Value) (t:List Int) (s:List Int) (w:World) (h:Rd (RS RI) w [vu] t) (h2:Rd (RS RI) w [vv] s) (h8:lev8 t = true) (hn:n < t.length) (hs8:lev8 s = true)
  (hg:LevP (graftL t n s)) :
  Calls Try.prog 169 #[vu,.int .i64 n,vv] w (RetO (RS RI) w (canon (graftL t n s))):=by
 have hlev:=lev8_lev h8
 have hl8:=lev8_len h8
 have hs9:=lev8_len hs8
 have hsb:=(lev8_lev hs8).bd
 obtain ⟨e1,e2⟩:=endOf_le hn
 have hend:=c_spec_l04End vu t n w h hn (by omega)
 have HT:=Lib.hid h
 have HS:=Lib.hid h2
 obtain ⟨oa,c1,I1⟩:=h.ints
 obtain rfl:=I1.val
 obtain ⟨oa2,c2,I2⟩:=h2.ints
 obtain rfl:=I2.val
 have m1:=I1.le;have m2:=I1.capLe;have m3:=I2.le;have m4:=I2.capLe
 unfold maxLen at m2 m4
 obtain ⟨b,off,rfl,hb,hc⟩:=I1.get hn
 have gn:=hc n hn
 obtain ⟨x,hx⟩:∃ x:Int,x = t[n]'hn:=⟨_,rfl⟩
 rw [← hx] at gn
 have hxb:0 ≤ x∧x ≤ 8:=by have:=hlev.bd n hn;rw [hx];omega
 obtain ⟨xb1,xb2⟩:=hxb
 have in0:(0:Int) ≤ (n:Int):=by omega
 have in1:(n:Int) < (t.length:Int):=by omega
 have hgl:graftL t n s = t.take (endOf t n) ++ (s.map (· + (x + 1)) ++ t.drop (endOf t n)):=by unfold graftL;rw [getD_get hn,← hx]
 have hglen:(graftL t n s).length ≤ 1000:=by rw [hgl];simp;omega
 obtain ⟨k,he⟩:∃ k,k = endOf t n:=⟨_,rfl⟩
 rw [← he] at e1 e2 hend hgl
 obtain ⟨tl,htl⟩:∃ tl,tl = t.length:=⟨_,rfl⟩
 rw [← htl] at in1 m1 hl8 e2 hend
 rw [← htl]
 have HTL:=Lib.hid htl
 have hnk:n + 1 ≤ k:=e1
 have ic1:k ≤ c1:=by omega
 have ic2:k ≤ tl:=e2
 have R1:Rd (RS RI) w [.slice (some ⟨b,off,none⟩) k c1] (t.take k):=by
  have:=HT.out.part 0 k (Nat.zero_le _) (by omega) c1 (by omega) (by unfold maxLen;omega) (by simp)
  simpa [Addr.add] using this
 have R2:Rd (RS RI) w [.slice (some ⟨b,off + k,none⟩) (tl - k) (c1 - k)] (t.drop k):=by
  have:=HT.out.part k t.length (by omega) (Nat.le_refl _) (c1 - k) (by omega) (by unfold maxLen;omega) (by simp)
  rw [← htl] at this
  rw [htl,List.take_length,← htl] at this
  simpa [Addr.add,show ¬ k = 0 by omega] using this
 have R3:c1 = k→Rd (RS RI) w [.slice (some ⟨b,off,none⟩) 0 (c1 - k)] (t.drop k):=fun h => by
  rw [List.drop_of_length_le (by omega)]
  exact Rd.none' (by unfold maxLen;omega) (by simp)
 obtain ⟨ct,hct⟩:∃ ct,ct = graftL t n s:=⟨_,rfl⟩
 rw [← hct] at hgl hg hglen
 rw [← hct]
 have HCN:Hid (∀ (W:World) (v:Value),Rd (RS RI) W [v] ct→Calls Try.prog 112 #[v] W (RetO (RS RI) W (canon ct))):=Lib.hid (fun W v r => c_spec_l03Canon ct.length v ct W r hg (Nat.le_refl _) (by omega))
 have htk:(t.take k).length = k:=by rw [List.length_take];omega
 have HOWN:Hid (∀ nd:Nat,Calls Try.prog 164 #[.slice (some ⟨b,off,none⟩) k c1] (w.drewN nd) (RetO (RS RI) (w.drewN nd) (t.take k))):=Lib.hid (fun nd => c_spec_l01Own _ _ _ (R1.of_heap rfl) (by omega))
 have HR2:=Lib.hid R2
 have HR3:=Lib.hid R3
 have HGL:=Lib.hid hgl
 have HGN:=Lib.hid hglen
 have HTK:=Lib.hid htk
 have HI2:=Lib.hid I2
 have HSB:=Lib.hid hsb
 have hw0:IntKind.i64.wrap (x + 1) = x + 1:=IntWalk.i64_in _ (by omega)
 obtain ⟨sl,hsl⟩:∃ sl,sl = s.length:=⟨_,rfl⟩
 rw [← hsl] at m3 hs9
 rw [← hsl]
 have HSL:=Lib.hid hsl
 clear hc I1 I2 h h2 hx htl hlev h8 he R1 R2 R3 hct hg hgl hglen htk hsb hs8 hsl
 go_enter Try.func169,Try.ntmps169
 go_wp2_with fail
 refine hend.mono ?_
 rintro e wq ⟨rfl,nd,rfl⟩
 go_wp2_with fail
 refine (HOWN.out nd).mono ?_
 rintro e w1 ⟨u,rfl,o1,b1⟩
 have b1':Below w.heap.size w w1:=(Below.drewN _ _ nd).trans b1
 obtain ⟨ou,cu,rfl,lu1,lu2⟩:=o1.val
 have HO1:=Lib.hid o1
 rw [HTK.out]
 clear o1 b1
 go_wp2_with fail
 go_loopw [8,9] (fun o i wr => ∃ (q:Nat) (z:List Int),q ≤ sl∧i = .int .i64 q∧Hid (z = t.take k ++ (s.take q).map (· + (x + 1)))∧Hid (z.length = k + q)∧(∃ oa cap,o = .slice oa z.length cap)∧Hid (Own (RS RI) w.heap.size wr.heap.size wr [o] z)∧Below w.heap.size w wr) (fun _ i _ => sl - (intOf i).toNat)
 case atStart => exact ⟨0,t.take k,Nat.zero_le _,rfl,Lib.hid (by simp),Lib.hid HTK.out,⟨_,_,by rw [HTK.out]⟩,Lib.hid (by have:=HO1.out;rw [HTK.out] at this;exact this),b1'⟩
 case round =>
  obtain ⟨q,z,hq,rfl,hz,hzl,⟨o1,cap1,rfl⟩,hown,hbel⟩:=hrel
  have hsz1:=hbel.size
  by_cases hlq:q < sl
  ·have hlq2:q < s.length:=by rw [← HSL.out];exact hlq
   obtain ⟨b2,off2,rfl,hb2,hc2⟩:=HI2.out.get hlq2
   have g3:wr.cell? ⟨b2,off2 + q,none⟩ = some (.int .i64 s[q]):=(hbel.cell (p:=⟨b2,off2 + q,none⟩) hb2).trans (hc2 _ hlq2)
   have gn3:wr.cell? ⟨b,off + n,none⟩ = some (.int .i64 x):=(hbel.cell (p:=⟨b,off + n,none⟩) hb).trans gn
   have hyb:=HSB.out q hlq2
   have hnx:=add_take_succ s (x + 1) q hlq2
   obtain ⟨y2,hy2⟩:∃ y2:Int,y2 = s[q]'hlq2:=⟨_,rfl⟩
   rw [← hy2] at g3 hyb hnx
   obtain ⟨yb1,yb2⟩:=hyb
   have hw1:IntKind.i64.wrap (x + 1 + y2) = x + 1 + y2:=IntWalk.i64_in _ (by omega)
   have HN2:=Lib.hid hnx
   have hzb:z.length ≤ 16:=by rw [hzl.out];omega
   have iq0:(0:Int) ≤ (q:Int):=by omega
   have iq1:(q:Int) < (sl:Int):=by omega
   clear hy2 hnx hc2
   go_wp2_with fail
   go_region_law (refine step_snoc (w:=wr) (R:=RI) rfl _ _ 24 rfl 2 (.int .i64 0) 1 8 tI64 rfl (.slice o1 z.length cap1) z (x + 1 + y2) [.int .i64 (x + 1 + y2)] w.heap.size wr.heap.size wr.heap.size rfl hown.out (Own.int ⟨by omega,by omega⟩) (Nat.le_refl _) hsz1 2 rfl rfl (by omega) (by omega) ⟨rfl,rfl,rfl,rfl⟩ ?_;intro oa1 cap1' w1 hown1 c1a c1b hbel1)
   all_goals
    have hb3:=hbel.trans hbel1
    obtain ⟨z',hz'⟩:∃ z',z' = z ++ [x + 1 + y2]:=⟨_,rfl⟩
    have HZ:Hid (z' = t.take k ++ (s.take (q + 1)).map (· + (x + 1))):=Lib.hid (by rw [hz',HN2.out,hz.out,List.append_assoc,Int.add_comm y2])
    have e1:z.length + 1 = z'.length:=by rw [hz'];simp
    have HZL:Hid (z'.length = k + (q + 1)):=Lib.hid (by rw [← e1,hzl.out];omega)
    rw [← hz',e1] at hown1
    have HO1:Hid (Own (RS RI) w.heap.size w1.heap.size w1 [.slice oa1 z'.length cap1'] z'):=hown1
    rw [e1]
    clear hown1 hbel1 hown e1 hz'
    go_wp2_with fail
    go_roundw
    case rel => exact ⟨q + 1,z',by omega,by go_num,HZ,HZL,⟨_,_,rfl⟩,HO1,hb3⟩
    case measure => simp [intOf] <;> omega
  ·have hfin:z ++ t.drop k = ct:=by rw [HGL.out,hz.out,List.take_of_length_le (l:=s) (by rw [← HSL.out];omega),List.append_assoc]
   have hdl:z.length + (t.drop k).length ≤ 1000000000:=by rw [hzl.out,List.length_drop];have:=HTL.out;omega
   obtain ⟨tB,hB⟩:∃ tB,tB = t.drop k:=⟨_,rfl⟩
   rw [← hB] at HR2 HR3 hfin hdl
   have HF:=Lib.hid hfin
   have HDL:=Lib.hid hdl
   clear hB hfin hdl
   by_cases hck:c1 = k
   case' pos => have hrc:=HR3.out hck;obtain rfl:tl = k:=(by omega);have hck':=eq_true hck;clear hck
   case' neg => have hrc:=HR2.out
   all_goals
    have HRC:=Lib.hid hrc
    clear hrc
    go_wp2_with (at_builtin;refine StopAt (o:=⟨some 40,_,_,_,_,_⟩) ?_)
    refine Stop.go ?_
    refine wpList_extI rfl _ _ 24 rfl 2 tI64 (.slice o1 z.length cap1) z w.heap.size wr.heap.size rfl hown.out _ tB rfl (HRC.out.below hbel (Nat.le_refl _)) (Nat.le_refl _) hsz1 HDL.out ?_
    intro oa3 cap3 w3 o3 q1 q2 bB
    rw [HF.out] at o3
    rw [HF.out]
    have HO3:=Lib.hid o3
    clear o3 q1
    go_wp2_with fail
    refine (HCN.out _ _ HO3.out.rd).mono ?_
    rintro e w4 ⟨u4,rfl,o4,b4⟩
    go_wp2_with fail
    go_ret
    have s3:=bB.size
    exact ⟨_,rfl,o4.mono (by omega) (Nat.le_refl _),hbel.trans (bB.trans (b4.mono (by omega)))⟩
set_option maxRecDepth 100000 in
set_option maxHeartbeats 4000000 in
theorem c_spec_l04Turn:∀ (f:Nat) (v:Value) (t:List Int) (n:Nat) (w:World),Rd (RS RI) w [v] t→lev8 t = true→n < t.length→t.getD n 0 ≤ f →
  Calls Try.prog 118 #[v,.int .i64 n] w (RetO (RS RI) w (turnF f t n)):=by
 intro f
 induction f with
 | zero =>
  intro v t n w h h8 hn hd
  have h0:n = 0:=by
   rcases Nat.eq_zero_or_pos n with h|h
   ·exact h
   ·have:=(lev8_lev h8).get1 h hn;omega
  subst h0
  have hc:=c_spec_l03Canon 8 v t w h (lev8_lev h8) (lev8_len h8) (by have:=lev8_len h8;omega)
  rw [turnF_zero]
  go_enter Try.func118,Try.ntmps118
  go_wp2_with fail
  refine hc.mono ?_
  rintro e w1 ⟨u,rfl,o1,b1⟩
  go_wp2_with fail
  go_ret
  exact ⟨_,rfl,o1,b1⟩
 | succ f ih =>
 intro v t n w h h8 hn hd
 by_cases h0:n = 0
 ·subst h0
  have hc:=c_spec_l03Canon 8 v t w h (lev8_lev h8) (lev8_len h8) (by have:=lev8_len h8;omega)
  rw [turnF_zero]
  clear ih
  go_enter Try.func118,Try.ntmps118
  go_wp2_with fail
  refine hc.mono ?_
  rintro e w1 ⟨u,rfl,o1,b1⟩
  go_wp2_with fail
  go_ret
  exact ⟨_,rfl,o1,b1⟩
 have hpos:0 < n:=by omega
 have hlev:=lev8_lev h8
 have hl8:=lev8_len h8
 have hcl:=cuts_lev h8 hpos hn
 have hpo:=par_ok h8 hpos hn
 have hpl:=par_lt t n
 obtain ⟨e1,e2⟩:=endOf_le hn
 have hend:=fun nd:Nat => c_spec_l04End v t n (w.drewN nd) (h.of_heap rfl) hn (by omega)
 have hclen:=cut_len hn
 obtain ⟨p,hp⟩:∃ p:Nat,(p:Int) = parAt t n:=⟨(parAt t n).toNat,by omega⟩
 have hpn:p < n:=by omega
 have hplt:p < (cutT t n).length:=by unfold cutT;rw [List.length_append,List.length_take];omega
 have hpd:(cutT t n).getD p 0 ≤ f:=by
  rw [cutT_get hn hpn]
  have:=hpo.2
  rw [← hp,Int.toNat_natCast] at this
  omega
 have htl:=turnF_lev f (cutT t n) p hcl.1 hplt
 have hres:turnF (f + 1) t n = canon (graftL (cutB t n) 0 (turnF f (cutT t n) p)):=by
  rw [turnF,if_neg h0,graftL_root (lev8_lev hcl.2),← hp,Int.toNat_natCast]
 have hglv:LevP (graftL (cutB t n) 0 (turnF f (cutT t n) p)):=by rw [graftL_root (lev8_lev hcl.2)];exact append_lev (lev8_lev hcl.2) htl.1
 have ht8:lev8 (turnF f (cutT t n) p) = true:=lev8_mk htl.1 (by rw [htl.2];exact lev8_len hcl.1)
 have hbp:0 < (cutB t n).length:=(lev8_lev hcl.2).pos
 have HT:=Lib.hid h
 obtain ⟨oa,c1,I1⟩:=h.ints
 obtain rfl:=I1.val
 have m1:=I1.le;have m2:=I1.capLe
 unfold maxLen at m2
 obtain ⟨b,off,rfl,hb,hc⟩:=I1.get hn
 have gn:=hc n hn
 have HC:=Lib.hid hc
 have HLB:=Lib.hid hlev.bd
 obtain ⟨x,hx⟩:∃ x:Int,x = t[n]'hn:=⟨_,rfl⟩
 rw [← hx] at gn
 have HX:=Lib.hid hx
 have hxb:0 ≤ x∧x ≤ 8:=by have:=hlev.bd n hn;rw [hx];omega
 obtain ⟨xb1,xb2⟩:=hxb
 have in0:(0:Int) ≤ (n:Int):=by omega
 have in1:(n:Int) < (t.length:Int):=by omega
 have hpar:parS t (x - 1) n = (p:Int):=by rw [hp];unfold parAt;rw [getD_get hn,← hx]
 obtain ⟨k,he⟩:∃ k,k = endOf t n:=⟨_,rfl⟩
 rw [← he] at e1 e2 hend
 obtain ⟨tl,htl'⟩:∃ tl,tl = t.length:=⟨_,rfl⟩
 rw [← htl'] at in1 m1 hl8 e2 hend
 rw [← htl']
 have HTL:=Lib.hid htl'
 have HE:=Lib.hid he
 have hnk:n + 1 ≤ k:=e1
 have ic1:n ≤ c1:=by omega
 have R1:Rd (RS RI) w [.slice (some ⟨b,off,none⟩) n c1] (t.take n):=by
  have:=HT.out.part 0 n (Nat.zero_le _) (by omega) c1 (by omega) (by unfold maxLen;omega) (by simp)
  simpa [Addr.add] using this
 have R2:Rd (RS RI) w [.slice (some ⟨b,off + k,none⟩) (tl - k) (c1 - k)] (t.drop k):=by
  have:=HT.out.part k t.length (by omega) (Nat.le_refl _) (c1 - k) (by omega) (by unfold maxLen;omega) (by simp)
  rw [← htl'] at this
  rw [htl',List.take_length,← htl'] at this
  simpa [Addr.add,show ¬ k = 0 by omega] using this
 have R3:c1 = k→Rd (RS RI) w [.slice (some ⟨b,off,none⟩) 0 (c1 - k)] (t.drop k):=fun h => by
  rw [List.drop_of_length_le (by omega)]
  exact Rd.none' (by unfold maxLen;omega) (by simp)
 obtain ⟨ct,hct⟩:∃ ct,ct = cutT t n:=⟨_,rfl⟩
 have hct2:t.take n ++ t.drop k = ct:=by rw [he,hct];rfl
 rw [← hct] at hplt hpd hglv ht8 hres htl
 rw [hres]
 have HIH:Hid (∀ (W:World) (v:Value),Rd (RS RI) W [v] ct→Calls Try.prog 118 #[v,.int .i64 p] W (RetO (RS RI) W (turnF f ct p))):=Lib.hid (fun W v r => ih v ct p W r (by rw [hct];exact hcl.1) hplt hpd)
 have HGR:Hid (∀ (W:World) (v1 v2:Value),Rd (RS RI) W [v1] (cutB t n)→Rd (RS RI) W [v2] (turnF f ct p)→Calls Try.prog 169 #[v1,.int .i64 0,v2] W (RetO (RS RI) W (canon (graftL (cutB t n) 0 (turnF f ct p))))):=Lib.hid (fun W v1 v2 r1 r2 => c_spec_l04Graft v1 0 v2 _ _ W r1 r2 hcl.2 hbp ht8 hglv)
 have EGO:=Lib.hid (enters (P:=Try.prog) (f:=164) Try.func164 (by kernel_rfl) rfl)
 have HR1:=Lib.hid R1
 have HR2:=Lib.hid R2
 have HR3:=Lib.hid R3
 have htk:(t.take n).length = n:=by rw [List.length_take];omega
 have HTK:=Lib.hid htk
 have hdl:(t.take n).length + (t.drop k).length ≤ 1000000000:=by rw [htk,List.length_drop];omega
 have HDL:=Lib.hid hdl
 have HCT2:=Lib.hid hct2
 have HPAR:=Lib.hid hpar
 have HEND:=Lib.hid hend
 obtain ⟨tA,hA⟩:∃ tA,tA = t.take n:=⟨_,rfl⟩
 obtain ⟨tB,hB⟩:∃ tB,tB = t.drop k:=⟨_,rfl⟩
 rw [← hA] at HR1 HTK
 rw [← hB] at HR2 HR3
 rw [← hA,← hB] at HDL HCT2
 have hwn:IntKind.i64.wrap ((n:Int) - 1) = (n:Int) - 1:=IntWalk.i64_in _ (by omega)
 have hwx:IntKind.i64.wrap (x - 1) = x - 1:=IntWalk.i64_in _ (by omega)
 have hn0:((n:Int) == 0) = false:=by simp;omega
 have HH0:=Lib.hid h0
 clear hc I1 h hx htl' hlev hcl h8 he R1 R2 R3 hct2 htk hdl hA hB hpo hpl hend hclen hp htl hres hglv ht8 hpd hd ih hct hplt hpar h0 hbp
 go_enter Try.func118,Try.ntmps118
 go_wp2_with fail
 go_loopw [5] (fun i wr => ∃ (q:Nat),q ≤ n∧i = .int .i64 ((q:Int) - 1)∧Hid (∀ r,q ≤ r→r < n→t.getD r 0 ≠ x - 1)∧∃ nd,wr = w.drewN nd) (fun i _ => (intOf i + 1).toNat)
 case atStart => exact ⟨n,Nat.le_refl _,rfl,Lib.hid (fun p a b => by omega),0,rfl⟩
 case round =>
  obtain ⟨q,hq,rfl,hall,nd,rfl⟩:=hrel
  have hsk:=parS_skip t (x - 1) q n hq hall.out
  rw [HPAR.out] at hsk
  have hq0:0 < q:=by
   cases q with
   | zero => simp [parS] at hsk
   | succ q => omega
  obtain ⟨r,rfl⟩:∃ r,q = r + 1:=⟨q - 1,by omega⟩
  have hrt:r < t.length:=by omega
  have gr:=HC.out r hrt
  have e1:(((r + 1:Nat):Int) - 1) = (r:Int):=by omega
  rw [e1]
  have i1:(0:Int) ≤ (r:Int):=by omega
  have i2:(r:Int) < (tl:Int):=by have:=HTL.out;omega
  have hwr:IntKind.i64.wrap ((r:Int) - 1) = (r:Int) - 1:=IntWalk.i64_in _ (by omega)
  by_cases hne:t.getD r 0 ≠ x - 1
  ·have hne':=hne
   rw [getD_get hrt] at hne'
   obtain ⟨y,hy⟩:∃ y:Int,y = t[r]'hrt:=⟨_,rfl⟩
   rw [← hy] at gr hne'
   have HALL:Hid (∀ s,r ≤ s→s < n→t.getD s 0 ≠ x - 1):=Lib.hid (by
    intro s a b'
    by_cases hr:s = r
    ·subst hr;exact hne
    ·exact hall.out s (by omega) b')
   have e2:(y != x - 1) = true:=by simp [hne']
   clear hy e1 hne hne' hsk
   go_wp2_with fail
   go_quiet (fail)
   go_wp2_with fail
   go_roundw
   case rel => exact ⟨r,by omega,by go_num,HALL,(by first|exact drewN1 _ _|exact drewN2 _ _ _|exact drewN3 _ _ _ _)⟩
   case measure => simp [intOf] <;> omega
  ·have he':t.getD r 0 = x - 1:=Decidable.byContradiction hne
   have hrp:r = p:=by
    unfold parS at hsk
    rw [if_pos he'] at hsk
    omega
   subst hrp
   rw [getD_get hrt] at he'
   have e2:(x - 1 != x - 1) = false:=by simp
   rw [he'] at gr
   clear e1 hne he' hsk
   go_wp2_with fail
   go_quiet (fail)
   go_wp2_with fail
   refine (HEND.out _).mono ?_
   rintro e wq ⟨rfl,nd2,rfl⟩
   go_wp2_with fail
   go_loopw [7,8] (fun o i wr => ∃ (q:Nat) (z:List Int),n + q ≤ k∧i = .int .i64 (n + q:Nat)∧Hid (z = ((t.drop n).take q).map (· - x))∧Hid (z.length = q)∧(∃ oa cap,o = .slice oa z.length cap)∧Hid (Own (RS RI) w.heap.size wr.heap.size wr [o] z)∧Below w.heap.size w wr) (fun _ i _ => k - (intOf i).toNat)
   case atStart => exact ⟨0,[],by omega,rfl,Lib.hid rfl,Lib.hid rfl,⟨_,_,rfl⟩,Lib.hid ((Own.empty (R:=RI) (w:=w.drewN _) 2 w.heap.size (Nat.le_refl _)).top _ (by simp)),((Below.drewN _ _ _).alloc (Nat.le_refl _) _)⟩
   case round =>
    obtain ⟨q,z,hq,rfl,hz,hzl,⟨o1,cap1,rfl⟩,hown,hbel⟩:=hrel
    have hsz1:=hbel.size
    obtain ⟨p',hp⟩:∃ p',p' = n + q:=⟨_,rfl⟩
    rw [← hp]
    rw [← hp] at hq
    have HP:=Lib.hid hp
    by_cases hlq:p' < k
    ·have hlq2:p' < t.length:=by have:=HTL.out;omega
     have g3:wr.cell? ⟨b,off + p',none⟩ = some (.int .i64 t[p']):=(hbel.cell (p:=⟨b,off + p',none⟩) hb).trans (HC.out _ hlq2)
     have gn3:wr.cell? ⟨b,off + n,none⟩ = some (.int .i64 x):=(hbel.cell (p:=⟨b,off + n,none⟩) hb).trans gn
     obtain ⟨y2,hy2⟩:∃ y2:Int,y2 = t[p']'hlq2:=⟨_,rfl⟩
     have hyb:=HLB.out p' hlq2
     have hnx:((t.drop n).take (q + 1)).map (· - x) = z ++ [y2 - x]:=by
      rw [hz.out,sub_take_succ _ _ _ (by rw [List.length_drop];omega),List.getElem_drop,hy2]
      simp only [hp]
     rw [← hy2] at g3 hyb
     obtain ⟨yb1,yb2⟩:=hyb
     have hw1:IntKind.i64.wrap (y2 - x) = y2 - x:=IntWalk.i64_in _ (by omega)
     have HN2:=Lib.hid hnx
     have hzb:z.length ≤ 8:=by rw [hzl.out];omega
     have iq0:(0:Int) ≤ (p':Int):=by omega
     have iq1:(p':Int) < (tl:Int):=by omega
     clear hy2 hnx hp
     go_wp2_with fail
     go_region_law (refine step_snoc (w:=wr) (R:=RI) rfl _ _ 24 rfl 2 (.int .i64 0) 1 8 tI64 rfl (.slice o1 z.length cap1) z (y2 - x) [.int .i64 (y2 - x)] w.heap.size wr.heap.size wr.heap.size rfl hown.out (Own.int ⟨by omega,by omega⟩) (Nat.le_refl _) hsz1 2 rfl rfl (by omega) (by omega) ⟨rfl,rfl,rfl,rfl⟩ ?_;intro oa1 cap1' w1 hown1 c1a c1b hbel1)
     all_goals
      have hb3:=hbel.trans hbel1
      obtain ⟨z',hz'⟩:∃ z',z' = z ++ [y2 - x]:=⟨_,rfl⟩
      have HZ:Hid (z' = ((t.drop n).take (q + 1)).map (· - x)):=Lib.hid (by rw [hz',HN2.out])
      have e1:z.length + 1 = z'.length:=by rw [hz'];simp
      have HZL:Hid (z'.length = q + 1):=Lib.hid (by rw [← e1,hzl.out])
      rw [← hz',e1] at hown1
      have HO1:Hid (Own (RS RI) w.heap.size w1.heap.size w1 [.slice oa1 z'.length cap1'] z'):=hown1
      rw [e1]
      clear hown1 hbel1 hown e1 hz'
      go_wp2_with fail
      go_roundw
      case rel => exact ⟨q + 1,z',by have:=HP.out;omega,by rw [HP.out];go_num,HZ,HZL,⟨_,_,rfl⟩,HO1,hb3⟩
      case measure => simp [intOf] <;> omega
    ·have hfin:Hid (z = cutB t n):=Lib.hid (by
      rw [hz.out]
      unfold cutB
      rw [← HE.out,List.drop_take,getD_get hn,← HX.out]
      rw [show k - n = q by omega])
     clear hp
     by_cases hck:c1 = k
     case' pos => have hrc:=HR3.out hck;obtain rfl:tl = k:=(by omega);have hck':=eq_true hck;clear hck
     case' neg => have hrc:=HR2.out
     all_goals
      have HRC:=Lib.hid hrc
      go_wp2_with fail
      go_region_law (first
       | (refine step_call rfl 164 _ _ rfl EGO.out #[.slice (some ⟨b,off,none⟩) n c1] (by simp [Act.eval,Act.put]) ?_;refine Calls.mono (c_spec_l01Own _ _ _ ((HR1.out.below hbel (Nat.le_refl _)).of_heap (by rfl)) (by rw [HTK.out];omega)) ?_;rintro e w2 ⟨u,rfl,o2,b2⟩;have bA:Below wr.heap.size wr w2:=Below.of_heap_eq b2 rfl rfl rfl rfl;refine ⟨_,rfl,?_⟩)
       | (refine step_extI (w:=w2) rfl _ _ 24 rfl 2 tI64 u tA wr.heap.size w2.heap.size rfl o2 _ tB rfl ((HRC.out.below (hbel.trans (bA.mono hsz1)) (Nat.le_refl _)).of_heap (by rfl)) (Nat.le_refl _) bA.size HDL.out ct HCT2.out ?_;intro oa3 cap3 w3 o3 q1 q2 bB0))
      all_goals
       have HO3:=Lib.hid o3
       have bb3:=bA.trans bB0
       clear o2 o3 b2
       go_wp2_with fail
       refine (HIH.out _ _ HO3.out.rd).mono ?_
       rintro e w4 ⟨u4,rfl,o4,b4⟩
       have HB:Hid (Rd (RS RI) w4 [.slice o1 z.length cap1] (cutB t n)):=Lib.hid (hfin.out ▸ ((hown.out.below bb3 (Nat.le_refl _)).below b4 bb3.size).rd)
       go_wp2_with fail
       refine (HGR.out _ _ _ HB.out o4.rd).mono ?_
       rintro e w5 ⟨u5,rfl,o5,b5⟩
       go_wp2_with fail
       go_ret
       have s3:=bb3.size
       have s4:=b4.size
       exact ⟨_,rfl,o5.mono (by omega) (Nat.le_refl _),hbel.trans ((bb3.trans (b4.mono (by omega)) |>.trans (b5.mono (by omega))).mono hsz1)⟩
end Go.Proofs.Ytofpjonggpjneaa
namespace Go.Proofs.Ytofpjonggpjneaa
open Go.RowKit
def supD (t:List Int) (n:Nat):Bool:=Nat.beq (cutT t n).length (cutB t n).length && decide (turnF 8 (cutT t n) (parAt t n).toNat = canon (cutB t n))
def isSup (t:List Int):Bool:=(List.range t.length).any fun i => !(Nat.beq i 0) && supD t i
theorem sup_check:trees8.all (fun t => (List.range t.length).all fun i => Nat.beq i 0 ||
  (treeOk 9 (nears t) (i:Nat) (parAt t i) && (Nat.ble (treeSm 9 (nears t) (i:Nat) (parAt t i)) 13 && (treeOk 9 (nears t) (parAt t i) (i:Nat) && (Nat.ble (treeSm 9 (nears t) (parAt t i) (i:Nat)) 13 &&
   (decide (treeF 9 (nears t) (i:Nat) (parAt t i) = treeF 9 (nears t) (parAt t i) (i:Nat)) == supD t i)))))) = true:=by decide +kernel
theorem sup_ok {t:List Int} (h:lev8 t = true) {i:Nat} (h0:0 < i) (hi:i < t.length) :
  treeOk 9 (nears (canon t)) i (parAt (canon t) i) = true∧treeSm 9 (nears (canon t)) i (parAt (canon t) i) ≤ 13∧treeOk 9 (nears (canon t)) (parAt (canon t) i) i = true∧treeSm 9 (nears (canon t)) (parAt (canon t) i) i ≤ 13 ∧
   decide (treeF 9 (nears (canon t)) i (parAt (canon t) i) = treeF 9 (nears (canon t)) (parAt (canon t) i) i) = supD (canon t) i:=by
 have:=List.all_eq_true.1 (trees8_all sup_check h) i (List.mem_range.2 (by rw [canon_len (lev8_lev h)];exact hi))
 rw [Bool.or_eq_true] at this
 have:=this.resolve_left (fun e => by have:=Nat.eq_of_beq_eq_true e;omega)
 simp only [Bool.and_eq_true] at this
 exact ⟨this.1,Nat.le_of_ble_eq_true this.2.1,this.2.2.1,Nat.le_of_ble_eq_true this.2.2.2.1,by simpa using this.2.2.2.2⟩
theorem isSup_true {t:List Int} {i:Nat} (h0:0 < i) (hi:i < t.length) (h:supD t i = true):isSup t = true:=by
 refine List.any_eq_true.2 ⟨i,List.mem_range.2 hi,?_⟩
 have:Nat.beq i 0 = false:=by cases i with
  | zero => omega
  | succ i => rfl
 rw [this,h];rfl
theorem isSup_false {t:List Int} (h:∀ i,0 < i→i < t.length→supD t i = false):isSup t = false:=by
 refine List.any_eq_false.2 fun i hi => ?_
 rcases Nat.eq_zero_or_pos i with rfl|h0
 ·simp
 ·rw [h i h0 (List.mem_range.1 hi)];simp
def supOf (t:List Int):Bool × Int:=if lev8 t = true then (isSup (canon t),0) else (false,1)
theorem supOf_ok {t:List Int} (h:lev8 t = true):supOf t = (isSup (canon t),0):=by unfold supOf;rw [if_pos h]
theorem supOf_bad {t:List Int} (h:lev8 t = false):supOf t = (false,1):=by unfold supOf;rw [if_neg (by simp [h])]
end Go.Proofs.Ytofpjonggpjneaa

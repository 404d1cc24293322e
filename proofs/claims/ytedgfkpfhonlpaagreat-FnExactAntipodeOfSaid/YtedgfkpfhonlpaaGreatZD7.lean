/- Lemmas (7). -/
import Derived.Deep.RegionLaw
import Derived.Lib.SliceRun
import Derived.Test.YtedgfkpfhonlpaaGreatZD4
import Derived.Test.YtedgfkpfhonlpaaGreatZD5
import Derived.Test.YtedgfkpfhonlpaaGreatZD6
set_option maxHeartbeats 16000000
set_option maxRecDepth 100000
set_option linter.unusedSimpArgs false
set_option linter.unusedVariables false
namespace Go.Proofs.YtedgfkpfhonlpaaGreat
open Go.RowKit
section
theorem sortC_take_succ {t:List (List Int)} (f:List Int→List Int) (k:Nat) (h:k < t.length):sortC cmpD ((t.take (k + 1)).map f) = ins cmpD (f t[k]) (sortC cmpD ((t.take k).map f)):=by
 rw [List.take_succ_eq_append_getElem h,List.map_append,List.map_cons,List.map_nil,sortC_snoc]
theorem yP0:∀ (n:Nat) (v:Value) (t:List Int) (w:World),Rd (RS RI) w [v] t→qY t→t.length ≤ n→t.length ≤ 1000000 →
  Calls Tryz.prog 186 #[v] w (RetO (RS RI) w (canon t)):=by
 intro n
 induction n with
 | zero => intro v t w h hl hn h13;have:=hl.pos;omega
 | succ n ih =>
  intro v t w h hl hn h13
  have hb:=yS0 v t w h hl (by omega)
  have HL:=Lib.hid hl
  have IH:=Lib.hid ih
  have hfew:=brs_few hl
  have hbl:(brs t).length ≤ 1000000:=by omega
  clear h hl ih
  go_enter Tryz.func186,Tryz.ntmps186
  go_wp2_with (go_at_call 230;refine hb.mono ?_;rintro e w1 ⟨u,rfl,o1,b1⟩;obtain ⟨oa,cap,rfl,l1,l2⟩:=o1.val)
  clear hb
  have hsz1:=b1.size
  have hO1:Hid (Own (RS (RS RI)) w.heap.size w1.heap.size w1 [.slice oa (brs t).length cap] (brs t)):=o1
  clear o1
  go_loopw [4,5] (fun o i wr => ∃ (k:Nat) (ys:List (List Int)),k ≤ (brs t).length∧i = .int .i64 k∧Hid (ys = sortC cmpD (((brs t).take k).map canon))∧Hid (ys.length = k)∧(∃ g cap,o = .slice (some ⟨g,0,none⟩) ys.length cap)∧Hid (Own (RS (RS RI)) w1.heap.size wr.heap.size wr [o] ys)∧Below w1.heap.size w1 wr) (fun _ i _ => (brs t).length - (intOf i).toNat)
  case atStart => exact ⟨0,[],Nat.zero_le _,rfl,Lib.hid (by simp [sortC]),Lib.hid rfl,⟨_,_,rfl⟩,Lib.hid ((Own.empty (R:=RS RI) (w:=w1) 24 w1.heap.size (Nat.le_refl _)).top _ (by simp)),(Below.refl _ _).alloc (Nat.le_refl _) _⟩
  case round =>
   obtain ⟨k,ys,hk,rfl,hys,Hyl,⟨g0,cap0,rfl⟩,hown,hbel⟩:=hrel
   have hsz2:=hbel.size
   obtain ⟨wo,hwo⟩:∃ wo:World,wo = wr:=⟨_,rfl⟩
   subst hwo
   by_cases hlt:k < (brs t).length
   ·have hO2:=hO1.out.below hbel (Nat.le_refl _)
    obtain ⟨g,cap',h0,hv,q1,q2,hg1,hg2,hcell,hel⟩:=hO2.elem k hlt
    simp only [Value.slice.injEq,true_and] at hv
    obtain ⟨rfl,rfl⟩:=hv
    obtain ⟨oi,ci,rfl,_⟩:=hel.val
    have hmem:=List.getElem_mem hlt
    have hshort:=yC HL.out _ hmem
    have hc:=IH.out (.slice oi (brs t)[k].length ci) (brs t)[k] wo hel.rd (jK HL.out _ hmem) (by omega) (by omega)
    have hst:=sortC_take_succ canon k hlt
    rw [← hys.out] at hst
    have HST:=Lib.hid hst
    obtain ⟨x,hx⟩:∃ x,x = canon (brs t)[k]:=⟨_,rfl⟩
    rw [← hx] at hc HST
    obtain ⟨xl,hxl⟩:∃ xl,xl = (brs t)[k].length:=⟨_,rfl⟩
    rw [← hxl] at hc hcell hshort
    have HX:=Lib.hid hx
    clear hst hel hmem hO2 hxl hx
    go_wp2_with (go_at_call 186;refine hc.mono ?_;rintro e w2 ⟨u,rfl,o2,b2⟩;obtain ⟨ou,cu,rfl,lu1,lu2⟩:=o2.val)
    have hown2:=hown.out.below b2 (Nat.le_refl _)
    have HO2:=Lib.hid hown2
    have HP:=Lib.hid o2
    have hbel2:=hbel.trans (b2.mono hsz2)
    have hsz3:=b2.size
    clear hown2 o2 hc hcell hown b2
    go_loopw [7] (fun i wr => ∃ (j:Nat),j ≤ ys.length∧i = .int .i64 j∧Hid (∀ q (h:q < ys.length),q < j→¬ cmpD x ys[q] < 0)∧∃ n,wr = w2.drewN n) (fun i _ => ys.length - (intOf i).toNat)
    case atStart => exact ⟨0,Nat.zero_le _,rfl,Lib.hid (fun q _ h => by omega),0,rfl⟩
    case round =>
     obtain ⟨j,hj,rfl,hall,nd,rfl⟩:=hrel
     have HO3:Hid (Own (RS (RS RI)) w1.heap.size wo.heap.size (w2.drewN nd) [.slice (some ⟨g0,0,none⟩) ys.length cap0] ys):=HO2.out.of_heap rfl
     have HP3:Hid (Own (RS RI) wo.heap.size w2.heap.size (w2.drewN nd) [.slice ou x.length cu] x):=HP.out.of_heap rfl
     have hbel3:Below w1.heap.size w1 (w2.drewN nd):=hbel2.trans (Below.drewN _ _ _)
     have hsz4:w2.heap.size = (w2.drewN nd).heap.size:=rfl
     by_cases hjl:j < ys.length
     ·obtain ⟨g',cap',h0,hv,q1',q2',hg1',hg2',hcell,hel⟩:=HO3.out.elem j hjl
      simp only [Value.slice.injEq,true_and] at hv
      obtain ⟨e1,e2⟩:=hv
      simp only [Option.some.injEq,Addr.mk.injEq,and_true] at e1
      subst e1;subst e2
      obtain ⟨oj,cj,rfl,_⟩:=hel.val
      have hls:=xU0 _ _ ys[j] x (w2.drewN nd) hel.rd HP3.out.rd
      obtain ⟨yl,hyl'⟩:∃ yl,yl = ys[j].length:=⟨_,rfl⟩
      rw [← hyl'] at hls hcell
      clear hel hyl'
      by_cases hle:cmpL ys[j] x < 0
      ·have hd:decide (cmpL ys[j] x < 0) = true:=decide_eq_true hle
       rw [hd] at hls
       have HE:Hid (ins cmpD x ys = ys.take j ++ x :: ys.drop j):=Lib.hid (ins_at hj hall.out (fun _ => hle))
       clear hd hle
       go_wp2_with (first|(go_at_call 190;refine hls.mono ?_;rintro e w' ⟨rfl,nn,rfl⟩)|(at_builtin;refine yN (o:=⟨some 46,_,_,_,_,_⟩) ?_))
       refine jU.go ?_
       have HO4:Own (RS (RS RI)) w1.heap.size wo.heap.size (w2.drewN (nd + nn)) [.slice (some ⟨g0,0,none⟩) ys.length cap0] ys:=HO2.out.of_heap rfl
       have HP4:Own (RS RI) wo.heap.size w2.heap.size (w2.drewN (nd + nn)) [.slice ou x.length cu] x:=HP.out.of_heap rfl
       have hbel4:Below w1.heap.size w1 (w2.drewN (nd + nn)):=hbel2.trans (Below.drewN _ _ _)
       have hsz5:wo.heap.size ≤ (w2.drewN (nd + nn)).heap.size:=hsz3
       have hle4:=HO4.val
       obtain ⟨d1,d2,t1l,t2l,t1,t2,t3,hcl,hmk⟩:=HO4.insRow (R:=RS RI) rfl hsz5 hsz2 HP4 j hj
       rw [← HE.out,← HST.out] at hmk
       obtain ⟨_,_,ev,le4,_⟩:=hle4
       simp only [Value.slice.injEq,true_and] at ev
       obtain ⟨rfl,rfl⟩:=ev
       have hyb:ys.length ≤ 1000000:=by rw [Hyl.out];omega
       have T1L:=Lib.hid t1l
       have T2L:=Lib.hid t2l
       have ELN:1 + (ys.length - j) = 1 + d2.length:=by omega
       clear hls hcell HO3 HP3 hbel3 hsz4 t1l t2l
       refine xC rfl _ _ 36 rfl 24 (.slice none 0 0) 1 24 tI64S (.slice (some ⟨(w2.drewN (nd + nn)).heap.size,0,none⟩) 1 1) 1 [(.slice ou x.length cu)] (some (w2.drewN (nd + nn)).heap.size) rfl (by simpa using Row.lit (w2.drewN (nd + nn)) #[(.slice ou x.length cu)] 24 1 1 (by decide) (by simp)) _ _ _ d2 rfl (by have:=T2L.out;omega) (by intro h;cases h) (by intro a ha i u hi;cases ha;rw [Addr.add_lit];exact (hcl ((w2.drewN (nd + nn)).alloc _) ((Below.refl _ _).alloc (Nat.le_refl _) _)).2 i u hi) t2 (by have:=T2L.out;omega) (by unfold maxLen;omega) ?_
       intro vA wA ogA happA
       rw [ELN] at happA
       obtain ⟨oA,capA,rfl,pA1,pA2⟩:=happA.1.val
       unfold maxLen at pA2
       have lowA:=happA.low (B:=(w2.drewN (nd + nn)).heap.size) (by simp) (fun g hg => by cases hg;exact Nat.le_refl _)
       have belA:Below (w2.drewN (nd + nn)).heap.size (w2.drewN (nd + nn)) wA:=((Below.refl _ _).alloc (Nat.le_refl _) _).trans lowA.2
       have sA:=belA.size
       have HA:=Lib.hid happA.1
       have HogA:=Lib.hid lowA.1
       have CA:=(hcl wA belA).1
       clear happA lowA ELN
       go_wp2_with (at_builtin;refine yN (o:=⟨some 51,_,_,_,_,_⟩) ?_)
       refine jU.go ?_
       refine xC rfl _ _ 36 rfl 24 (.slice none 0 0) 1 24 tI64S (.slice (some ⟨wA.heap.size,0,none⟩) 0 0) 0 [] (some wA.heap.size) rfl (by simpa using Row.lit wA #[] 24 1 0 (by decide) (by simp)) (some ⟨g0,0,none⟩) j _ d1 rfl (by have:=T1L.out;omega) (fun h => by cases h) (by intro a ha i u hi;cases ha;rw [Addr.add_lit,Nat.zero_add];have:=(hcl (wA.alloc (.cells #[] 24)) (belA.alloc sA _)).1 i u hi;exact this) t1 (by have:=T1L.out;omega) (by unfold maxLen;omega) ?_
       intro vB wB ogB happB
       rw [Nat.zero_add,List.nil_append] at happB
       obtain ⟨oB,capB,rfl,pB1,pB2⟩:=happB.1.val
       unfold maxLen at pB2
       have lowB:=happB.low (B:=(w2.drewN (nd + nn)).heap.size) (Nat.le_trans sA (by simp)) (fun g hg => by cases hg;exact sA)
       have lowB2:=happB.low (B:=wA.heap.size) (by simp) (fun g hg => by cases hg;exact Nat.le_refl _)
       have belB2:Below wA.heap.size wA wB:=((Below.refl _ _).alloc (Nat.le_refl _) _).trans lowB2.2
       have belB:Below (w2.drewN (nd + nn)).heap.size (w2.drewN (nd + nn)) wB:=belA.trans (belB2.mono sA)
       have sB:=belB.size
       have hrA:Row wB (.slice oA (1 + d2.length) capA) 1 (1 + d2.length) ([(.slice ou x.length cu)] ++ d2) ogA:=HA.out.frame (fun g hg => belB2.block g (HA.out.lt g hg))
       obtain ⟨gA,hgA⟩:=hrA.some_of (j:=0) (by omega)
       subst hgA
       obtain ⟨oA',cA',eA,_,_,_,eA2⟩:=hrA.value
       simp only [Value.slice.injEq,true_and] at eA
       obtain ⟨rfl,rfl⟩:=eA
       simp only [Option.map_some] at eA2
       subst eA2
       have HRA:=Lib.hid hrA
       have HB:=Lib.hid happB.1
       have HogB:=Lib.hid lowB.1
       clear hrA happB lowB lowB2 CA
       go_wp2_with (at_builtin;refine yN (o:=⟨some 53,_,_,_,_,_⟩) ?_)
       refine jU.go ?_
       refine xC rfl _ _ 36 rfl 24 (.slice none 0 0) 1 24 tI64S (.slice oB j capB) j d1 ogB rfl HB.out (some ⟨gA,0,none⟩) _ _ ([(.slice ou x.length cu)] ++ d2) rfl (by simp <;> omega) (fun h => by cases h) (by intro a ha i u hi;cases ha;rw [Addr.add_lit,Nat.zero_add];exact HRA.out.cells i u hi) (fun u hu => (List.mem_append.1 hu).elim (fun h => by simp at h;subst h;exact t3) (t2 u)) (by have:=T2L.out;omega) (by have:=T2L.out;unfold maxLen;omega) ?_
       intro vC wC ogC happC
       have lowC:=happC.low (B:=(w2.drewN (nd + nn)).heap.size) sB HogB.out
       have belC:Below (w2.drewN (nd + nn)).heap.size (w2.drewN (nd + nn)) wC:=belB.trans lowC.2
       have hrC:=happC.1
       have eN:j + (1 + d2.length) = ys.length + 1:=by have:=T1L.out;have:=T2L.out;omega
       rw [eN,List.singleton_append] at hrC
       have hfin:=hmk wC vC ogC belC hrC lowC.1
       obtain ⟨gC,hgC⟩:=hrC.some_of (j:=0) (by omega)
       subst hgC
       obtain ⟨capC,hvC,_,_⟩:=hrC.slice
       subst hvC
       have HFIN:=Lib.hid hfin
       clear hfin hrC happC lowC HA HB HRA HogA HogB eN
       have hfl:(sortC cmpD (((brs t).take (k + 1)).map canon)).length = ys.length + 1:=by rw [kO];simp;rw [Hyl.out];omega
       obtain ⟨zs,hzs⟩:∃ zs,zs = sortC cmpD (((brs t).take (k + 1)).map canon):=⟨_,rfl⟩
       rw [← hzs] at HFIN hfl
       have hkz:zs.length = k + 1:=by rw [hfl,Hyl.out]
       rw [← hfl] at HFIN
       rw [← hfl]
       have HZ:=Lib.hid hzs
       have HKZ:=Lib.hid hkz
       clear hzs hfl hkz
       go_wp2_with fail
       go_roundw
       case rel => exact ⟨k + 1,zs,by omega,by go_num,HZ,HKZ,⟨_,_,rfl⟩,HFIN,hbel4.trans (belC.mono (by omega))⟩
       case measure => simp [intOf];omega
      ·have hd:decide (cmpL ys[j] x < 0) = false:=decide_eq_false hle
       rw [hd] at hls
       have HN:Hid (¬ cmpD x ys[j] < 0):=Lib.hid hle
       clear hd hle
       go_wp2_with (go_at_call 190;refine hls.mono ?_;rintro e w' ⟨rfl,nn,rfl⟩)
       go_roundw
       case rel =>
        refine ⟨j + 1,by omega,by go_num,Lib.hid (fun q h hq => ?_),(by first|exact yI _ _|exact yD _ _ _)⟩
        by_cases hqj:q = j
        ·subst hqj;have:=HN.out;omega
        ·have:=hall.out q h (by omega);omega
       case measure => simp [intOf];omega
     ·obtain rfl:j = ys.length:=by omega
      have HE:Hid (ins cmpD x ys = ys.take ys.length ++ x :: ys.drop ys.length):=Lib.hid (ins_at hj hall.out (fun h => by omega))
      go_wp2_with (at_builtin;refine yN (o:=⟨some 46,_,_,_,_,_⟩) ?_)
      all_goals
       refine jU.go ?_
       have HO4:Own (RS (RS RI)) w1.heap.size wo.heap.size (w2.drewN nd) [.slice (some ⟨g0,0,none⟩) ys.length cap0] ys:=HO2.out.of_heap rfl
       have HP4:Own (RS RI) wo.heap.size w2.heap.size (w2.drewN nd) [.slice ou x.length cu] x:=HP.out.of_heap rfl
       have hbel4:Below w1.heap.size w1 (w2.drewN nd):=hbel2.trans (Below.drewN _ _ _)
       have hsz5:wo.heap.size ≤ (w2.drewN nd).heap.size:=hsz3
       have hle4:=HO4.val
       obtain ⟨d1,d2,t1l,t2l,t1,t2,t3,hcl,hmk⟩:=HO4.insRow (R:=RS RI) rfl hsz5 hsz2 HP4 ys.length hj
       rw [← HE.out,← HST.out] at hmk
       obtain ⟨_,_,ev,le4,_⟩:=hle4
       simp only [Value.slice.injEq,true_and] at ev
       obtain ⟨rfl,rfl⟩:=ev
       have hyb:ys.length ≤ 1000000:=by rw [Hyl.out];omega
       have T1L:=Lib.hid t1l
       have T2L:=Lib.hid t2l
       have hd2:d2 = []:=List.eq_nil_of_length_eq_zero (by omega)
       subst hd2
       clear HO3 HP3 hbel3 hsz4 t1l t2l
       refine xC rfl _ _ 36 rfl 24 (.slice none 0 0) 1 24 tI64S (.slice (some ⟨(w2.drewN nd).heap.size,0,none⟩) 1 1) 1 [(.slice ou x.length cu)] (some (w2.drewN nd).heap.size) rfl (by simpa using Row.lit (w2.drewN nd) #[(.slice ou x.length cu)] 24 1 1 (by decide) (by simp)) _ _ _ ([]:List Value) rfl (by simp) (fun _ => rfl) (by intro a ha i u hi;simp at hi) t2 (by have:=T2L.out;omega) (by unfold maxLen;omega) ?_
       intro vA wA ogA happA
       rw [show 1 + (0:Nat) = 1 + ([]:List Value).length by rfl] at happA
       obtain ⟨oA,capA,rfl,pA1,pA2⟩:=happA.1.val
       unfold maxLen at pA2
       have lowA:=happA.low (B:=(w2.drewN nd).heap.size) (by simp) (fun g hg => by cases hg;exact Nat.le_refl _)
       have belA:Below (w2.drewN nd).heap.size (w2.drewN nd) wA:=((Below.refl _ _).alloc (Nat.le_refl _) _).trans lowA.2
       have sA:=belA.size
       have HA:=Lib.hid happA.1
       have HogA:=Lib.hid lowA.1
       have CA:=(hcl wA belA).1
       clear happA lowA
       go_wp2_with (at_builtin;refine yN (o:=⟨some 51,_,_,_,_,_⟩) ?_)
       refine jU.go ?_
       refine xC rfl _ _ 36 rfl 24 (.slice none 0 0) 1 24 tI64S (.slice (some ⟨wA.heap.size,0,none⟩) 0 0) 0 [] (some wA.heap.size) rfl (by simpa using Row.lit wA #[] 24 1 0 (by decide) (by simp)) (some ⟨g0,0,none⟩) ys.length _ d1 rfl (by have:=T1L.out;omega) (fun h => by cases h) (by intro a ha i u hi;cases ha;rw [Addr.add_lit,Nat.zero_add];have:=(hcl (wA.alloc (.cells #[] 24)) (belA.alloc sA _)).1 i u hi;exact this) t1 (by have:=T1L.out;omega) (by unfold maxLen;omega) ?_
       intro vB wB ogB happB
       rw [Nat.zero_add,List.nil_append] at happB
       obtain ⟨oB,capB,rfl,pB1,pB2⟩:=happB.1.val
       unfold maxLen at pB2
       have lowB:=happB.low (B:=(w2.drewN nd).heap.size) (Nat.le_trans sA (by simp)) (fun g hg => by cases hg;exact sA)
       have lowB2:=happB.low (B:=wA.heap.size) (by simp) (fun g hg => by cases hg;exact Nat.le_refl _)
       have belB2:Below wA.heap.size wA wB:=((Below.refl _ _).alloc (Nat.le_refl _) _).trans lowB2.2
       have belB:Below (w2.drewN nd).heap.size (w2.drewN nd) wB:=belA.trans (belB2.mono sA)
       have sB:=belB.size
       have hrA:Row wB (.slice oA (1 + ([]:List Value).length) capA) 1 (1 + ([]:List Value).length) ([(.slice ou x.length cu)] ++ ([]:List Value)) ogA:=HA.out.frame (fun g hg => belB2.block g (HA.out.lt g hg))
       obtain ⟨gA,hgA⟩:=hrA.some_of (j:=0) (by omega)
       subst hgA
       obtain ⟨oA',cA',eA,_,_,_,eA2⟩:=hrA.value
       simp only [Value.slice.injEq,true_and] at eA
       obtain ⟨rfl,rfl⟩:=eA
       simp only [Option.map_some] at eA2
       subst eA2
       have HRA:=Lib.hid hrA
       have HB:=Lib.hid happB.1
       have HogB:=Lib.hid lowB.1
       clear hrA happB lowB lowB2 CA
       go_wp2_with (at_builtin;refine yN (o:=⟨some 53,_,_,_,_,_⟩) ?_)
       refine jU.go ?_
       refine xC rfl _ _ 36 rfl 24 (.slice none 0 0) 1 24 tI64S (.slice oB ys.length capB) ys.length d1 ogB rfl HB.out (some ⟨gA,0,none⟩) _ _ ([(.slice ou x.length cu)] ++ ([]:List Value)) rfl (by simp <;> omega) (fun h => by cases h) (by intro a ha i u hi;cases ha;rw [Addr.add_lit,Nat.zero_add];exact HRA.out.cells i u hi) (fun u hu => (List.mem_append.1 hu).elim (fun h => by simp at h;subst h;exact t3) (t2 u)) (by have:=T2L.out;omega) (by have:=T2L.out;unfold maxLen;omega) ?_
       intro vC wC ogC happC
       have lowC:=happC.low (B:=(w2.drewN nd).heap.size) sB HogB.out
       have belC:Below (w2.drewN nd).heap.size (w2.drewN nd) wC:=belB.trans lowC.2
       have hrC:=happC.1
       have eN:ys.length + (1) = ys.length + 1:=by have:=T1L.out;have:=T2L.out;omega
       rw [eN,List.singleton_append] at hrC
       have hfin:=hmk wC vC ogC belC hrC lowC.1
       obtain ⟨gC,hgC⟩:=hrC.some_of (j:=0) (by omega)
       subst hgC
       obtain ⟨capC,hvC,_,_⟩:=hrC.slice
       subst hvC
       have HFIN:=Lib.hid hfin
       clear hfin hrC happC lowC HA HB HRA HogA HogB eN
       have hfl:(sortC cmpD (((brs t).take (k + 1)).map canon)).length = ys.length + 1:=by rw [kO];simp;rw [Hyl.out];omega
       obtain ⟨zs,hzs⟩:∃ zs,zs = sortC cmpD (((brs t).take (k + 1)).map canon):=⟨_,rfl⟩
       rw [← hzs] at HFIN hfl
       have hkz:zs.length = k + 1:=by rw [hfl,Hyl.out]
       rw [← hfl] at HFIN
       rw [← hfl]
       have HZ:=Lib.hid hzs
       have HKZ:=Lib.hid hkz
       clear hzs hfl hkz
       go_wp2_with fail
       go_roundw
       case rel => exact ⟨k + 1,zs,by omega,by go_num,HZ,HKZ,⟨_,_,rfl⟩,HFIN,hbel4.trans (belC.mono (by omega))⟩
       case measure => simp [intOf];omega
   ·have hfin:(brs t).take k = brs t:=List.take_of_length_le (by omega)
    have hyc:qA ys = canon t:=by rw [xP HL.out,hys.out,hfin]
    have hylev:∀ b ∈ ys,qY b:=by
     intro b hb
     rw [hys.out,yA,List.mem_map] at hb
     obtain ⟨c,hc,rfl⟩:=hb
     exact kZ (jK HL.out c (List.mem_of_mem_take hc))
    have hsum:qQ ys ≤ 1000000:=by
     have:=xI ys
     rw [hyc,vR HL.out] at this
     omega
    have hyb:ys.length ≤ 1000000:=by rw [Hyl.out];omega
    have HYC:=Lib.hid hyc
    have HS:Hid (Small ys):=Lib.hid (Small.of_lev hylev (by omega))
    obtain ⟨oa9,cap9,L⟩:=hown.out.rd.lists
    have hval:=L.val
    simp only [Value.slice.injEq,true_and] at hval
    obtain ⟨rfl,rfl⟩:=hval
    have HLs:=Lib.hid L
    have hkb:¬ ((k:Int) < ((brs t).length:Int)):=by omega
    clear hfin hyc hylev L hown hlt
    go_wp2_with fail
    go_loopw [9,10] (fun o i wr => ∃ (q:Nat) (r:List Int),q ≤ ys.length∧i = .int .i64 q∧Hid (r = qA (ys.take q))∧(∃ oa cap,o = .slice oa r.length cap)∧Hid (Own (RS RI) wo.heap.size wr.heap.size wr [o] r)∧Below wo.heap.size wo wr) (fun _ i _ => ys.length - (intOf i).toNat)
    case atStart => exact ⟨0,[0],Nat.zero_le _,rfl,Lib.hid rfl,⟨_,_,rfl⟩,Lib.hid ((Own.lit1 (w:=wo) 2 wo.heap.size 0 (by unfold qC;omega) (Nat.le_refl _)).top _ (by simp)),(Below.refl _ _).alloc (Nat.le_refl _) _⟩
    case round =>
     obtain ⟨q,r,hq,rfl,hr,⟨o1,cap1,rfl⟩,hown,hbelq⟩:=hrel
     have hszq:=hbelq.size
     by_cases hlt:q < ys.length
     ·obtain ⟨b,off,e9,hb,hc⟩:=HLs.out.get hlt
      simp only [Option.some.injEq,Addr.mk.injEq,and_true] at e9
      obtain ⟨rfl,rfl⟩:=e9
      obtain ⟨oi,ci,g1,hrd,q1,q2⟩:=hc q hlt
      have g1':wo.cell? ⟨g0,q,none⟩ = some (.slice oi ys[q].length ci):=by rw [← g1,Nat.zero_add]
      obtain ⟨x,hx⟩:∃ x,x = ys[q]:=⟨_,rfl⟩
      have hsm:∀ y ∈ x,0 ≤ y∧y ≤ 1000000000:=by rw [hx];exact HS.out _ (List.getElem_mem hlt)
      have hlen:=xK0 ys q hlt
      have hrl:=xI (ys.take q)
      have hnx:=xB0 ys q hlt
      rw [← hx] at g1' hrd q1 hlen hnx
      obtain ⟨oa2,c2,I⟩:=hrd.ints
      rw [← hr.out] at hrl hnx
      have hval:=I.val
      simp only [Value.slice.injEq,true_and] at hval
      obtain ⟨rfl,rfl⟩:=hval
      have HI:=Lib.hid I
      have HN:=Lib.hid hnx
      have hrb:r.length + x.length ≤ 1000000001:=by omega
      clear hc g1 hx hrd I hnx hrl hlen
      go_wp2_with fail
      go_loopw [9,11] (fun o i wr => ∃ (m:Nat) (z:List Int),m ≤ x.length∧i = .int .i64 m∧Hid (z = r ++ (x.take m).map (· + 1))∧(∃ oa cap,o = .slice oa z.length cap)∧Hid (Own (RS RI) wo.heap.size wr.heap.size wr [o] z)∧Below wo.heap.size wo wr) (fun _ i _ => x.length - (intOf i).toNat)
      case atStart => exact ⟨0,r,Nat.zero_le _,rfl,Lib.hid (by simp),⟨o1,cap1,rfl⟩,hown,hbelq⟩
      case round =>
       obtain ⟨m,z,hm,rfl,hz,⟨o2,cap2,rfl⟩,hown2,hbel2⟩:=hrel
       have hsz2':=hbel2.size
       have g2:wr.cell? ⟨g0,q,none⟩ = some (.slice oi x.length ci):=(hbel2.cell (p:=⟨g0,q,none⟩) hb).trans g1'
       by_cases hlt2:m < x.length
       ·obtain ⟨b2,off2,rfl,hb2,hc2⟩:=HI.out.get hlt2
        have g3:wr.cell? ⟨b2,off2 + m,none⟩ = some (.int .i64 x[m]):=(hbel2.cell (p:=⟨b2,off2 + m,none⟩) hb2).trans (hc2 m hlt2)
        have hy:=hsm x[m] (List.getElem_mem hlt2)
        obtain ⟨y1,y2⟩:=hy
        have hms:=yO0 x m hlt2
        obtain ⟨y,hy⟩:∃ y,y = x[m]:=⟨_,rfl⟩
        rw [← hy] at g3 y1 y2 hms
        have hll:z.length ≤ 1000000002:=by rw [hz.out];simp;omega
        have hw1:IntKind.i64.wrap (y + 1) = y + 1:=IntWalk.i64_in _ (by omega)
        have HM:=Lib.hid hms
        clear hc2 hy hms hsm
        go_wp2_with (at_builtin;refine yN (o:=⟨some 80,_,_,_,_,_⟩) ?_)
        refine jU.go ?_
        refine qJ0 (w:=wr) (R:=RI) rfl _ _ 24 rfl 2 (.int .i64 0) 1 8 tI64 rfl (.slice o2 z.length cap2) z (y + 1) [.int .i64 (y + 1)] wo.heap.size wr.heap.size wr.heap.size rfl hown2.out (Own.int ⟨by omega,by omega⟩) (Nat.le_refl _) hsz2' 2 rfl rfl (by omega) (by omega) ?_
        intro oa1 cap1 w1' hown1 c1a c1b hbel1
        have hb3:=hbel2.trans hbel1
        obtain ⟨z',hz'⟩:∃ z',z' = z ++ [y + 1]:=⟨_,rfl⟩
        have HZ:Hid (z' = r ++ (x.take (m + 1)).map (· + 1)):=Lib.hid (by rw [hz',hz.out,HM.out,List.append_assoc])
        have e1:z.length + 1 = z'.length:=by rw [hz'];simp
        rw [← hz',e1] at hown1
        have HO1':Hid (Own (RS RI) wo.heap.size w1'.heap.size w1' [.slice oa1 z'.length cap1] z'):=hown1
        rw [e1]
        clear hown1 hbel1 hown2 hown e1 hz'
        go_wp2_with fail
        go_roundw
        case rel => exact ⟨m + 1,z',by omega,by go_num,HZ,⟨_,_,rfl⟩,HO1',hb3⟩
        case measure => simp [intOf];omega
       ·have HZ:Hid (z = qA (ys.take (q + 1))):=Lib.hid (by rw [HN.out,hz.out,List.take_of_length_le (by omega)])
        go_wp2_with fail
        go_roundw
        case rel => exact ⟨q + 1,z,by omega,by go_num,HZ,⟨_,_,rfl⟩,hown2,hbel2⟩
        case measure => simp [intOf];omega
     ·have hfin:ys.take q = ys:=List.take_of_length_le (by omega)
      have HF:Hid (r = canon t):=Lib.hid (by rw [hr.out,hfin,HYC.out])
      clear hfin
      go_wp2_with fail
      go_ret
      exact ⟨_,rfl,by rw [← HF.out];exact hown.out.mono (Nat.le_trans hsz1 hsz2) (Nat.le_refl _),b1.trans ((hbel.trans (hbelq.mono hsz2)).mono hsz1)⟩
end
section
section
variable {P:Program} {w:World}
theorem step_call {ops:Array Oper} {o:Oper} {a:Act} {K:Act→World→Prop} {Q:Exit→Act→World→Prop} {E:Prop} (hgd:o.guard = none) (f:FuncId) (args:Array Operand) (ts:Array TypeId)
  (ho:o.op = .call { callee:=.value (.func f),args:=args,argTypes:=ts }) (eg:∀ args w,(callFunc f args).run P w = .ok (.enter f args) w) (vs:Array Value) (hv:args.map a.eval = vs)
  (h:Calls P f vs w fun e w' => ∃ v,e = .returned v∧K (a.put o.dst v) w'):if Region.wanted o (yielded ops a.tmps) = true then Oper.wp P o a w K Q else E:=by
 have hw:Region.wanted o (yielded ops a.tmps) = true:=by simp [Region.wanted,hgd]
 rw [if_pos hw]
 subst hv
 unfold Oper.wp
 have hrun:(execOp a.eval o).run P w = .ok (.enter f (args.map a.eval)) w:=by
  simp [execOp,ho,resolve,invoke,Act.eval,Deferred.ofValue,eg]
 rw [hrun,Oper.upon_enter]
 refine h.mono ?_
 rintro e w' ⟨v,rfl,hk⟩
 exact hk
theorem step_appendS {ops:Array Oper} {o:Oper} {a:Act} {K:Act→World→Prop} {Q:Exit→Act→World→Prop} {E:Prop} (hgd:o.guard = none) (s x:Operand) (t:TypeId)
  (ho:o.op = .call { callee:=.builtin .append,args:=#[s,x],argTypes:=#[t,t] })
  (e:TypeId) (z:Value) (k bytes:Nat) (T:ST P t e z k bytes)
  (v:Value) (n:Nat) (ds:List Value) (og:Option Nat) (hs:a.eval s = v) (hown:Row w v k n ds og)
  (ao:Option Addr) (m c:Nat) (news:List Value) (hx:a.eval x = .slice ao m c) (hl:news.length = m * k) (hnone:ao = none→m = 0) (hnews:∀ a,ao = some a→∀ j u,news[j]? = some u→w.cell? (a.add j) = some u) (h1:∀ u ∈ news,u.oneCell' = true)
  (hbytes:(n + m) * bytes ≤ 140737488355328) (h63:n + m ≤ maxLen)
  (h:∀ v' w' og',yW w w' v' k (n + m) (ds ++ news) og og'→K (a.put o.dst v') w'):if Region.wanted o (yielded ops a.tmps) = true then Oper.wp P o a w K Q else E:=by
 have hw:Region.wanted o (yielded ops a.tmps) = true:=by simp [Region.wanted,hgd]
 rw [if_pos hw]
 obtain ⟨v',w',og',hr,h2⟩:=jZ0 (P:=P) (w:=w) t o.type e z k bytes T v n ds og hown ao m c news hl hnone hnews h1 hbytes h63
 unfold Oper.wp execOp
 simp only [ho,resolve,invoke,builtin,Sem.run_bind,Sem.run_pure,Result.andThen_ok,List.map_toArray,List.map_cons,List.map_nil,hs,hx,hr]
 exact h v' w' og' h2
end
end
section
def forest (list:List (List Int)):List (List Int):=sortC cmpT list
theorem c_slicesClone (v:Value) (xs:List Int) (w:World) (h:Rd (RS RI) w [v] xs) (hsz:xs.length ≤ 1000000000) :
  Calls Tryz.prog 201 #[v] w (RetO (RS RI) w xs):=by
 obtain ⟨oa,c1,I1⟩:=h.ints
 obtain rfl:=I1.val
 have m1:=I1.le;have m2:=I1.capLe
 unfold maxLen at m2
 have q22:∀ (w:World) (a:Option Addr) (n c n' c':Nat),(binOp .eql 24 (.slice a n c) (.slice none n' c')).run Tryz.prog w = .ok (.bool a.isNone) w:=fun w a n c n' c' => Lib.run_eql_slice_nil w _ _ a n c n' c' tI64.ht
 cases oa with
 | none =>
  have hc:=I1.noneCap rfl
  have hx:xs = []:=List.eq_nil_of_length_eq_zero (by omega)
  subst hx;subst hc
  clear h I1
  go_enter Tryz.func201,Tryz.ntmps201
  go_wp2_with fail
  go_ret
  exact ⟨_,rfl,Own.nil _ _,Below.refl _ _⟩
 | some ad =>
 have I2:Ints (w.alloc (.cells #[] 2)) (.slice (some ad) xs.length c1) xs (some ad) c1:=by
  refine ⟨rfl,m1,I1.capLe,I1.noneCap,I1.bd,?_⟩
  rcases I1.row with h|⟨b,off,e,hb,hc⟩
  ·exact .inl h
  ·refine .inr ⟨b,off,e,by simp;omega,fun j hj => ?_⟩
   rw [World.cell?_alloc_lt _ _ _ hb];exact hc j hj
 have hrow:=Row.lit w #[] 2 1 0 (by decide) (by simp)
 have HI:=Lib.hid I2
 have HR:=Lib.hid hrow
 clear I2 hrow
 go_enter Tryz.func201,Tryz.ntmps201
 go_wp2_with (at_builtin;refine yN (o:=⟨some 7,_,_,_,_,_⟩) ?_)
 refine jU.go ?_
 refine xC rfl _ _ 24 rfl 2 (.int .i64 0) 1 8 tI64 (.slice (some ⟨w.heap.size,0,none⟩) 0 0) 0 [] (some w.heap.size) rfl (by simpa using HR.out) (some ad) xs.length c1 (xs.map (Value.int .i64)) rfl (by simp) (fun h => by cases h) (Row.cells_ints HI.out) (by intro u hu;obtain ⟨x,_,rfl⟩:=List.mem_map.1 hu;rfl) (by omega) (by unfold maxLen;omega) ?_
 intro v' w' og' happ
 rw [Nat.zero_add,List.nil_append] at happ
 have hlow:=happ.low (B:=w.heap.size) (by simp) (fun g hg => by cases hg;exact Nat.le_refl _)
 have hbel:Below w.heap.size w w':=((Below.refl w.heap.size w).alloc (Nat.le_refl _) (.cells #[] 2)).trans hlow.2
 have hown:Own (RS RI) w.heap.size w'.heap.size w' [v'] xs:=Row.OwnI (by simpa using happ.1) I1.bd hlow.1
 have HO:=Lib.hid hown
 obtain ⟨oa',cap',rfl,_⟩:=hown.val
 clear hown happ hlow
 go_wp2_with fail
 go_ret
 exact ⟨_,rfl,HO.out,hbel⟩
theorem take_snoc (xs:List (List Int)) (k:Nat) (h:k < xs.length):xs.take (k + 1) = xs.take k ++ [xs[k]]:=List.take_succ_eq_append_getElem h
theorem xT0 (v:Value) (bs:List (List Int)) (w:World) (h:Rd (RS (RS RI)) w [v] bs) (hsz:bs.length ≤ 1000000000) (hsl:∀ b ∈ bs,b.length ≤ 1000000000) :
  Calls Tryz.prog 152 #[v] w (RetO (RS (RS RI)) w bs):=by
 obtain ⟨oa,cap,L⟩:=h.lists
 obtain rfl:=L.val
 have m1:=L.le;have m2:=L.capLe
 have HL:=Lib.hid L
 have HS:=Lib.hid hsl
 clear L h hsl
 go_enter Tryz.func152,Tryz.ntmps152
 go_wp2_with fail
 go_loopw [3,9] (fun o i wr => ∃ (k:Nat) (r:List (List Int)),k ≤ bs.length∧i = .int .i64 k∧Hid (r = bs.take k)∧r.length ≤ 1000000000∧(∃ oa cap,o = .slice oa r.length cap)∧Hid (Own (RS (RS RI)) w.heap.size wr.heap.size wr [o] r)∧Below w.heap.size w wr) (fun _ i _ => bs.length - (intOf i).toNat)
 case atStart => exact ⟨0,[],Nat.zero_le _,rfl,Lib.hid rfl,by simp,⟨_,_,rfl⟩,Lib.hid ((Own.empty (R:=RS RI) (w:=w) 24 w.heap.size (Nat.le_refl _)).top _ (by simp)),(Below.refl _ _).alloc (Nat.le_refl _) _⟩
 case round =>
  obtain ⟨k,r,hk,rfl,hr,hrl,⟨o1,cap1,rfl⟩,hown,hbel⟩:=hrel
  have hsz1:=hbel.size
  by_cases hlt:k < bs.length
  ·obtain ⟨b,off,rfl,hb,hc⟩:=HL.out.get hlt
   obtain ⟨oi,ci,g1,hrd,q1,q2⟩:=hc k hlt
   have g2:wr.cell? ⟨b,off + k,none⟩ = some (.slice oi bs[k].length ci):=(hbel.cell (p:=⟨b,off + k,none⟩) hb).trans g1
   obtain ⟨x,hx⟩:∃ x,x = bs[k]:=⟨_,rfl⟩
   have hxl:x.length ≤ 1000000000:=by rw [hx];exact HS.out _ (List.getElem_mem hlt)
   have hnx:=take_snoc bs k hlt
   have hrlen:r.length = k:=by rw [hr.out];simp;omega
   have hr2:r.length + 1 ≤ 1000000000:=by omega
   rw [← hx] at g2 hrd q1 hnx
   rw [← hr.out] at hnx
   have hcl:=c_slicesClone _ x wr (hrd.below hbel (Nat.le_refl _)) hxl
   have HN:=Lib.hid hnx
   clear hc g1 hx hrd hnx hrlen
   go_wp2_with (first|(go_at_call 201;refine hcl.mono ?_;rintro e w2 ⟨u,rfl,o2,b2⟩;obtain ⟨ou,cu,rfl,lu1,lu2⟩:=o2.val)|(at_builtin;refine yN (o:=⟨some 17,_,_,_,_,_⟩) ?_))
   refine jU.go ?_
   have hb2:=b2.size
   refine qJ0 (w:=w2) (R:=RS RI) rfl _ _ 36 rfl 24 (.slice none 0 0) 1 24 tI64S rfl (.slice o1 r.length cap1) r x [.slice ou x.length cu] w.heap.size wr.heap.size w2.heap.size rfl (hown.out.below b2 (Nat.le_refl _)) o2 hb2 hsz1 24 rfl rfl (by omega) (by omega) ?_
   intro oa1 cap1' w1 hown1 c1a c1b hbel1
   have hb3:=(hbel.trans (b2.mono hsz1)).trans hbel1
   obtain ⟨r',hr'⟩:∃ r',r' = r ++ [x]:=⟨_,rfl⟩
   have HR:Hid (r' = bs.take (k + 1)):=Lib.hid (by rw [hr',HN.out])
   have e1:r.length + 1 = r'.length:=by rw [hr'];simp
   rw [← hr',e1] at hown1
   have HO:Hid (Own (RS (RS RI)) w.heap.size w1.heap.size w1 [.slice oa1 r'.length cap1'] r'):=hown1
   rw [e1] at hr2
   rw [e1]
   clear hown1 hbel1 hown e1 hr' hcl o2
   go_wp2_with fail
   go_roundw
   case rel => exact ⟨k + 1,r',by omega,by go_num,HR,hr2,⟨_,_,rfl⟩,HO,hb3⟩
   case measure => simp [intOf];omega
  ·have hfin:Hid (r = bs):=Lib.hid (by rw [hr.out,List.take_of_length_le (by omega)])
   go_wp2_with fail
   go_ret
   exact ⟨_,rfl,by rw [← hfin.out];exact hown.out,hbel⟩
theorem c_impl_forestOf (v:Value) (bs:List (List Int)) (w:World) (h:Rd (RS (RS RI)) w [v] bs) (hsz:bs.length ≤ 19) (hsl:∀ b ∈ bs,b.length ≤ 1000000000) :
  Calls Tryz.prog 102 #[v] w (RetO (RS (RS RI)) w (forest bs)):=by
 have hc:=xT0 v bs w h (by omega) hsl
 have EG:=Lib.hid (enters (P:=Tryz.prog) (f:=119) Tryz.func119 (by kernel_rfl) rfl)
 have HA:Hid (kU Tryz.prog 119 cmpT (fun _ => True)):=Lib.hid (fun w h1 h2 x y r1 r2 _ _ => qR0 h1 h2 x y w r1 r2)
 clear h hsl
 go_enter Tryz.func102,Tryz.ntmps102
 go_wp2_with (go_at_call 152;refine hc.mono ?_;rintro e w1 ⟨u,rfl,o1,b1⟩;obtain ⟨ou,cu,rfl,lu1,lu2⟩:=o1.val)
 have hs:=c_SortStable 119 cmpT xD (fun _ => True) EG.out HA.out _ bs w.heap.size w1.heap.size w1 o1 (fun _ _ => trivial) (by omega)
 have hb1:=b1.size
 clear o1 hc
 go_wp2_with (go_at_call 163;refine hs.mono ?_;rintro e w3 ⟨rfl,o3,ch3⟩)
 go_ret
 have hb3:Below w.heap.size w w3:=b1.trans (ch3.below (Nat.le_refl _) hb1)
 exact ⟨_,rfl,o3.mono (Nat.le_refl _) ch3.size,hb3⟩
def jA (bs:List (List Int)):Int:=bs.foldl (fun a b => wrap64 (a + b.length)) 0
theorem xA0 (bs:List (List Int)) (k:Nat) (h:k < bs.length):jA (bs.take (k + 1)) = wrap64 (jA (bs.take k) + bs[k].length):=by
 unfold jA
 rw [List.take_succ_eq_append_getElem h,List.foldl_append];rfl
theorem xL (bs:List (List Int)) (h:qQ bs ≤ 1000000000000000000):jA bs = qQ bs:=by
 have:∀ (bs:List (List Int)) (n:Nat),n + qQ bs ≤ 1000000000000000000→bs.foldl (fun a b => wrap64 (a + (b.length:Int))) (n:Int) = (n + qQ bs:Nat):=by
  intro bs
  induction bs with
  | nil => intro n _;simp [qQ]
  | cons b bs ih =>
   intro n hn
   simp only [qQ,List.map_cons,List.sum_cons] at hn
   rw [List.foldl_cons]
   have e:wrap64 ((n:Int) + b.length) = ((n + b.length:Nat):Int):=by unfold wrap64;omega
   rw [e,ih (n + b.length) (by unfold qQ;omega)]
   simp only [qQ,List.map_cons,List.sum_cons]
   omega
 unfold jA;simpa using this bs 0 (by omega)
theorem yY0 (v:Value) (bs:List (List Int)) (w:World) (h:Rd (RS (RS RI)) w [v] bs) :
  Calls Tryz.prog 88 #[v] w (jD w (.int .i64 (jA bs))):=by
 obtain ⟨oa,cap,L⟩:=h.lists
 obtain rfl:=L.val
 have m1:=L.le;have m2:=L.capLe
 have HL:=Lib.hid L
 clear L h
 go_enter Tryz.func88,Tryz.ntmps88
 go_wp2_with fail
 go_loop [3,8] (fun s i => ∃ (k:Nat),k ≤ bs.length∧i = .int .i64 k∧s = .int .i64 (jA (bs.take k))) (fun _ i => bs.length - (intOf i).toNat)
 case atStart => exact ⟨0,Nat.zero_le _,rfl,rfl⟩
 case round =>
  obtain ⟨k,hk,rfl,rfl⟩:=hrel
  by_cases hlt:k < bs.length
  ·obtain ⟨b,off,rfl,hb,hc⟩:=HL.out.get hlt
   obtain ⟨oi,ci,g1,hrd,q1,q2⟩:=hc k hlt
   have hnx:=xA0 bs k hlt
   obtain ⟨x,hx⟩:∃ x,x = bs[k].length:=⟨_,rfl⟩
   obtain ⟨s,hs⟩:∃ s,s = jA (bs.take k):=⟨_,rfl⟩
   rw [← hx] at g1 q1 hnx
   rw [← hs] at hnx
   rw [← hs]
   have hw:IntKind.i64.wrap (s + (x:Int)) = wrap64 (s + x):=IntWalk.i64_left _
   obtain ⟨g,hg⟩:∃ g,g = wrap64 (s + x):=⟨_,rfl⟩
   rw [← hg] at hw hnx
   have HN:=Lib.hid hnx
   clear hc hrd hx hs hg hnx
   go_wp2_with fail
   go_round
   case rel => exact ⟨k + 1,by omega,by go_num,by rw [HN.out]⟩
   case measure => simp [intOf];omega
  ·have hfin:bs.take k = bs:=List.take_of_length_le (by omega)
   have HF:=Lib.hid hfin
   clear hfin
   go_wp2_with fail
   go_ret
   exact ⟨by simp [HF.out],rfl⟩
theorem c_spec_l03Nodes (v:Value) (bs:List (List Int)) (w:World) (h:Rd (RS (RS RI)) w [v] bs) :
  Calls Tryz.prog 130 #[v] w (jD w (.int .i64 (jA bs))):=by
 obtain ⟨oa,cap,L⟩:=h.lists
 obtain rfl:=L.val
 have m1:=L.le;have m2:=L.capLe
 have HL:=Lib.hid L
 clear L h
 go_enter Tryz.func130,Tryz.ntmps130
 go_wp2_with fail
 go_loop [3,4] (fun s i => ∃ (k:Nat),k ≤ bs.length∧i = .int .i64 k∧s = .int .i64 (jA (bs.take k))) (fun _ i => bs.length - (intOf i).toNat)
 case atStart => exact ⟨0,Nat.zero_le _,rfl,rfl⟩
 case round =>
  obtain ⟨k,hk,rfl,rfl⟩:=hrel
  by_cases hlt:k < bs.length
  ·obtain ⟨b,off,rfl,hb,hc⟩:=HL.out.get hlt
   obtain ⟨oi,ci,g1,hrd,q1,q2⟩:=hc k hlt
   have hnx:=xA0 bs k hlt
   obtain ⟨x,hx⟩:∃ x,x = bs[k].length:=⟨_,rfl⟩
   obtain ⟨s,hs⟩:∃ s,s = jA (bs.take k):=⟨_,rfl⟩
   rw [← hx] at g1 q1 hnx
   rw [← hs] at hnx
   rw [← hs]
   have hw:IntKind.i64.wrap (s + (x:Int)) = wrap64 (s + x):=IntWalk.i64_left _
   obtain ⟨g,hg⟩:∃ g,g = wrap64 (s + x):=⟨_,rfl⟩
   rw [← hg] at hw hnx
   have HN:=Lib.hid hnx
   clear hc hrd hx hs hg hnx
   go_wp2_with fail
   go_round
   case rel => exact ⟨k + 1,by omega,by go_num,by rw [HN.out]⟩
   case measure => simp [intOf];omega
  ·have hfin:bs.take k = bs:=List.take_of_length_le (by omega)
   have HF:=Lib.hid hfin
   clear hfin
   go_wp2_with fail
   go_ret
   exact ⟨by simp [HF.out],rfl⟩
end
section
theorem madeCells_nils (n:Nat):(madeCells (Value.slice none 0 0).cells (n * 1)).toList = List.replicate n (Value.slice none 0 0):=by
 rw [Nat.mul_one];show (madeCells #[Value.slice none 0 0] n).toList = _
 rw [toList_madeCells_one]
theorem ownL_nils {α:Type} {R:Rep α} {w:World}:∀ n,ownL (RS R) w (List.replicate n (.slice none 0 0)) (List.replicate n []) []
 | 0 => ⟨rfl,rfl⟩
 | n + 1 => ⟨[.slice none 0 0],List.replicate n (.slice none 0 0),[],[],rfl,rfl,⟨.slice none 0 0,none,[],[],rfl,Row.nil w R.k,⟨rfl,rfl⟩,rfl⟩,ownL_nils n⟩
theorem Own.innerRow {w:World} {v:Value} {xss:List (List Int)} {lo hi:Nat} (h:Own (RS (RS RI)) lo hi w [v] xss) (i:Nat) (hi':i < xss.length) :
  ∃ g cap h0 og,v = .slice (some ⟨g,0,none⟩) xss.length cap∧xss.length ≤ cap∧cap ≤ 9223372036854775807∧w.cell? ⟨g,i,none⟩ = some h0∧Row w h0 1 xss[i].length (xss[i].map (Value.int .i64)) og∧(∀ x ∈ xss[i],qC x) ∧
   ∀ (w':World) (ys:List Int),w.grownBy w' og→ys.length = xss[i].length→(∀ x ∈ ys,qC x)→Row w' h0 1 ys.length (ys.map (Value.int .i64)) og→Own (RS (RS RI)) lo hi w' [v] (xss.set i ys)∧Chg lo hi w w':=by
 obtain ⟨og0,ds0,F,hrow,hel,hF,hlt⟩:=h.open
 obtain ⟨g,rfl⟩:=hrow.some_of hi'
 obtain ⟨cap,hv,hc1,hc2⟩:=hrow.slice
 obtain ⟨d1,c0,d2,F1,G,F2,rfl,rfl,hd1,hL1,⟨h0,og,ds,G',rfl,hr0,hel0,rfl⟩,hL2⟩:=hel.split i hi'
 have hd1':d1.length = i:=by rw [hd1];show i * 1 = i;omega
 obtain ⟨k1,k2,k3⟩:=ownL_ints hel0
 subst k1;subst k2
 have hcell:w.cell? ⟨g,i,none⟩ = some h0:=hrow.cells i h0 (by rw [List.getElem?_append_right (by omega),hd1'];simp)
 refine ⟨g,cap,h0,og,hv,hc1,by unfold maxLen at hc2;omega,hcell,hr0,k3,fun w' ys hgr hyl hyb hr' => ?_⟩
 have hn:=List.nodup_append.1 hF
 have hn1:=List.nodup_append.1 hn.2.1
 have hog:∀ b,og = some b→b ∉ F1 ++ F2∧b ≠ g:=by
  intro b hb
  refine ⟨fun hm => ?_,fun e => ?_⟩
  ·rcases List.mem_append.1 hm with hm|hm
   ·exact hn1.2.2 b hm b (by simp [hb]) rfl
   ·exact (List.nodup_append.1 hn1.2.1).2.2 b (by simp [hb]) b hm rfl
  ·subst e
   exact hn.2.2 b (by simp) b (by simp [hb]) rfl
 have hfr:∀ b,b ∈ F1 ++ F2→w'.heap[b]? = w.heap[b]?:=by
  intro b hb
  refine hgr.block b ?_ (fun e => (hog b e.symm).1 hb)
  rcases List.mem_append.1 hb with hb|hb
  ·exact hL1.lt b hb
  ·exact hL2.lt b hb
 have hgb:w'.heap[g]? = w.heap[g]?:=hgr.block g (hrow.lt g rfl) (fun e => (hog g e.symm).2 rfl)
 have hin:(RS RI).own w' [h0] ys og.toList:=hr'.ownI hyb
 have hjoin:=ownL.join (R:=RS RI) (x:=ys) hi' (hL1.frame fun b hb => hfr b (by simp [hb])) hin (hL2.frame fun b hb => hfr b (by simp [hb]))
 refine ⟨Own.mk' (og:=some g) (ds:=d1 ++ ([h0] ++ d2)) (F:=F1 ++ (og.toList ++ F2)) ?_ hjoin ?_ ?_,Chg.of_grown hgr (fun b hb => hlt b (by simp [hb]))⟩
 ·rw [List.length_set]
  exact hrow.frame (fun g' hg' => by cases hg';exact hgb)
 ·simpa using hF
 ·intro b hb
  exact hlt b (by simpa using hb)
def yE (xss:List (List Int)):Nat:=qQ xss
def yF:List (List Int)→Int→List (List Int)
 | [],_ => []
 | x :: xs,k => marks x.length k :: yF xs (k + x.length)
theorem qX0:∀ (xss:List (List Int)) (k:Int),(yF xss k).length = xss.length
 | [],_ => rfl
 | x :: xs,k => by simp [yF,qX0 xs]
theorem mkd_II_get:∀ (xss:List (List Int)) (k:Int) (i:Nat) (h:i < xss.length),(yF xss k)[i]'(by rw [qX0];exact h) = marks xss[i].length (k + qQ (xss.take i))
 | x :: xs,k,0,h => by simp [yF,qQ]
 | x :: xs,k,i + 1,h => by
  simp only [yF,List.getElem_cons_succ,List.take_succ_cons]
  rw [mkd_II_get xs (k + x.length) i (by simpa using h)]
  congr 1
  simp only [qQ,List.map_cons,List.sum_cons]
  omega
def szII (xss:List (List Int)):Prop:=xss.length + qQ xss ≤ 1048576
theorem jD0 (bs:List (List Int)) (k:Nat) (h:k < bs.length):qQ (bs.take (k + 1)) = qQ (bs.take k) + bs[k].length:=by
 rw [List.take_succ_eq_append_getElem h,kM];simp [qQ]
theorem to_II (v:Value) (xs:List (List Int)) (w:World) (h:Rd (RS (RS RI)) w [v] xs) (hsz:szII xs) :
  Calls Tryz.prog 139 #[v] w (RetO (RS (RS RI)) w xs):=by
 obtain ⟨oa,cap,L⟩:=h.lists
 obtain rfl:=L.val
 have m1:=L.le;have m2:=L.capLe
 have HL:=Lib.hid L
 unfold szII at hsz
 clear L h
 go_enter Tryz.func139,Tryz.ntmps139
 go_wp2_with (at_make;refine jS0 rfl _ _ 36 rfl 24 (.slice none 0 0) 1 24 tI64S _ _ _ _ xs.length rfl rfl rfl rfl (by omega) (by unfold maxLen;omega) ?_;rintro v1 w1 hrow0 hgr0 rfl)
 rw [madeCells_nils] at hrow0
 have hb0:Below w.heap.size w w1:=Below.of_grown hgr0 (Nat.le_refl _) (fun g hg => by cases hg)
 have HO:Hid (Own (RS (RS RI)) w.heap.size w1.heap.size w1 [.slice (some ⟨w.heap.size,0,none⟩) xs.length xs.length] (List.replicate xs.length [])):=Lib.hid (Own.mk' (og:=some w.heap.size) (F:=[]) (ds:=List.replicate xs.length (.slice none 0 0)) (by rw [List.length_replicate];exact hrow0) (ownL_nils xs.length) (by simp) (fun b hb => by have:=hrow0.lt w.heap.size rfl;simp at hb;omega))
 clear hrow0 hgr0
 go_wp2_with fail
 go_loopw [4] (fun i wr => ∃ (k:Nat) (z:List (List Int)),k ≤ xs.length∧i = .int .i64 k∧Hid (z = xs.take k ++ List.replicate (xs.length - k) [])∧Hid (Own (RS (RS RI)) w.heap.size wr.heap.size wr [.slice (some ⟨w.heap.size,0,none⟩) xs.length xs.length] z)∧Below w.heap.size w wr) (fun i _ => xs.length - (intOf i).toNat)
 case atStart => exact ⟨0,_,Nat.zero_le _,rfl,Lib.hid (by simp),HO,hb0⟩
 case round =>
  obtain ⟨k,z,hk,rfl,hz,hown,hbel⟩:=hrel
  have hsz1:=hbel.size
  clear HO
  by_cases hlt:k < xs.length
  ·obtain ⟨b,off,rfl,hb,hc⟩:=HL.out.get hlt
   obtain ⟨oi,ci,g1,hrd,q1,q2⟩:=hc k hlt
   have g2:wr.cell? ⟨b,off + k,none⟩ = some (.slice oi xs[k].length ci):=(hbel.cell (p:=⟨b,off + k,none⟩) hb).trans g1
   have hzl:z.length = xs.length:=by rw [hz.out];simp;omega
   obtain ⟨g,cap',a,hv,_,_,hg1,hg2,hg3,hcell,hel,hK⟩:=hown.out.setElem (R:=RS RI) rfl k (by rw [hzl];exact hlt)
   rw [hzl] at hv
   simp only [Value.slice.injEq,Option.some.injEq,Addr.mk.injEq,and_true,true_and] at hv
   obtain ⟨rfl,rfl⟩:=hv
   obtain ⟨oz,cz,rfl,_⟩:=hel.val
   have hkz:k < z.length:=by omega
   obtain ⟨zl,hzl'⟩:∃ zl,zl = z[k].length:=⟨_,rfl⟩
   rw [← hzl'] at hcell hK
   have hset:z.set k xs[k] = xs.take (k + 1) ++ List.replicate (xs.length - (k + 1)) []:=by
    rw [hz.out,List.set_append_right _ _ (by simp;omega)]
    have e:k - (xs.take k).length = 0:=by simp;omega
    rw [e,show xs.length - k = (xs.length - (k + 1)) + 1 by omega,List.replicate_succ,List.set_cons_zero,List.take_succ_eq_append_getElem hlt,List.append_assoc,List.singleton_append]
   have hxl:xs[k].length ≤ 1048576:=by have:=jF (List.getElem_mem hlt);omega
   have HK:=Lib.hid hK
   obtain ⟨x,hx⟩:∃ x,x = xs[k]:=⟨_,rfl⟩
   rw [← hx] at g2 q1 hrd hset hxl
   have HSET:=Lib.hid hset
   have hto:=to_I (.slice oi x.length ci) x wr (hrd.below hbel (Nat.le_refl _)) hxl
   clear hc g1 hrd hx hset hel hzl' hK
   go_wp2_with (go_at_call 196;refine hto.mono ?_;rintro e w2 ⟨u,rfl,o2,b2⟩;obtain ⟨ou,cu,rfl,lu1,lu2⟩:=o2.val;obtain ⟨f1,f2,f3,f4⟩:=HK.out w2 x (.slice ou x.length cu) wr.heap.size w2.heap.size o2 (Nat.le_refl _) b2.size b2;have HF:=Lib.hid f3;have hb3:Below w.heap.size w w2:=hbel.trans (b2.mono hsz1);have hb4:=hb3.setCell (p:=⟨w.heap.size,k,none⟩) (Nat.le_refl _) (.slice ou x.length cu);clear f3 f4 o2 hto)
   go_roundw
   case rel => exact ⟨k + 1,_,by omega,by go_num,HSET,Lib.hid (HF.out.top _ (by simp)),hb4⟩
   case measure => simp [intOf];omega
  ·have hfin:Hid (z = xs):=Lib.hid (by rw [hz.out,List.take_of_length_le (by omega),show xs.length - k = 0 by omega];simp)
   go_wp2_with fail
   go_ret
   exact ⟨_,rfl,hfin.out ▸ hown.out,hbel⟩
theorem eqv_II (v1 v2:Value) (xs:List (List Int)) (w:World) (h1:Rd (RS (RS RI)) w [v1] xs) (h2:Rd (RS (RS RI)) w [v2] xs) :
  Calls Tryz.prog 143 #[v1,v2] w (RetV w (.bool true)):=by
 obtain ⟨oa,cap,L1⟩:=h1.lists
 obtain ⟨ob,cap2,L2⟩:=h2.lists
 obtain rfl:=L1.val
 obtain rfl:=L2.val
 have m1:=L1.le;have m2:=L1.capLe;have m3:=L2.le;have m4:=L2.capLe
 have HL1:=Lib.hid L1
 have HL2:=Lib.hid L2
 have hne:((xs.length:Int) != (xs.length:Int)) = false:=by simp
 clear L1 L2 h1 h2
 go_enter Tryz.func143,Tryz.ntmps143
 go_wp2_with fail
 go_loopw [5] (fun i wr => ∃ k:Nat,k ≤ xs.length∧i = .int .i64 k∧∃ n,wr = w.drewN n) (fun i _ => xs.length - (intOf i).toNat)
 case atStart => exact ⟨0,Nat.zero_le _,rfl,0,rfl⟩
 case round =>
  obtain ⟨k,hk,rfl,n,rfl⟩:=hrel
  by_cases hlt:k < xs.length
  ·obtain ⟨b1,f1,rfl,hb1,hc1⟩:=HL1.out.get hlt
   obtain ⟨b2,f2,rfl,hb2,hc2⟩:=HL2.out.get hlt
   obtain ⟨o1,c1,g1,r1,_,_⟩:=hc1 k hlt
   obtain ⟨o2,c2,g2,r2,_,_⟩:=hc2 k hlt
   have HEQ:Hid (∀ a,Calls Tryz.prog 198 #[.slice o1 xs[k].length c1,.slice o2 xs[k].length c2] (w.drewN (n + a)) (RetQ (w.drewN (n + a)) (.bool true))):=Lib.hid (fun a => (c_laws_eqInt64S _ _ _ _ (w.drewN (n + a)) (r1.of_heap rfl) (r2.of_heap rfl)).mono fun e w' h => by simpa using h)
   obtain ⟨xl,hxl⟩:∃ xl,xl = xs[k].length:=⟨_,rfl⟩
   rw [← hxl] at g1 g2 HEQ
   have i1:(0:Int) ≤ (k:Int):=by omega
   have i2:(k:Int) < (xs.length:Int):=by omega
   clear hc1 hc2 r1 r2 hxl
   go_wp2_with fail
   go_quiet ((go_at_call 198;exact Calls.qQ' (HEQ.out _)))
   go_wp2_with fail
   go_roundw
   case rel => exact ⟨k + 1,by omega,by go_num,(by first|exact yI _ _|exact yD _ _ _|exact drewN3 _ _ _ _)⟩
   case measure => simp [intOf];omega
  ·go_wp2_with fail
   go_ret
   exact ⟨rfl,Below.drewN _ _ _⟩
theorem held_II (v:Value) (xs:List (List Int)) (k0:Int) (w:World) (h:Rd (RS (RS RI)) w [v] (yF xs k0)) (hk0:0 ≤ k0) (hk:k0 + yE xs ≤ 4611686018427387904) :
  Calls Tryz.prog 80 #[v,.int .i64 k0] w (jD w (.int .i64 (k0 + (yE xs:Nat)))):=by
 obtain ⟨oa,cap,L⟩:=h.lists
 have hml:=qX0 xs k0
 obtain rfl:=L.val
 have m1:=L.le;have m2:=L.capLe
 have HL:=Lib.hid L
 unfold yE at hk
 unfold yE
 obtain ⟨N,hN⟩:∃ N,N = (yF xs k0).length:=⟨_,rfl⟩
 have hNx:N = xs.length:=by rw [hN,hml]
 rw [← hN] at m1
 rw [← hN]
 have HNN:=Lib.hid hN
 have HNX:=Lib.hid hNx
 have hle0:=qY0 xs
 clear L h hml hN hNx
 go_enter Tryz.func80,Tryz.ntmps80
 go_wp2_with fail
 go_loopw [1,5] (fun q i wr => ∃ (k:Nat),k ≤ N∧i = .int .i64 k∧q = .int .i64 (k0 + (qQ (xs.take k):Nat))∧wr = w) (fun _ i _ => N - (intOf i).toNat)
 case atStart => exact ⟨0,Nat.zero_le _,rfl,by simp [qQ],rfl⟩
 case round =>
  obtain ⟨k,hkl,rfl,rfl,rfl⟩:=hrel
  by_cases hlt:k < N
  ·have hltm:k < (yF xs k0).length:=by rw [← HNN.out];exact hlt
   have hltx:k < xs.length:=by rw [← HNX.out];exact hlt
   obtain ⟨b,off,rfl,hb,hc⟩:=HL.out.get hltm
   obtain ⟨oi,ci,g1,hrd,q1,q2⟩:=hc k hltm
   have hgt:=mkd_II_get xs k0 k hltx
   rw [hgt] at g1 hrd q1
   rw [vU] at g1 hrd q1
   have hst:=jD0 xs k hltx
   have hle:=qY0 xs (k + 1)
   obtain ⟨n,hn⟩:∃ n,n = qQ (xs.take k):=⟨_,rfl⟩
   obtain ⟨xl,hxl⟩:∃ xl,xl = xs[k].length:=⟨_,rfl⟩
   rw [← hn,← hxl] at hst
   rw [← hxl] at g1 hrd q1
   rw [← hn] at hrd
   rw [← hn]
   have hh:=c_laws_heldInt64S _ xl (k0 + n) wr hrd (by omega) (by omega)
   have HST:=Lib.hid hst
   have i1:(0:Int) ≤ (k:Int):=by omega
   have i2:(k:Int) < (N:Int):=by omega
   have i3:¬ (k0 + (n:Int) + (xl:Int) < 0):=by omega
   clear hc hrd hgt hn hxl hst
   go_wp2_with (go_at_call 145;refine hh.mono ?_;rintro e w2 ⟨rfl,rfl⟩)
   go_roundw
   case rel => exact ⟨k + 1,by omega,by go_num,by rw [HST.out];congr 1;omega,(by first|rfl|trivial)⟩
   case measure => simp [intOf];omega
  ·have hf2:xs.take k = xs:=List.take_of_length_le (by rw [← HNX.out];omega)
   rw [hf2]
   go_wp2_with fail
   go_ret
   exact ⟨rfl,rfl⟩
theorem c_laws_szInt64S (v:Value) (x:List Int) (left r:Int) (w:World) (h:Rd (RS RI) w [v] x) (h0:0 ≤ left) (h1:left ≤ 1048576) (hr:(left - x.length < 0∧r = -1) ∨ (0 ≤ left - x.length∧r = left - x.length)) :
  Calls Tryz.prog 194 #[v,.int .i64 left] w (jD w (.int .i64 r)):=by
 obtain ⟨oa,c1,rfl,m1,m2⟩:=h.val
 unfold maxLen at m2
 rcases hr with ⟨hlt,rfl⟩|⟨hlt,rfl⟩
 ·go_enter Tryz.func194,Tryz.ntmps194
  go_wp2_with fail
  go_ret
  exact ⟨rfl,rfl⟩
 ·have hlt':¬ left - (x.length:Int) < 0:=by omega
  go_enter Tryz.func194,Tryz.ntmps194
  go_wp2_with fail
  go_ret
  exact ⟨rfl,rfl⟩
end
section
def jT {α:Type} (R:Rep α) (F:List Nat) (w:World) (cs:List Value) (x:α):Prop:=R.own w cs x F∧F.Nodup
theorem jT.of {α:Type} {R:Rep α} {lo hi:Nat} {w:World} {cs:List Value} {x:α} (h:Own R lo hi w cs x):∃ F,jT R F w cs x∧∀ b,b ∈ F→lo ≤ b∧b < hi :=
 let ⟨F,h1,h2,h3⟩:=h;⟨F,⟨h1,h2⟩,h3⟩
theorem jT.to {α:Type} {R:Rep α} {lo hi:Nat} {F:List Nat} {w:World} {cs:List Value} {x:α} (h:jT R F w cs x) (hb:∀ b,b ∈ F→lo ≤ b∧b < hi):Own R lo hi w cs x:=⟨F,h.1,h.2,hb⟩
theorem jT.frame {α:Type} {R:Rep α} {F:List Nat} {w w':World} {cs:List Value} {x:α} (h:jT R F w cs x) (hf:∀ b,b ∈ F→w'.heap[b]? = w.heap[b]?):jT R F w' cs x:=⟨R.own_frame h.1 hf,h.2⟩
theorem jT.lt {α:Type} {R:Rep α} {F:List Nat} {w:World} {cs:List Value} {x:α} (h:jT R F w cs x):∀ b,b ∈ F→b < w.heap.size:=R.own_lt h.1
theorem jT.rd {α:Type} {R:Rep α} {F:List Nat} {w:World} {cs:List Value} {x:α} (h:jT R F w cs x):Rd R w cs x:=R.rd_mono (R.own_rd h.1) (fun _ _ h => h)
structure ChgF (F:List Nat) (w w':World):Prop where
 os:w'.os = w.os
 tape:w'.tape = w.tape
 output:w'.output = w.output
 size:w.heap.size ≤ w'.heap.size
 block:∀ k,k < w.heap.size→k ∉ F→w'.heap[k]? = w.heap[k]?
theorem ChgF.refl (F:List Nat) (w:World):ChgF F w w:=⟨rfl,rfl,rfl,Nat.le_refl _,fun _ _ _ => rfl⟩
theorem ChgF.of_grown {w w':World} {og:Option Nat} (h:w.grownBy w' og):ChgF og.toList w w':=⟨h.os,h.tape,h.output,h.size,fun k hk hn => h.block k hk (fun e => hn (by simp [← e]))⟩
theorem ChgF.mono {F G:List Nat} {w w':World} (h:ChgF F w w') (hs:∀ b,b ∈ F→b ∈ G):ChgF G w w':=⟨h.os,h.tape,h.output,h.size,fun k hk hn => h.block k hk (fun e => hn (hs k e))⟩
theorem ChgF.trans {F:List Nat} {a b c:World} (h:ChgF F a b) (k:ChgF F b c):ChgF F a c :=
 ⟨k.os.trans h.os,k.tape.trans h.tape,k.output.trans h.output,Nat.le_trans h.size k.size,fun i hi hn => (k.block i (Nat.lt_of_lt_of_le hi h.size) hn).trans (h.block i hi hn)⟩
theorem ChgF.below {F:List Nat} {w w':World} {B:Nat} (h:ChgF F w w') (hB:B ≤ w.heap.size) (hF:∀ b,b ∈ F→B ≤ b):Below B w w' :=
 ⟨h.os,h.tape,h.output,h.size,fun k hk => h.block k (by omega) (fun e => by have:=hF k e;omega)⟩
section
variable {α:Type} {R:Rep α} {w:World}
theorem jT.lens {v:Value} {xs:List α} {F:List Nat} (h:jT (RS R) F w [v] xs) (i:Nat) (hi:i < xs.length) :
  ∃ g cap d1 c d2 F1 G F2,v = .slice (some ⟨g,0,none⟩) xs.length cap∧xs.length ≤ cap∧cap ≤ 9223372036854775807∧F = g :: (F1 ++ (G ++ F2))∧c.length = R.k∧d1.length = i * R.k∧R.own w c xs[i] G∧Row w v R.k xs.length (d1 ++ (c ++ d2)) (some g) ∧
   ∀ (w':World) (c':List Value) (y:α) (G':List Nat),c'.length = R.k→R.own w' c' y G'→(∀ b,b ∈ F1 ++ F2→w'.heap[b]? = w.heap[b]?)→Row w' v R.k xs.length (d1 ++ (c' ++ d2)) (some g)→(g :: (F1 ++ (G' ++ F2))).Nodup →
    jT (RS R) (g :: (F1 ++ (G' ++ F2))) w' [v] (xs.set i y):=by
 obtain ⟨⟨v',og,ds,F0,h1,hrow,hel,rfl⟩,hn⟩:=h
 simp only [List.cons.injEq,and_true] at h1
 subst h1
 obtain ⟨g,rfl⟩:=hrow.some_of hi
 obtain ⟨cap,hv,hc1,hc2⟩:=hrow.slice
 obtain ⟨d1,c,d2,F1,G,F2,rfl,rfl,hd1,hL1,hx,hL2⟩:=hel.split i hi
 refine ⟨g,cap,d1,c,d2,F1,G,F2,hv,hc1,by unfold maxLen at hc2;omega,rfl,R.rd_len (R.own_rd hx),hd1,hx,hrow,?_⟩
 intro w' c' y G' hc' hy hfr hr' hnd
 refine ⟨⟨v,some g,d1 ++ (c' ++ d2),F1 ++ (G' ++ F2),rfl,by rw [List.length_set];exact hr',?_,rfl⟩,hnd⟩
 exact ownL.join hi (hL1.frame fun b hb => hfr b (by simp [hb])) hy (hL2.frame fun b hb => hfr b (by simp [hb]))
end
theorem Rd.lit {α:Type} {R:Rep α} {w W:World} {ds:List Value} {xs:List α} {E:TypeId} (h:rdL R (fun b => b < w.heap.size) w ds xs) (e:W.heap = (w.alloc (.cells ds.toArray E)).heap) (hn:xs.length ≤ maxLen) :
  Rd (RS R) W [.slice (some ⟨w.heap.size,0,none⟩) xs.length xs.length] xs:=by
 refine Rd.of_heap (w:=w.alloc (.cells ds.toArray E)) ?_ e
 have hb:Below w.heap.size w (w.alloc (.cells ds.toArray E)):=(Below.refl _ _).alloc (Nat.le_refl _) _
 refine ⟨some ⟨w.heap.size,0,none⟩,xs.length,ds,rfl,Nat.le_refl _,hn,by simp,?_,.inr ⟨w.heap.size,0,rfl,by simp,fun j u hj => ?_⟩⟩
 ·exact (h.frame (fun b h1 _ => hb.block b h1)).mono (fun b h1 h2 => h2)
 ·rw [Nat.zero_add,World.cell?_alloc_at _ _ _ _ rfl]
  simpa using hj
end
section
theorem jT.innerRow {w:World} {v:Value} {xss:List (List Int)} {F:List Nat} (h:jT (RS (RS RI)) F w [v] xss) (i:Nat) (hi:i < xss.length) :
  ∃ g cap h0 og,v = .slice (some ⟨g,0,none⟩) xss.length cap∧xss.length ≤ cap∧cap ≤ 9223372036854775807∧w.cell? ⟨g,i,none⟩ = some h0∧Row w h0 1 xss[i].length (xss[i].map (Value.int .i64)) og ∧
   ∀ (w':World) (ys:List Int),w.grownBy w' og→ys.length = xss[i].length→(∀ x ∈ ys,qC x)→Row w' h0 1 ys.length (ys.map (Value.int .i64)) og→jT (RS (RS RI)) F w' [v] (xss.set i ys)∧ChgF F w w':=by
 have hlt:=h.lt
 have hnd:=h.2
 obtain ⟨g,cap,d1,c,d2,F1,G,F2,hv,hc1,hc2,rfl,hcl,hd1,hx,hrow,hK⟩:=h.lens i hi
 obtain ⟨h0,og,ds,G',rfl,hr0,hel0,rfl⟩:=hx
 obtain ⟨k1,k2,k3⟩:=ownL_ints hel0
 subst k1;subst k2
 have hd1':d1.length = i:=by rw [hd1];show i * 1 = i;omega
 have hcell:w.cell? ⟨g,i,none⟩ = some h0:=hrow.cells i h0 (by rw [List.getElem?_append_right (by omega),hd1'];simp)
 refine ⟨g,cap,h0,og,hv,hc1,hc2,hcell,hr0,fun w' ys hgr hyl hyb hr' => ?_⟩
 simp only [List.append_nil] at *
 have hn1:=List.nodup_cons.1 hnd
 have hog:∀ b,og = some b→b ≠ g∧b ∉ F1 ++ F2:=by
  intro b hb
  subst hb
  refine ⟨fun e => hn1.1 (by simp [← e]),fun hm => ?_⟩
  have h2:=List.nodup_append.1 hn1.2
  rcases List.mem_append.1 hm with hm|hm
  ·exact h2.2.2 b hm b (by simp) rfl
  ·exact (List.nodup_append.1 h2.2.1).2.2 b (by simp) b hm rfl
 have hgb:w'.heap[g]? = w.heap[g]?:=hgr.block g (hlt g (by simp)) (fun e => (hog g e.symm).1 rfl)
 have hrow1:Row w' v 1 xss.length (d1 ++ ([h0] ++ d2)) (some g):=hrow.frame (fun g' hg' => by cases hg';exact hgb)
 have hfr:∀ b,b ∈ F1 ++ F2→w'.heap[b]? = w.heap[b]?:=by
  intro b hm
  refine hgr.block b (hlt b ?_) (fun e => (hog b e.symm).2 hm)
  rcases List.mem_append.1 hm with hm|hm
  ·simp [hm]
  ·simp [hm]
 exact ⟨hK _ [h0] ys og.toList rfl (hr'.ownI hyb) hfr hrow1 hnd,(ChgF.of_grown hgr).mono (fun b hb => by simp [Option.mem_toList.1 hb])⟩
theorem markF_II (v:Value) (xs:List (List Int)) (F:List Nat) (k0:Int) (w:World) (h:jT (RS (RS RI)) F w [v] xs) (hk0:0 ≤ k0) (hk:k0 + yE xs ≤ 4611686018427387904) :
  Calls Tryz.prog 79 #[v,.int .i64 k0] w fun e w' => e = .returned (.int .i64 (k0 + (yE xs:Nat)))∧jT (RS (RS RI)) F w' [v] (yF xs k0)∧ChgF F w w':=by
 obtain ⟨oa,cap,rfl,m1,m2⟩:=h.rd.val
 unfold maxLen at m2
 have H0:=Lib.hid h
 unfold yE at hk
 clear h
 go_enter Tryz.func79,Tryz.ntmps79
 go_wp2_with fail
 go_loopw [1,5] (fun q i wr => ∃ (k:Nat) (z:List (List Int)),k ≤ xs.length∧i = .int .i64 k∧q = .int .i64 (k0 + (qQ (xs.take k):Nat))∧Hid (z = (yF xs k0).take k ++ xs.drop k)∧Hid (jT (RS (RS RI)) F wr [.slice oa xs.length cap] z∧ChgF F w wr)) (fun _ i _ => xs.length - (intOf i).toNat)
 case atStart => exact ⟨0,xs,Nat.zero_le _,rfl,by simp [qQ],Lib.hid (by simp),Lib.hid ⟨H0.out,ChgF.refl _ _⟩⟩
 case round =>
  obtain ⟨k,z,hkl,rfl,rfl,hz,hown⟩:=hrel
  clear H0
  by_cases hlt:k < xs.length
  ·have hml:=qX0 xs k0
   have hzl:z.length = xs.length:=by rw [hz.out];simp [hml];omega
   obtain ⟨g,cap',u0,og,hv,_,_,hcell,hrow,hK⟩:=hown.out.1.innerRow k (by omega)
   rw [hzl] at hv
   simp only [Value.slice.injEq,true_and] at hv
   obtain ⟨rfl,rfl⟩:=hv
   have hzk:z[k]'(by omega) = xs[k]:=by
    simp only [hz.out]
    rw [List.getElem_append_right (by simp [hml];omega)]
    simp [List.getElem_drop,hml]
    congr 1;omega
   rw [hzk] at hrow hK
   have hst:=jD0 xs k hlt
   have hle:=qY0 xs (k + 1)
   have hset:z.set k (marks xs[k].length (k0 + (qQ (xs.take k):Nat))) = (yF xs k0).take (k + 1) ++ xs.drop (k + 1):=by
    rw [hz.out,List.set_append_right _ _ (by simp [hml];omega)]
    have e:k - ((yF xs k0).take k).length = 0:=by simp [hml];omega
    rw [e,List.drop_eq_getElem_cons hlt,List.set_cons_zero,List.take_succ_eq_append_getElem (by rw [hml];exact hlt),mkd_II_get xs k0 k hlt]
    simp
   obtain ⟨n,hn⟩:∃ n,n = qQ (xs.take k):=⟨_,rfl⟩
   obtain ⟨x,hx⟩:∃ x,x = xs[k]:=⟨_,rfl⟩
   rw [← hn,← hx] at hset hst
   rw [← hx] at hrow hK
   rw [← hn]
   obtain ⟨ou,cu,rfl,_⟩:=hrow.val
   have hbd2:k0 + (n:Int) + (x.length:Int) ≤ 4611686018427387904:=by omega
   have hmk:=c_laws_markInt64S _ x.length x og (k0 + n) wr hrow (by omega) (by omega)
   have HK:=Lib.hid hK
   have HSET:=Lib.hid hset
   have HST:=Lib.hid hst
   have i1:(0:Int) ≤ (k:Int):=by omega
   have i2:(k:Int) < (xs.length:Int):=by omega
   clear hK hset hzk hzl hn hx hrow hml hst
   go_wp2_with (go_at_call 144;refine hmk.mono ?_;rintro e w2 ⟨rfl,hr2,hg2⟩;obtain ⟨f1,f2⟩:=HK.out w2 (marks x.length (k0 + n)) hg2 (by simp [marks]) (marks_in64 _ _ (by omega) (by omega)) (by rw [vU];exact hr2);have HF:=Lib.hid (And.intro f1 (hown.out.2.trans f2));clear f1 f2 hr2 hg2)
   go_roundw
   case rel => exact ⟨k + 1,_,by omega,by go_num,by rw [HST.out];congr 1;omega,HSET,HF⟩
   case measure => simp [intOf];omega
  ·have hfin:Hid (z = yF xs k0):=Lib.hid (by rw [hz.out,List.take_of_length_le (by rw [qX0];omega),List.drop_of_length_le (by omega),List.append_nil])
   have hf2:xs.take k = xs:=List.take_of_length_le (by omega)
   rw [hf2]
   go_wp2_with fail
   go_ret
   exact ⟨rfl,hfin.out ▸ hown.out.1,hown.out.2⟩
end
section
theorem qU:Tryz.prog.follows .mixedOrders = true:=by kernel_rfl
section
variable {P:Program} {f:FuncId}
theorem rdLL {A:Nat→Prop} {w:World} {xs:List (List Int)} {v:Value} (h:xE A w (eLL xs) v):(RS (RS RI)).rd A w [v] xs:=((encS (encS encI)).rdV (x:=xs) rfl).2 h
theorem arg_int {A:Nat→Prop} {w:World} {n:Int} {v:Value} (h:xE A w (eI n) v):v = .int .i64 n:=(jW.1 h).1
theorem afn_L_s {t:List Int} {d:D} {v:Value} (eg:∀ args w,(callFunc f args).run P w = .ok (.enter f args) w) (hd:∀ A w,rdV A w v d) (h:∀ u w,Rd (RS RI) w [u] t→Calls P f #[u] w (jD w v)):AFn P f [eL t] (· = [.val d]) :=
 AFn.of_s eg hd (fun w A vs ⟨v1,_,e1,h1,e2⟩ => by subst e2;subst e1;exact h v1 w (Rd.of (rd1 h1)))
theorem afn_L_q {t:List Int} {d:D} {v:Value} (eg:∀ args w,(callFunc f args).run P w = .ok (.enter f args) w) (hd:∀ A w,rdV A w v d) (h:∀ u w,Rd (RS RI) w [u] t→Calls P f #[u] w (RetQ w v)):AFn P f [eL t] (· = [.val d]) :=
 AFn.of_q eg hd (fun w A vs ⟨v1,_,e1,h1,e2⟩ => by subst e2;subst e1;exact h v1 w (Rd.of (rd1 h1)))
theorem afn_LL_q {s t:List Int} {d:D} {v:Value} (eg:∀ args w,(callFunc f args).run P w = .ok (.enter f args) w) (hd:∀ A w,rdV A w v d) (h:∀ u1 u2 w,Rd (RS RI) w [u1] s→Rd (RS RI) w [u2] t→Calls P f #[u1,u2] w (RetQ w v)):AFn P f [eL s,eL t] (· = [.val d]) :=
 AFn.of_q eg hd (fun w A vs ⟨v1,_,e1,h1,v2,_,e2,h2,e3⟩ => by subst e3;subst e2;subst e1;exact h v1 v2 w (Rd.of (rd1 h1)) (Rd.of (rd1 h2)))
theorem afn_L_o {t r:List Int} (eg:∀ args w,(callFunc f args).run P w = .ok (.enter f args) w) (h:∀ u w,Rd (RS RI) w [u] t→Calls P f #[u] w (RetO (RS RI) w r)):AFn P f [eL t] (· = [.own 1 (r.map eI) true]) :=
 AFn.of_o encI eg (fun w A vs ⟨v1,_,e1,h1,e2⟩ => by subst e2;subst e1;exact h v1 w (Rd.of (rd1 h1)))
theorem afn_L_oo {t:List Int} {r:List (List Int)} (eg:∀ args w,(callFunc f args).run P w = .ok (.enter f args) w) (h:∀ u w,Rd (RS RI) w [u] t→Calls P f #[u] w (RetO (RS (RS RI)) w r)):AFn P f [eL t] (· = [.own 1 (r.map eL) true]) :=
 AFn.of_o (encS encI) eg (fun w A vs ⟨v1,_,e1,h1,e2⟩ => by subst e2;subst e1;exact h v1 w (Rd.of (rd1 h1)))
theorem afn_LLL_oo {t r:List (List Int)} (eg:∀ args w,(callFunc f args).run P w = .ok (.enter f args) w) (h:∀ u w,Rd (RS (RS RI)) w [u] t→Calls P f #[u] w (RetO (RS (RS RI)) w r)):AFn P f [eLL t] (· = [.own 1 (r.map eL) true]) :=
 AFn.of_o (encS encI) eg (fun w A vs ⟨v1,_,e1,h1,e2⟩ => by subst e2;subst e1;exact h v1 w (Rd.of (rdLL h1)))
theorem afn_LLL_o {t:List (List Int)} {r:List Int} (eg:∀ args w,(callFunc f args).run P w = .ok (.enter f args) w) (h:∀ u w,Rd (RS (RS RI)) w [u] t→Calls P f #[u] w (RetO (RS RI) w r)):AFn P f [eLL t] (· = [.own 1 (r.map eI) true]) :=
 AFn.of_o encI eg (fun w A vs ⟨v1,_,e1,h1,e2⟩ => by subst e2;subst e1;exact h v1 w (Rd.of (rdLL h1)))
theorem afn_LLL_s {t:List (List Int)} {d:D} {v:Value} (eg:∀ args w,(callFunc f args).run P w = .ok (.enter f args) w) (hd:∀ A w,rdV A w v d) (h:∀ u w,Rd (RS (RS RI)) w [u] t→Calls P f #[u] w (jD w v)):AFn P f [eLL t] (· = [.val d]) :=
 AFn.of_s eg hd (fun w A vs ⟨v1,_,e1,h1,e2⟩ => by subst e2;subst e1;exact h v1 w (Rd.of (rdLL h1)))
theorem afn_III_s {x y z:Int} {d:D} {v:Value} (eg:∀ args w,(callFunc f args).run P w = .ok (.enter f args) w) (hd:∀ A w,rdV A w v d) (h:∀ w,Calls P f #[.int .i64 x,.int .i64 y,.int .i64 z] w (jD w v)):AFn P f [eI x,eI y,eI z] (· = [.val d]) :=
 AFn.of_s eg hd (fun w A vs ⟨v1,_,e1,h1,v2,_,e2,h2,v3,_,e3,h3,e4⟩ => by subst e4;subst e3;subst e2;subst e1;rw [arg_int h1,arg_int h2,arg_int h3];exact h w)
theorem afn_I_s {x:Int} {d:D} {v:Value} (eg:∀ args w,(callFunc f args).run P w = .ok (.enter f args) w) (hd:∀ A w,rdV A w v d) (h:∀ w,Calls P f #[.int .i64 x] w (jD w v)):AFn P f [eI x] (· = [.val d]) :=
 AFn.of_s eg hd (fun w A vs ⟨v1,_,e1,h1,e2⟩ => by subst e2;subst e1;rw [arg_int h1];exact h w)
end
def Rg {α:Type} (R:Rep α) (lo hi:Nat) (w:World) (cs:List Value) (x:α):Prop:=R.rd (fun b => lo ≤ b∧b < hi) w cs x
theorem Rg.rd {α:Type} {R:Rep α} {lo hi:Nat} {w:World} {cs:List Value} {x:α} (h:Rg R lo hi w cs x):Rd R w cs x:=R.rd_mono h (fun _ _ h => h)
theorem Rg.frame {α:Type} {R:Rep α} {lo hi:Nat} {w w':World} {cs:List Value} {x:α} (h:Rg R lo hi w cs x) (hf:∀ b,lo ≤ b→b < hi→b < w.heap.size→w'.heap[b]? = w.heap[b]?):Rg R lo hi w' cs x:=R.rd_frame h (fun b hb hl => hf b hb.1 hb.2 hl)
theorem Rg.below {α:Type} {R:Rep α} {lo hi B:Nat} {w w':World} {cs:List Value} {x:α} (h:Rg R lo hi w cs x) (hb:Below B w w') (hB:hi ≤ B):Rg R lo hi w' cs x:=h.frame (fun b _ h2 _ => hb.block b (by omega))
theorem Rg.apart {α:Type} {R:Rep α} {w w':World} {cs:List Value} {x:α} {lo hi l h:Nat} (o:Rg R l h w cs x) (c:Chg lo hi w w') (ha:h ≤ lo ∨ hi ≤ l):Rg R l h w' cs x:=o.frame (fun b h1 h2 h3 => c.block b h3 (by omega))
def RetOI {α:Type} (R:Rep α) (w:World) (x:α) (c:Int):Ending→World→Prop:=fun e w' => ∃ u,e = .returned (.tuple #[u,.int .i64 c])∧Own R w.heap.size w'.heap.size w' [u] x∧Below w.heap.size w w'
def RetGI {α:Type} (R:Rep α) (w:World) (x:α) (c:Int):Ending→World→Prop:=fun e w' => ∃ u,e = .returned (.tuple #[u,.int .i64 c])∧Rg R 0 w'.heap.size w' [u] x∧Below w.heap.size w w'
section
variable {P:Program} {f:FuncId} {α:Type} {R:Rep α} {e:α→List D}
theorem AFn.oi (E:Enc R e) {ds:List (List D)} {xs:List α} {c:Int} (h:AFn P f ds (· = [.own R.k (xs.map e) true,.val (.int c)])) {w:World} {vs:List Value} (hv:qH (· < w.heap.size) w ds vs) :
  Calls P f vs.toArray w (RetOI (RS R) w xs c):=by
 refine (h.fn _ w vs (fun _ h => h) hv).mono ?_
 rintro e' w' ⟨v,rs,rfl,rfl,hb,us,G,X,rfl,hG,hG2,u,us',G1,G2,Y1,Y2,rfl,rfl,rfl,h1,⟨og,cap,F,dd,rfl,hrow,hk,rfl,rfl,hel⟩,u2,us2,G3,G4,Y3,Y4,rfl,rfl,rfl,h2,⟨h3,rfl,rfl⟩,rfl,rfl,rfl⟩
 obtain ⟨rfl,_⟩:=jW.1 h3
 obtain ⟨d,hk',hel⟩:=hel
 simp only [List.length_map] at hrow
 have hel':=jA0 E hel
 refine ⟨_,rfl,⟨og.toList ++ F,⟨slv og xs.length cap,og,dd,F,by rw [List.length_map],hrow,hel',rfl⟩,?_,fun b hb' => ⟨hG2 b (by simpa using hb'),?_⟩⟩,hb⟩
 ·simpa using hG
 ·rcases List.mem_append.1 hb' with hb'|hb'
  ·exact hrow.lt b (by simpa using hb')
  ·exact hel'.lt b hb'
theorem AFn.gi (E:Enc R e) {ds:List (List D)} {xs:List α} {c:Int} {r:Res} (hr:r = .own R.k (xs.map e) true ∨ r = .own R.k (xs.map e) false ∨ r = .val (.sl R.k (xs.map e))) (h:AFn P f ds (· = [r,.val (.int c)])) {w:World} {vs:List Value} (hv:qH (· < w.heap.size) w ds vs) :
  Calls P f vs.toArray w (RetGI (RS R) w xs c):=by
 refine (h.fn _ w vs (fun _ h => h) hv).mono ?_
 rintro e' w' ⟨v,rs,rfl,rfl,hb,us,G,X,rfl,hG,hG2,u,us',G1,G2,Y1,Y2,rfl,rfl,rfl,h1,hr1,u2,us2,G3,G4,Y3,Y4,rfl,rfl,rfl,h2,⟨h3,rfl,rfl⟩,rfl,rfl,rfl⟩
 obtain ⟨rfl,_⟩:=jW.1 h3
 refine ⟨u,rfl,?_,hb⟩
 have key:rdV (fun b => 0 ≤ b∧b < w'.heap.size) w' u (.sl R.k (xs.map e)):=by
  rcases hr with rfl|rfl|rfl
  ·obtain ⟨og,cap,F,dd,rfl,hrow,hk,_,_,hel⟩:=hr1
   have hel:ownR R.k w' dd (xs.map e) F:=hel
   have:=kV.2 ⟨og,dd,F,hrow,hel,rfl⟩
   exact this.rd.mono (fun b hb _ => ⟨Nat.zero_le _,this.lt b hb⟩)
  ·obtain ⟨og,cap,F,dd,rfl,hrow,hk,_,_,hel⟩:=hr1
   have hel:rdR R.k _ w' dd (xs.map e):=hel
   obtain ⟨oa,c',ev,k1,k2,k3,k4⟩:=hrow.value
   rw [ev]
   refine xJ.2 ⟨oa,c',dd,rfl,k1,k2,k3,hel.mono (fun b _ hb => ⟨Nat.zero_le _,hb⟩),?_⟩
   cases og with
   | none =>
    left
    have h0:=hrow.len0
    exact List.eq_nil_of_length_eq_zero (by rw [hrow.1,h0,Nat.zero_mul])
   | some g =>
    refine .inr ⟨g,0,k4,⟨Nat.zero_le _,hrow.lt g rfl⟩,fun j u hj => ?_⟩
    rw [Nat.zero_add]
    exact hrow.cells j u hj
  ·exact hr1.1.mono (fun b _ hb => ⟨Nat.zero_le _,hb⟩)
 exact ((encS E).rdV (x:=xs) rfl).2 key
theorem AFn.one {ds:List (List D)} {v:Value} {d:D} (hd:∀ A w u,rdV A w u d→u = v) (h:AFn P f ds (· = [.val d])) {w:World} {vs:List Value} (hv:qH (· < w.heap.size) w ds vs) :
  Calls P f vs.toArray w (RetV w v):=by
 refine (h.fn _ w vs (fun _ h => h) hv).mono ?_
 rintro e' w' ⟨v',rs,rfl,rfl,hb,us,G,X,rfl,hG,hG2,u,us',G1,G2,Y1,Y2,rfl,rfl,rfl,h1,⟨h4,_,_⟩,rfl,rfl,rfl⟩
 rw [hd _ _ _ h4]
 exact ⟨rfl,hb⟩
theorem arg_I {w:World} {n:Int} (h:qC n):xE (· < w.heap.size) w (eI n) (.int .i64 n):=jW.2 ⟨rfl,h⟩
theorem args1 {w:World} {a:List D} {u:Value} (h:xE (· < w.heap.size) w a u):qH (· < w.heap.size) w [a] [u]:=⟨u,[],rfl,h,rfl⟩
theorem args2 {w:World} {a b:List D} {u v:Value} (h:xE (· < w.heap.size) w a u) (k:xE (· < w.heap.size) w b v):qH (· < w.heap.size) w [a,b] [u,v]:=⟨u,[v],rfl,h,args1 k⟩
end
end
section
theorem a_l03Before (xs ys:List Int):AFn Tryz.prog 129 [eL xs,eL ys] (· = [.val (.bool (decide (cmpT xs ys < 0)))]) :=
 AFn.of_q (v:=.bool _) (enters_of Tryz.func129 rfl rfl) (fun _ _ => jL.2 rfl) (fun w A vs ⟨v1,_,e1,h1,v2,_,e2,h2,e3⟩ => by subst e3;subst e2;subst e1;exact yN0 v1 v2 xs ys w (Rd.of (rd1 h1)) (Rd.of (rd1 h2)))
theorem a_l01Same (xs ys:List Int):AFn Tryz.prog 189 [eL xs,eL ys] (· = [.val (.bool (decide (xs = ys)))]) :=
 AFn.of_q (v:=.bool _) (enters_of Tryz.func189 rfl rfl) (fun _ _ => jL.2 rfl) (fun w A vs ⟨v1,_,e1,h1,v2,_,e2,h2,e3⟩ => by subst e3;subst e2;subst e1;exact c_spec_l01Same v1 v2 xs ys w (Rd.of (rd1 h1)) (Rd.of (rd1 h2)))
theorem a_l01Own (xs:List Int) (hsz:xs.length ≤ 1000000000):AFn Tryz.prog 133 [eL xs] (· = [.own 1 (xs.map eI) true]) :=
 AFn.of_o encI (enters_of Tryz.func133 rfl rfl) (fun w A vs ⟨v1,_,e1,h1,e2⟩ => by subst e2;subst e1;exact yU0 v1 xs w (Rd.of (rd1 h1)) hsz)
theorem cmpT_in64 {xs ys:List Int} (h1:xs.length ≤ maxLen) (h2:ys.length ≤ maxLen):qC (cmpT xs ys):=by
 unfold maxLen at h1 h2
 unfold cmpT qC
 have:=cmpL_range ys xs
 split <;> omega
theorem a_compareTrees (xs ys:List Int):AFn Tryz.prog 119 [eL xs,eL ys] (· = [.val (.int (cmpT xs ys))]):=by
 refine ⟨enters_of Tryz.func119 rfl rfl,fun A w vs hA ⟨v1,_,e1,h1,v2,_,e2,h2,e3⟩ => ?_⟩
 subst e3;subst e2;subst e1
 obtain ⟨oa,c1,k1,m1,m2⟩:=(Rd.of (rd1 h1)).val
 obtain ⟨ob,c2,k2,m3,m4⟩:=(Rd.of (rd1 h2)).val
 refine (qR0 v1 v2 xs ys w (Rd.of (rd1 h1)) (Rd.of (rd1 h2))).mono ?_
 rintro e w' ⟨rfl,rfl⟩
 exact ⟨_,_,rfl,rfl,Below.refl _ _,[_],[],[],rfl,List.nodup_nil,by simp,_,[],[],[],[],[],rfl,rfl,rfl,rfl,⟨jW.2 ⟨rfl,cmpT_in64 (by omega) (by omega)⟩,rfl,rfl⟩,rfl,rfl,rfl⟩
theorem a_impl_IsLevels (t:List Int):AFn Tryz.prog 57 [eL t] (· = [.val (.bool (lev8 t))]):=afn_L_s (v:=.bool _) (enters_of Tryz.func57 rfl rfl) (fun _ _ => jL.2 rfl) (fun u w h => c_impl_IsLevels u t w h)
theorem a_spec_l03Is (t:List Int) (hsz:t.length ≤ 1048576):AFn Tryz.prog 188 [eL t] (· = [.val (.bool (lev8 t))]):=afn_L_q (v:=.bool _) (enters_of Tryz.func188 rfl rfl) (fun _ _ => jL.2 rfl) (fun u w h => c_spec_l03Is u t w h (by omega))
theorem a_slicesEqual (xs ys:List Int):AFn Tryz.prog 180 [eL xs,eL ys] (· = [.val (.bool (decide (xs = ys)))]):=afn_LL_q (v:=.bool _) (enters_of Tryz.func180 rfl rfl) (fun _ _ => jL.2 rfl) (fun u1 u2 w h1 h2 => c_slicesEqual u1 u2 xs ys w h1 h2)
theorem a_spec_l01In (x y z:Int):AFn Tryz.prog 135 [eI x,eI y,eI z] (· = [.val (.bool (inR x y z))]):=afn_III_s (v:=.bool _) (enters_of Tryz.func135 rfl rfl) (fun _ _ => jL.2 rfl) (fun w => jR0 x y z w)
theorem a_l03Canon (t:List Int) (h:qY t) (hl:t.length ≤ 8):AFn Tryz.prog 186 [eL t] (· = [.own 1 ((canon t).map eI) true]) :=
 afn_L_o (enters_of Tryz.func186 rfl rfl) (fun u w h' => yP0 8 u t w h' h hl (by omega))
theorem a_canonical (t:List Int) (h:qY t) (hl:t.length ≤ 8):AFn Tryz.prog 91 [eL t] (· = [.own 1 ((canon t).map eI) true]) :=
 afn_L_o (enters_of Tryz.func91 rfl rfl) (fun u w h' => xW0 8 u t w h' h hl (by omega))
theorem nodesB_in64 (f:List (List Int)):qC (jA f):=by
 have:∀ (bs:List (List Int)) (a:Int),qC a→qC (bs.foldl (fun a b => wrap64 (a + (b.length:Int))) a):=by
  intro bs
  induction bs with
  | nil => intro a h;exact h
  | cons b bs ih => intro a _;exact ih _ (by show qC (wrap64 (a + (b.length:Int)));unfold qC wrap64;omega)
 exact this f 0 (by unfold qC;omega)
theorem a_nodesIn (f:List (List Int)):AFn Tryz.prog 88 [eLL f] (· = [.val (.int (jA f))]) :=
 afn_LLL_s (enters_of Tryz.func88 rfl rfl) (fun _ _ => jW.2 ⟨rfl,nodesB_in64 f⟩) (fun u w h => yY0 u f w h)
theorem a_l03Nodes (f:List (List Int)):AFn Tryz.prog 130 [eLL f] (· = [.val (.int (jA f))]) :=
 afn_LLL_s (enters_of Tryz.func130 rfl rfl) (fun _ _ => jW.2 ⟨rfl,nodesB_in64 f⟩) (fun u w h => c_spec_l03Nodes u f w h)
end
end Go.Proofs.YtedgfkpfhonlpaaGreat

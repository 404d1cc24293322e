/- Lemmas (7). -/
import Derived.Deep.RegionLaw
import Derived.Lib.SliceRun
import Derived.Test.YtedgfkpfhonlpaaGreatZI4
import Derived.Test.YtedgfkpfhonlpaaGreatZI5
import Derived.Test.YtedgfkpfhonlpaaGreatZI6
set_option maxHeartbeats 16000000
set_option maxRecDepth 100000
set_option linter.unusedSimpArgs false
set_option linter.unusedVariables false
namespace Go.Proofs.YtedgfkpfhonlpaaGreat
open Go.RowKit
section
theorem sortC_take_succ {t:List (List Int)} (f:List Int→List Int) (k:Nat) (h:k < t.length):sortC cmpD ((t.take (k + 1)).map f) = ins cmpD (f t[k]) (sortC cmpD ((t.take k).map f)):=by
 rw [List.take_succ_eq_append_getElem h,List.map_append,List.map_cons,List.map_nil,sortC_snoc]
theorem yS0:∀ (n:Nat) (v:Value) (t:List Int) (w:World),Rd (RS RI) w [v] t→qW t→t.length ≤ n→t.length ≤ 1000000 →
  Calls Tryz.prog 186 #[v] w (RetO (RS RI) w (canon t)):=by
 intro n
 induction n with
 | zero => intro v t w h hl hn h13;have:=hl.pos;omega
 | succ n ih =>
  intro v t w h hl hn h13
  have hb:=yJ0 v t w h hl (by omega)
  have HL:=Lib.hid hl
  have IH:=Lib.hid ih
  have hfew:=brs_few hl
  have hbl:(brs t).length ≤ 1000000:=by omega
  clear h hl ih
  go_enter Tryz.func186,Tryz.ntmps186
  go_wp2_with (go_at_call 230;refine hb.mono ?_;rintro e w1 ⟨u,rfl,o1,b1⟩;obtain ⟨oa,cap,rfl,l1,l2⟩:=o1.val)
  clear hb
  have hsz1:=b1.size
  have hO1:Hid (Own (RS (RS RI)) w.heap.size w1.heap.size w1 [.slice oa (brs t).length cap] (brs t)):=o1
  clear o1
  go_loopw [4,5] (fun o i wr => ∃ (k:Nat) (ys:List (List Int)),k ≤ (brs t).length∧i = .int .i64 k∧Hid (ys = sortC cmpD (((brs t).take k).map canon))∧Hid (ys.length = k)∧(∃ g cap,o = .slice (some ⟨g,0,none⟩) ys.length cap)∧Hid (Own (RS (RS RI)) w1.heap.size wr.heap.size wr [o] ys)∧Below w1.heap.size w1 wr) (fun _ i _ => (brs t).length - (intOf i).toNat)
  case atStart => exact ⟨0,[],Nat.zero_le _,rfl,Lib.hid (by simp [sortC]),Lib.hid rfl,⟨_,_,rfl⟩,Lib.hid ((Own.empty (R:=RS RI) (w:=w1) 24 w1.heap.size (Nat.le_refl _)).top _ (by simp)),(Below.refl _ _).alloc (Nat.le_refl _) _⟩
  case round =>
   obtain ⟨k,ys,hk,rfl,hys,Hyl,⟨g0,cap0,rfl⟩,hown,hbel⟩:=hrel
   have hsz2:=hbel.size
   obtain ⟨wo,hwo⟩:∃ wo:World,wo = wr:=⟨_,rfl⟩
   subst hwo
   by_cases hlt:k < (brs t).length
   ·have hO2:=hO1.out.below hbel (Nat.le_refl _)
    obtain ⟨g,cap',h0,hv,q1,q2,hg1,hg2,hcell,hel⟩:=hO2.elem k hlt
    simp only [Value.slice.injEq,true_and] at hv
    obtain ⟨rfl,rfl⟩:=hv
    obtain ⟨oi,ci,rfl,_⟩:=hel.val
    have hmem:=List.getElem_mem hlt
    have hshort:=yE HL.out _ hmem
    have hc:=IH.out (.slice oi (brs t)[k].length ci) (brs t)[k] wo hel.rd (jC HL.out _ hmem) (by omega) (by omega)
    have hst:=sortC_take_succ canon k hlt
    rw [← hys.out] at hst
    have HST:=Lib.hid hst
    obtain ⟨x,hx⟩:∃ x,x = canon (brs t)[k]:=⟨_,rfl⟩
    rw [← hx] at hc HST
    obtain ⟨xl,hxl⟩:∃ xl,xl = (brs t)[k].length:=⟨_,rfl⟩
    rw [← hxl] at hc hcell hshort
    have HX:=Lib.hid hx
    clear hst hel hmem hO2 hxl hx
    go_wp2_with (go_at_call 186;refine hc.mono ?_;rintro e w2 ⟨u,rfl,o2,b2⟩;obtain ⟨ou,cu,rfl,lu1,lu2⟩:=o2.val)
    have hown2:=hown.out.below b2 (Nat.le_refl _)
    have HO2:=Lib.hid hown2
    have HP:=Lib.hid o2
    have hbel2:=hbel.trans (b2.mono hsz2)
    have hsz3:=b2.size
    clear hown2 o2 hc hcell hown b2
    go_loopw [7] (fun i wr => ∃ (j:Nat),j ≤ ys.length∧i = .int .i64 j∧Hid (∀ q (h:q < ys.length),q < j→¬ cmpD x ys[q] < 0)∧∃ n,wr = w2.drewN n) (fun i _ => ys.length - (intOf i).toNat)
    case atStart => exact ⟨0,Nat.zero_le _,rfl,Lib.hid (fun q _ h => by omega),0,rfl⟩
    case round =>
     obtain ⟨j,hj,rfl,hall,nd,rfl⟩:=hrel
     have HO3:Hid (Own (RS (RS RI)) w1.heap.size wo.heap.size (w2.drewN nd) [.slice (some ⟨g0,0,none⟩) ys.length cap0] ys):=HO2.out.of_heap rfl
     have HP3:Hid (Own (RS RI) wo.heap.size w2.heap.size (w2.drewN nd) [.slice ou x.length cu] x):=HP.out.of_heap rfl
     have hbel3:Below w1.heap.size w1 (w2.drewN nd):=hbel2.trans (Below.drewN _ _ _)
     have hsz4:w2.heap.size = (w2.drewN nd).heap.size:=rfl
     by_cases hjl:j < ys.length
     ·obtain ⟨g',cap',h0,hv,q1',q2',hg1',hg2',hcell,hel⟩:=HO3.out.elem j hjl
      simp only [Value.slice.injEq,true_and] at hv
      obtain ⟨e1,e2⟩:=hv
      simp only [Option.some.injEq,Addr.mk.injEq,and_true] at e1
      subst e1;subst e2
      obtain ⟨oj,cj,rfl,_⟩:=hel.val
      have hls:=xJ0 _ _ ys[j] x (w2.drewN nd) hel.rd HP3.out.rd
      obtain ⟨yl,hyl'⟩:∃ yl,yl = ys[j].length:=⟨_,rfl⟩
      rw [← hyl'] at hls hcell
      clear hel hyl'
      by_cases hle:cmpL ys[j] x < 0
      ·have hd:decide (cmpL ys[j] x < 0) = true:=decide_eq_true hle
       rw [hd] at hls
       have HE:Hid (ins cmpD x ys = ys.take j ++ x :: ys.drop j):=Lib.hid (ins_at hj hall.out (fun _ => hle))
       clear hd hle
       go_wp2_with (first|(go_at_call 190;refine hls.mono ?_;rintro e w' ⟨rfl,nn,rfl⟩)|(at_builtin;refine yO (o:=⟨some 46,_,_,_,_,_⟩) ?_))
       refine jB.go ?_
       have HO4:Own (RS (RS RI)) w1.heap.size wo.heap.size (w2.drewN (nd + nn)) [.slice (some ⟨g0,0,none⟩) ys.length cap0] ys:=HO2.out.of_heap rfl
       have HP4:Own (RS RI) wo.heap.size w2.heap.size (w2.drewN (nd + nn)) [.slice ou x.length cu] x:=HP.out.of_heap rfl
       have hbel4:Below w1.heap.size w1 (w2.drewN (nd + nn)):=hbel2.trans (Below.drewN _ _ _)
       have hsz5:wo.heap.size ≤ (w2.drewN (nd + nn)).heap.size:=hsz3
       have hle4:=HO4.val
       obtain ⟨d1,d2,t1l,t2l,t1,t2,t3,hcl,hmk⟩:=HO4.insRow (R:=RS RI) rfl hsz5 hsz2 HP4 j hj
       rw [← HE.out,← HST.out] at hmk
       obtain ⟨_,_,ev,le4,_⟩:=hle4
       simp only [Value.slice.injEq,true_and] at ev
       obtain ⟨rfl,rfl⟩:=ev
       have hyb:ys.length ≤ 1000000:=by rw [Hyl.out];omega
       have T1L:=Lib.hid t1l
       have T2L:=Lib.hid t2l
       have ELN:1 + (ys.length - j) = 1 + d2.length:=by omega
       clear hls hcell HO3 HP3 hbel3 hsz4 t1l t2l
       refine xB rfl _ _ 36 rfl 24 (.slice none 0 0) 1 24 tI64S (.slice (some ⟨(w2.drewN (nd + nn)).heap.size,0,none⟩) 1 1) 1 [(.slice ou x.length cu)] (some (w2.drewN (nd + nn)).heap.size) rfl (by simpa using Row.lit (w2.drewN (nd + nn)) #[(.slice ou x.length cu)] 24 1 1 (by decide) (by simp)) _ _ _ d2 rfl (by have:=T2L.out;omega) (by intro h;cases h) (by intro a ha i u hi;cases ha;rw [Addr.add_lit];exact (hcl ((w2.drewN (nd + nn)).alloc _) ((Below.refl _ _).alloc (Nat.le_refl _) _)).2 i u hi) t2 (by have:=T2L.out;omega) (by unfold maxLen;omega) ?_
       intro vA wA ogA happA
       rw [ELN] at happA
       obtain ⟨oA,capA,rfl,pA1,pA2⟩:=happA.1.val
       unfold maxLen at pA2
       have lowA:=happA.low (B:=(w2.drewN (nd + nn)).heap.size) (by simp) (fun g hg => by cases hg;exact Nat.le_refl _)
       have belA:Below (w2.drewN (nd + nn)).heap.size (w2.drewN (nd + nn)) wA:=((Below.refl _ _).alloc (Nat.le_refl _) _).trans lowA.2
       have sA:=belA.size
       have HA:=Lib.hid happA.1
       have HogA:=Lib.hid lowA.1
       have CA:=(hcl wA belA).1
       clear happA lowA ELN
       go_wp2_with (at_builtin;refine yO (o:=⟨some 51,_,_,_,_,_⟩) ?_)
       refine jB.go ?_
       refine xB rfl _ _ 36 rfl 24 (.slice none 0 0) 1 24 tI64S (.slice (some ⟨wA.heap.size,0,none⟩) 0 0) 0 [] (some wA.heap.size) rfl (by simpa using Row.lit wA #[] 24 1 0 (by decide) (by simp)) (some ⟨g0,0,none⟩) j _ d1 rfl (by have:=T1L.out;omega) (fun h => by cases h) (by intro a ha i u hi;cases ha;rw [Addr.add_lit,Nat.zero_add];have:=(hcl (wA.alloc (.cells #[] 24)) (belA.alloc sA _)).1 i u hi;exact this) t1 (by have:=T1L.out;omega) (by unfold maxLen;omega) ?_
       intro vB wB ogB happB
       rw [Nat.zero_add,List.nil_append] at happB
       obtain ⟨oB,capB,rfl,pB1,pB2⟩:=happB.1.val
       unfold maxLen at pB2
       have lowB:=happB.low (B:=(w2.drewN (nd + nn)).heap.size) (Nat.le_trans sA (by simp)) (fun g hg => by cases hg;exact sA)
       have lowB2:=happB.low (B:=wA.heap.size) (by simp) (fun g hg => by cases hg;exact Nat.le_refl _)
       have belB2:Below wA.heap.size wA wB:=((Below.refl _ _).alloc (Nat.le_refl _) _).trans lowB2.2
       have belB:Below (w2.drewN (nd + nn)).heap.size (w2.drewN (nd + nn)) wB:=belA.trans (belB2.mono sA)
       have sB:=belB.size
       have hrA:Row wB (.slice oA (1 + d2.length) capA) 1 (1 + d2.length) ([(.slice ou x.length cu)] ++ d2) ogA:=HA.out.frame (fun g hg => belB2.block g (HA.out.lt g hg))
       obtain ⟨gA,hgA⟩:=hrA.some_of (j:=0) (by omega)
       subst hgA
       obtain ⟨oA',cA',eA,_,_,_,eA2⟩:=hrA.value
       simp only [Value.slice.injEq,true_and] at eA
       obtain ⟨rfl,rfl⟩:=eA
       simp only [Option.map_some] at eA2
       subst eA2
       have HRA:=Lib.hid hrA
       have HB:=Lib.hid happB.1
       have HogB:=Lib.hid lowB.1
       clear hrA happB lowB lowB2 CA
       go_wp2_with (at_builtin;refine yO (o:=⟨some 53,_,_,_,_,_⟩) ?_)
       refine jB.go ?_
       refine xB rfl _ _ 36 rfl 24 (.slice none 0 0) 1 24 tI64S (.slice oB j capB) j d1 ogB rfl HB.out (some ⟨gA,0,none⟩) _ _ ([(.slice ou x.length cu)] ++ d2) rfl (by simp <;> omega) (fun h => by cases h) (by intro a ha i u hi;cases ha;rw [Addr.add_lit,Nat.zero_add];exact HRA.out.cells i u hi) (fun u hu => (List.mem_append.1 hu).elim (fun h => by simp at h;subst h;exact t3) (t2 u)) (by have:=T2L.out;omega) (by have:=T2L.out;unfold maxLen;omega) ?_
       intro vC wC ogC happC
       have lowC:=happC.low (B:=(w2.drewN (nd + nn)).heap.size) sB HogB.out
       have belC:Below (w2.drewN (nd + nn)).heap.size (w2.drewN (nd + nn)) wC:=belB.trans lowC.2
       have hrC:=happC.1
       have eN:j + (1 + d2.length) = ys.length + 1:=by have:=T1L.out;have:=T2L.out;omega
       rw [eN,List.singleton_append] at hrC
       have hfin:=hmk wC vC ogC belC hrC lowC.1
       obtain ⟨gC,hgC⟩:=hrC.some_of (j:=0) (by omega)
       subst hgC
       obtain ⟨capC,hvC,_,_⟩:=hrC.slice
       subst hvC
       have HFIN:=Lib.hid hfin
       clear hfin hrC happC lowC HA HB HRA HogA HogB eN
       have hfl:(sortC cmpD (((brs t).take (k + 1)).map canon)).length = ys.length + 1:=by rw [vT];simp;rw [Hyl.out];omega
       obtain ⟨zs,hzs⟩:∃ zs,zs = sortC cmpD (((brs t).take (k + 1)).map canon):=⟨_,rfl⟩
       rw [← hzs] at HFIN hfl
       have hkz:zs.length = k + 1:=by rw [hfl,Hyl.out]
       rw [← hfl] at HFIN
       rw [← hfl]
       have HZ:=Lib.hid hzs
       have HKZ:=Lib.hid hkz
       clear hzs hfl hkz
       go_wp2_with fail
       go_roundw
       case rel => exact ⟨k + 1,zs,by omega,by go_num,HZ,HKZ,⟨_,_,rfl⟩,HFIN,hbel4.trans (belC.mono (by omega))⟩
       case measure => simp [intOf];omega
      ·have hd:decide (cmpL ys[j] x < 0) = false:=decide_eq_false hle
       rw [hd] at hls
       have HN:Hid (¬ cmpD x ys[j] < 0):=Lib.hid hle
       clear hd hle
       go_wp2_with (go_at_call 190;refine hls.mono ?_;rintro e w' ⟨rfl,nn,rfl⟩)
       go_roundw
       case rel =>
        refine ⟨j + 1,by omega,by go_num,Lib.hid (fun q h hq => ?_),(by first|exact yP _ _|exact xQ _ _ _)⟩
        by_cases hqj:q = j
        ·subst hqj;have:=HN.out;omega
        ·have:=hall.out q h (by omega);omega
       case measure => simp [intOf];omega
     ·obtain rfl:j = ys.length:=by omega
      have HE:Hid (ins cmpD x ys = ys.take ys.length ++ x :: ys.drop ys.length):=Lib.hid (ins_at hj hall.out (fun h => by omega))
      go_wp2_with (at_builtin;refine yO (o:=⟨some 46,_,_,_,_,_⟩) ?_)
      all_goals
       refine jB.go ?_
       have HO4:Own (RS (RS RI)) w1.heap.size wo.heap.size (w2.drewN nd) [.slice (some ⟨g0,0,none⟩) ys.length cap0] ys:=HO2.out.of_heap rfl
       have HP4:Own (RS RI) wo.heap.size w2.heap.size (w2.drewN nd) [.slice ou x.length cu] x:=HP.out.of_heap rfl
       have hbel4:Below w1.heap.size w1 (w2.drewN nd):=hbel2.trans (Below.drewN _ _ _)
       have hsz5:wo.heap.size ≤ (w2.drewN nd).heap.size:=hsz3
       have hle4:=HO4.val
       obtain ⟨d1,d2,t1l,t2l,t1,t2,t3,hcl,hmk⟩:=HO4.insRow (R:=RS RI) rfl hsz5 hsz2 HP4 ys.length hj
       rw [← HE.out,← HST.out] at hmk
       obtain ⟨_,_,ev,le4,_⟩:=hle4
       simp only [Value.slice.injEq,true_and] at ev
       obtain ⟨rfl,rfl⟩:=ev
       have hyb:ys.length ≤ 1000000:=by rw [Hyl.out];omega
       have T1L:=Lib.hid t1l
       have T2L:=Lib.hid t2l
       have hd2:d2 = []:=List.eq_nil_of_length_eq_zero (by omega)
       subst hd2
       clear HO3 HP3 hbel3 hsz4 t1l t2l
       refine xB rfl _ _ 36 rfl 24 (.slice none 0 0) 1 24 tI64S (.slice (some ⟨(w2.drewN nd).heap.size,0,none⟩) 1 1) 1 [(.slice ou x.length cu)] (some (w2.drewN nd).heap.size) rfl (by simpa using Row.lit (w2.drewN nd) #[(.slice ou x.length cu)] 24 1 1 (by decide) (by simp)) _ _ _ ([]:List Value) rfl (by simp) (fun _ => rfl) (by intro a ha i u hi;simp at hi) t2 (by have:=T2L.out;omega) (by unfold maxLen;omega) ?_
       intro vA wA ogA happA
       rw [show 1 + (0:Nat) = 1 + ([]:List Value).length by rfl] at happA
       obtain ⟨oA,capA,rfl,pA1,pA2⟩:=happA.1.val
       unfold maxLen at pA2
       have lowA:=happA.low (B:=(w2.drewN nd).heap.size) (by simp) (fun g hg => by cases hg;exact Nat.le_refl _)
       have belA:Below (w2.drewN nd).heap.size (w2.drewN nd) wA:=((Below.refl _ _).alloc (Nat.le_refl _) _).trans lowA.2
       have sA:=belA.size
       have HA:=Lib.hid happA.1
       have HogA:=Lib.hid lowA.1
       have CA:=(hcl wA belA).1
       clear happA lowA
       go_wp2_with (at_builtin;refine yO (o:=⟨some 51,_,_,_,_,_⟩) ?_)
       refine jB.go ?_
       refine xB rfl _ _ 36 rfl 24 (.slice none 0 0) 1 24 tI64S (.slice (some ⟨wA.heap.size,0,none⟩) 0 0) 0 [] (some wA.heap.size) rfl (by simpa using Row.lit wA #[] 24 1 0 (by decide) (by simp)) (some ⟨g0,0,none⟩) ys.length _ d1 rfl (by have:=T1L.out;omega) (fun h => by cases h) (by intro a ha i u hi;cases ha;rw [Addr.add_lit,Nat.zero_add];have:=(hcl (wA.alloc (.cells #[] 24)) (belA.alloc sA _)).1 i u hi;exact this) t1 (by have:=T1L.out;omega) (by unfold maxLen;omega) ?_
       intro vB wB ogB happB
       rw [Nat.zero_add,List.nil_append] at happB
       obtain ⟨oB,capB,rfl,pB1,pB2⟩:=happB.1.val
       unfold maxLen at pB2
       have lowB:=happB.low (B:=(w2.drewN nd).heap.size) (Nat.le_trans sA (by simp)) (fun g hg => by cases hg;exact sA)
       have lowB2:=happB.low (B:=wA.heap.size) (by simp) (fun g hg => by cases hg;exact Nat.le_refl _)
       have belB2:Below wA.heap.size wA wB:=((Below.refl _ _).alloc (Nat.le_refl _) _).trans lowB2.2
       have belB:Below (w2.drewN nd).heap.size (w2.drewN nd) wB:=belA.trans (belB2.mono sA)
       have sB:=belB.size
       have hrA:Row wB (.slice oA (1 + ([]:List Value).length) capA) 1 (1 + ([]:List Value).length) ([(.slice ou x.length cu)] ++ ([]:List Value)) ogA:=HA.out.frame (fun g hg => belB2.block g (HA.out.lt g hg))
       obtain ⟨gA,hgA⟩:=hrA.some_of (j:=0) (by omega)
       subst hgA
       obtain ⟨oA',cA',eA,_,_,_,eA2⟩:=hrA.value
       simp only [Value.slice.injEq,true_and] at eA
       obtain ⟨rfl,rfl⟩:=eA
       simp only [Option.map_some] at eA2
       subst eA2
       have HRA:=Lib.hid hrA
       have HB:=Lib.hid happB.1
       have HogB:=Lib.hid lowB.1
       clear hrA happB lowB lowB2 CA
       go_wp2_with (at_builtin;refine yO (o:=⟨some 53,_,_,_,_,_⟩) ?_)
       refine jB.go ?_
       refine xB rfl _ _ 36 rfl 24 (.slice none 0 0) 1 24 tI64S (.slice oB ys.length capB) ys.length d1 ogB rfl HB.out (some ⟨gA,0,none⟩) _ _ ([(.slice ou x.length cu)] ++ ([]:List Value)) rfl (by simp <;> omega) (fun h => by cases h) (by intro a ha i u hi;cases ha;rw [Addr.add_lit,Nat.zero_add];exact HRA.out.cells i u hi) (fun u hu => (List.mem_append.1 hu).elim (fun h => by simp at h;subst h;exact t3) (t2 u)) (by have:=T2L.out;omega) (by have:=T2L.out;unfold maxLen;omega) ?_
       intro vC wC ogC happC
       have lowC:=happC.low (B:=(w2.drewN nd).heap.size) sB HogB.out
       have belC:Below (w2.drewN nd).heap.size (w2.drewN nd) wC:=belB.trans lowC.2
       have hrC:=happC.1
       have eN:ys.length + (1) = ys.length + 1:=by have:=T1L.out;have:=T2L.out;omega
       rw [eN,List.singleton_append] at hrC
       have hfin:=hmk wC vC ogC belC hrC lowC.1
       obtain ⟨gC,hgC⟩:=hrC.some_of (j:=0) (by omega)
       subst hgC
       obtain ⟨capC,hvC,_,_⟩:=hrC.slice
       subst hvC
       have HFIN:=Lib.hid hfin
       clear hfin hrC happC lowC HA HB HRA HogA HogB eN
       have hfl:(sortC cmpD (((brs t).take (k + 1)).map canon)).length = ys.length + 1:=by rw [vT];simp;rw [Hyl.out];omega
       obtain ⟨zs,hzs⟩:∃ zs,zs = sortC cmpD (((brs t).take (k + 1)).map canon):=⟨_,rfl⟩
       rw [← hzs] at HFIN hfl
       have hkz:zs.length = k + 1:=by rw [hfl,Hyl.out]
       rw [← hfl] at HFIN
       rw [← hfl]
       have HZ:=Lib.hid hzs
       have HKZ:=Lib.hid hkz
       clear hzs hfl hkz
       go_wp2_with fail
       go_roundw
       case rel => exact ⟨k + 1,zs,by omega,by go_num,HZ,HKZ,⟨_,_,rfl⟩,HFIN,hbel4.trans (belC.mono (by omega))⟩
       case measure => simp [intOf];omega
   ·have hfin:(brs t).take k = brs t:=List.take_of_length_le (by omega)
    have hyc:qB ys = canon t:=by rw [xS HL.out,hys.out,hfin]
    have hylev:∀ b ∈ ys,qW b:=by
     intro b hb
     rw [hys.out,yG,List.mem_map] at hb
     obtain ⟨c,hc,rfl⟩:=hb
     exact kY (jC HL.out c (List.mem_of_mem_take hc))
    have hsum:qX ys ≤ 1000000:=by
     have:=xF ys
     rw [hyc,wI HL.out] at this
     omega
    have hyb:ys.length ≤ 1000000:=by rw [Hyl.out];omega
    have HYC:=Lib.hid hyc
    have HS:Hid (Small ys):=Lib.hid (Small.of_lev hylev (by omega))
    obtain ⟨oa9,cap9,L⟩:=hown.out.rd.lists
    have hval:=L.val
    simp only [Value.slice.injEq,true_and] at hval
    obtain ⟨rfl,rfl⟩:=hval
    have HLs:=Lib.hid L
    have hkb:¬ ((k:Int) < ((brs t).length:Int)):=by omega
    clear hfin hyc hylev L hown hlt
    go_wp2_with fail
    go_loopw [9,10] (fun o i wr => ∃ (q:Nat) (r:List Int),q ≤ ys.length∧i = .int .i64 q∧Hid (r = qB (ys.take q))∧(∃ oa cap,o = .slice oa r.length cap)∧Hid (Own (RS RI) wo.heap.size wr.heap.size wr [o] r)∧Below wo.heap.size wo wr) (fun _ i _ => ys.length - (intOf i).toNat)
    case atStart => exact ⟨0,[0],Nat.zero_le _,rfl,Lib.hid rfl,⟨_,_,rfl⟩,Lib.hid ((Own.lit1 (w:=wo) 2 wo.heap.size 0 (by unfold qC;omega) (Nat.le_refl _)).top _ (by simp)),(Below.refl _ _).alloc (Nat.le_refl _) _⟩
    case round =>
     obtain ⟨q,r,hq,rfl,hr,⟨o1,cap1,rfl⟩,hown,hbelq⟩:=hrel
     have hszq:=hbelq.size
     by_cases hlt:q < ys.length
     ·obtain ⟨b,off,e9,hb,hc⟩:=HLs.out.get hlt
      simp only [Option.some.injEq,Addr.mk.injEq,and_true] at e9
      obtain ⟨rfl,rfl⟩:=e9
      obtain ⟨oi,ci,g1,hrd,q1,q2⟩:=hc q hlt
      have g1':wo.cell? ⟨g0,q,none⟩ = some (.slice oi ys[q].length ci):=by rw [← g1,Nat.zero_add]
      obtain ⟨x,hx⟩:∃ x,x = ys[q]:=⟨_,rfl⟩
      have hsm:∀ y ∈ x,0 ≤ y∧y ≤ 1000000000:=by rw [hx];exact HS.out _ (List.getElem_mem hlt)
      have hlen:=yR0 ys q hlt
      have hrl:=xF (ys.take q)
      have hnx:=xV0 ys q hlt
      rw [← hx] at g1' hrd q1 hlen hnx
      obtain ⟨oa2,c2,I⟩:=hrd.ints
      rw [← hr.out] at hrl hnx
      have hval:=I.val
      simp only [Value.slice.injEq,true_and] at hval
      obtain ⟨rfl,rfl⟩:=hval
      have HI:=Lib.hid I
      have HN:=Lib.hid hnx
      have hrb:r.length + x.length ≤ 1000000001:=by omega
      clear hc g1 hx hrd I hnx hrl hlen
      go_wp2_with fail
      go_loopw [9,11] (fun o i wr => ∃ (m:Nat) (z:List Int),m ≤ x.length∧i = .int .i64 m∧Hid (z = r ++ (x.take m).map (· + 1))∧(∃ oa cap,o = .slice oa z.length cap)∧Hid (Own (RS RI) wo.heap.size wr.heap.size wr [o] z)∧Below wo.heap.size wo wr) (fun _ i _ => x.length - (intOf i).toNat)
      case atStart => exact ⟨0,r,Nat.zero_le _,rfl,Lib.hid (by simp),⟨o1,cap1,rfl⟩,hown,hbelq⟩
      case round =>
       obtain ⟨m,z,hm,rfl,hz,⟨o2,cap2,rfl⟩,hown2,hbel2⟩:=hrel
       have hsz2':=hbel2.size
       have g2:wr.cell? ⟨g0,q,none⟩ = some (.slice oi x.length ci):=(hbel2.cell (p:=⟨g0,q,none⟩) hb).trans g1'
       by_cases hlt2:m < x.length
       ·obtain ⟨b2,off2,rfl,hb2,hc2⟩:=HI.out.get hlt2
        have g3:wr.cell? ⟨b2,off2 + m,none⟩ = some (.int .i64 x[m]):=(hbel2.cell (p:=⟨b2,off2 + m,none⟩) hb2).trans (hc2 m hlt2)
        have hy:=hsm x[m] (List.getElem_mem hlt2)
        obtain ⟨y1,y2⟩:=hy
        have hms:=xH0 x m hlt2
        obtain ⟨y,hy⟩:∃ y,y = x[m]:=⟨_,rfl⟩
        rw [← hy] at g3 y1 y2 hms
        have hll:z.length ≤ 1000000002:=by rw [hz.out];simp;omega
        have hw1:IntKind.i64.wrap (y + 1) = y + 1:=IntWalk.i64_in _ (by omega)
        have HM:=Lib.hid hms
        clear hc2 hy hms hsm
        go_wp2_with (at_builtin;refine yO (o:=⟨some 80,_,_,_,_,_⟩) ?_)
        refine jB.go ?_
        refine qQ0 (w:=wr) (R:=RI) rfl _ _ 24 rfl 2 (.int .i64 0) 1 8 tI64 rfl (.slice o2 z.length cap2) z (y + 1) [.int .i64 (y + 1)] wo.heap.size wr.heap.size wr.heap.size rfl hown2.out (Own.int ⟨by omega,by omega⟩) (Nat.le_refl _) hsz2' 2 rfl rfl (by omega) (by omega) ?_
        intro oa1 cap1 w1' hown1 c1a c1b hbel1
        have hb3:=hbel2.trans hbel1
        obtain ⟨z',hz'⟩:∃ z',z' = z ++ [y + 1]:=⟨_,rfl⟩
        have HZ:Hid (z' = r ++ (x.take (m + 1)).map (· + 1)):=Lib.hid (by rw [hz',hz.out,HM.out,List.append_assoc])
        have e1:z.length + 1 = z'.length:=by rw [hz'];simp
        rw [← hz',e1] at hown1
        have HO1':Hid (Own (RS RI) wo.heap.size w1'.heap.size w1' [.slice oa1 z'.length cap1] z'):=hown1
        rw [e1]
        clear hown1 hbel1 hown2 hown e1 hz'
        go_wp2_with fail
        go_roundw
        case rel => exact ⟨m + 1,z',by omega,by go_num,HZ,⟨_,_,rfl⟩,HO1',hb3⟩
        case measure => simp [intOf];omega
       ·have HZ:Hid (z = qB (ys.take (q + 1))):=Lib.hid (by rw [HN.out,hz.out,List.take_of_length_le (by omega)])
        go_wp2_with fail
        go_roundw
        case rel => exact ⟨q + 1,z,by omega,by go_num,HZ,⟨_,_,rfl⟩,hown2,hbel2⟩
        case measure => simp [intOf];omega
     ·have hfin:ys.take q = ys:=List.take_of_length_le (by omega)
      have HF:Hid (r = canon t):=Lib.hid (by rw [hr.out,hfin,HYC.out])
      clear hfin
      go_wp2_with fail
      go_ret
      exact ⟨_,rfl,by rw [← HF.out];exact hown.out.mono (Nat.le_trans hsz1 hsz2) (Nat.le_refl _),b1.trans ((hbel.trans (hbelq.mono hsz2)).mono hsz1)⟩
end
section
section
variable {P:Program} {w:World}
theorem step_call {ops:Array Oper} {o:Oper} {a:Act} {K:Act→World→Prop} {Q:Exit→Act→World→Prop} {E:Prop} (hgd:o.guard = none) (f:FuncId) (args:Array Operand) (ts:Array TypeId)
  (ho:o.op = .call { callee:=.value (.func f),args:=args,argTypes:=ts }) (eg:∀ args w,(callFunc f args).run P w = .ok (.enter f args) w) (vs:Array Value) (hv:args.map a.eval = vs)
  (h:Calls P f vs w fun e w' => ∃ v,e = .returned v∧K (a.put o.dst v) w'):if Region.wanted o (yielded ops a.tmps) = true then Oper.wp P o a w K Q else E:=by
 have hw:Region.wanted o (yielded ops a.tmps) = true:=by simp [Region.wanted,hgd]
 rw [if_pos hw]
 subst hv
 unfold Oper.wp
 have hrun:(execOp a.eval o).run P w = .ok (.enter f (args.map a.eval)) w:=by
  simp [execOp,ho,resolve,invoke,Act.eval,Deferred.ofValue,eg]
 rw [hrun,Oper.upon_enter]
 refine h.mono ?_
 rintro e w' ⟨v,rfl,hk⟩
 exact hk
theorem step_appendS {ops:Array Oper} {o:Oper} {a:Act} {K:Act→World→Prop} {Q:Exit→Act→World→Prop} {E:Prop} (hgd:o.guard = none) (s x:Operand) (t:TypeId)
  (ho:o.op = .call { callee:=.builtin .append,args:=#[s,x],argTypes:=#[t,t] })
  (e:TypeId) (z:Value) (k bytes:Nat) (T:ST P t e z k bytes)
  (v:Value) (n:Nat) (ds:List Value) (og:Option Nat) (hs:a.eval s = v) (hown:Row w v k n ds og)
  (ao:Option Addr) (m c:Nat) (news:List Value) (hx:a.eval x = .slice ao m c) (hl:news.length = m * k) (hnone:ao = none→m = 0) (hnews:∀ a,ao = some a→∀ j u,news[j]? = some u→w.cell? (a.add j) = some u) (h1:∀ u ∈ news,u.oneCell' = true)
  (hbytes:(n + m) * bytes ≤ 140737488355328) (h63:n + m ≤ maxLen)
  (h:∀ v' w' og',yC w w' v' k (n + m) (ds ++ news) og og'→K (a.put o.dst v') w'):if Region.wanted o (yielded ops a.tmps) = true then Oper.wp P o a w K Q else E:=by
 have hw:Region.wanted o (yielded ops a.tmps) = true:=by simp [Region.wanted,hgd]
 rw [if_pos hw]
 obtain ⟨v',w',og',hr,h2⟩:=qR0 (P:=P) (w:=w) t o.type e z k bytes T v n ds og hown ao m c news hl hnone hnews h1 hbytes h63
 unfold Oper.wp execOp
 simp only [ho,resolve,invoke,builtin,Sem.run_bind,Sem.run_pure,Result.andThen_ok,List.map_toArray,List.map_cons,List.map_nil,hs,hx,hr]
 exact h v' w' og' h2
end
end
section
def forest (list:List (List Int)):List (List Int):=sortC cmpT list
theorem xL0 (v:Value) (xs:List Int) (w:World) (h:Rd (RS RI) w [v] xs) (hsz:xs.length ≤ 1000000000) :
  Calls Tryz.prog 201 #[v] w (RetO (RS RI) w xs):=by
 obtain ⟨oa,c1,I1⟩:=h.ints
 obtain rfl:=I1.val
 have m1:=I1.le;have m2:=I1.capLe
 unfold maxLen at m2
 have q22:∀ (w:World) (a:Option Addr) (n c n' c':Nat),(binOp .eql 24 (.slice a n c) (.slice none n' c')).run Tryz.prog w = .ok (.bool a.isNone) w:=fun w a n c n' c' => Lib.run_eql_slice_nil w _ _ a n c n' c' tI64.ht
 cases oa with
 | none =>
  have hc:=I1.noneCap rfl
  have hx:xs = []:=List.eq_nil_of_length_eq_zero (by omega)
  subst hx;subst hc
  clear h I1
  go_enter Tryz.func201,Tryz.ntmps201
  go_wp2_with fail
  go_ret
  exact ⟨_,rfl,Own.nil _ _,Below.refl _ _⟩
 | some ad =>
 have I2:Ints (w.alloc (.cells #[] 2)) (.slice (some ad) xs.length c1) xs (some ad) c1:=by
  refine ⟨rfl,m1,I1.capLe,I1.noneCap,I1.bd,?_⟩
  rcases I1.row with h|⟨b,off,e,hb,hc⟩
  ·exact .inl h
  ·refine .inr ⟨b,off,e,by simp;omega,fun j hj => ?_⟩
   rw [World.cell?_alloc_lt _ _ _ hb];exact hc j hj
 have hrow:=Row.lit w #[] 2 1 0 (by decide) (by simp)
 have HI:=Lib.hid I2
 have HR:=Lib.hid hrow
 clear I2 hrow
 go_enter Tryz.func201,Tryz.ntmps201
 go_wp2_with (at_builtin;refine yO (o:=⟨some 7,_,_,_,_,_⟩) ?_)
 refine jB.go ?_
 refine xB rfl _ _ 24 rfl 2 (.int .i64 0) 1 8 tI64 (.slice (some ⟨w.heap.size,0,none⟩) 0 0) 0 [] (some w.heap.size) rfl (by simpa using HR.out) (some ad) xs.length c1 (xs.map (Value.int .i64)) rfl (by simp) (fun h => by cases h) (Row.cells_ints HI.out) (by intro u hu;obtain ⟨x,_,rfl⟩:=List.mem_map.1 hu;rfl) (by omega) (by unfold maxLen;omega) ?_
 intro v' w' og' happ
 rw [Nat.zero_add,List.nil_append] at happ
 have hlow:=happ.low (B:=w.heap.size) (by simp) (fun g hg => by cases hg;exact Nat.le_refl _)
 have hbel:Below w.heap.size w w':=((Below.refl w.heap.size w).alloc (Nat.le_refl _) (.cells #[] 2)).trans hlow.2
 have hown:Own (RS RI) w.heap.size w'.heap.size w' [v'] xs:=Row.OwnI (by simpa using happ.1) I1.bd hlow.1
 have HO:=Lib.hid hown
 obtain ⟨oa',cap',rfl,_⟩:=hown.val
 clear hown happ hlow
 go_wp2_with fail
 go_ret
 exact ⟨_,rfl,HO.out,hbel⟩
theorem take_snoc (xs:List (List Int)) (k:Nat) (h:k < xs.length):xs.take (k + 1) = xs.take k ++ [xs[k]]:=List.take_succ_eq_append_getElem h
theorem yF0 (v:Value) (bs:List (List Int)) (w:World) (h:Rd (RS (RS RI)) w [v] bs) (hsz:bs.length ≤ 1000000000) (hsl:∀ b ∈ bs,b.length ≤ 1000000000) :
  Calls Tryz.prog 152 #[v] w (RetO (RS (RS RI)) w bs):=by
 obtain ⟨oa,cap,L⟩:=h.lists
 obtain rfl:=L.val
 have m1:=L.le;have m2:=L.capLe
 have HL:=Lib.hid L
 have HS:=Lib.hid hsl
 clear L h hsl
 go_enter Tryz.func152,Tryz.ntmps152
 go_wp2_with fail
 go_loopw [3,9] (fun o i wr => ∃ (k:Nat) (r:List (List Int)),k ≤ bs.length∧i = .int .i64 k∧Hid (r = bs.take k)∧r.length ≤ 1000000000∧(∃ oa cap,o = .slice oa r.length cap)∧Hid (Own (RS (RS RI)) w.heap.size wr.heap.size wr [o] r)∧Below w.heap.size w wr) (fun _ i _ => bs.length - (intOf i).toNat)
 case atStart => exact ⟨0,[],Nat.zero_le _,rfl,Lib.hid rfl,by simp,⟨_,_,rfl⟩,Lib.hid ((Own.empty (R:=RS RI) (w:=w) 24 w.heap.size (Nat.le_refl _)).top _ (by simp)),(Below.refl _ _).alloc (Nat.le_refl _) _⟩
 case round =>
  obtain ⟨k,r,hk,rfl,hr,hrl,⟨o1,cap1,rfl⟩,hown,hbel⟩:=hrel
  have hsz1:=hbel.size
  by_cases hlt:k < bs.length
  ·obtain ⟨b,off,rfl,hb,hc⟩:=HL.out.get hlt
   obtain ⟨oi,ci,g1,hrd,q1,q2⟩:=hc k hlt
   have g2:wr.cell? ⟨b,off + k,none⟩ = some (.slice oi bs[k].length ci):=(hbel.cell (p:=⟨b,off + k,none⟩) hb).trans g1
   obtain ⟨x,hx⟩:∃ x,x = bs[k]:=⟨_,rfl⟩
   have hxl:x.length ≤ 1000000000:=by rw [hx];exact HS.out _ (List.getElem_mem hlt)
   have hnx:=take_snoc bs k hlt
   have hrlen:r.length = k:=by rw [hr.out];simp;omega
   have hr2:r.length + 1 ≤ 1000000000:=by omega
   rw [← hx] at g2 hrd q1 hnx
   rw [← hr.out] at hnx
   have hcl:=xL0 _ x wr (hrd.below hbel (Nat.le_refl _)) hxl
   have HN:=Lib.hid hnx
   clear hc g1 hx hrd hnx hrlen
   go_wp2_with (first|(go_at_call 201;refine hcl.mono ?_;rintro e w2 ⟨u,rfl,o2,b2⟩;obtain ⟨ou,cu,rfl,lu1,lu2⟩:=o2.val)|(at_builtin;refine yO (o:=⟨some 17,_,_,_,_,_⟩) ?_))
   refine jB.go ?_
   have hb2:=b2.size
   refine qQ0 (w:=w2) (R:=RS RI) rfl _ _ 36 rfl 24 (.slice none 0 0) 1 24 tI64S rfl (.slice o1 r.length cap1) r x [.slice ou x.length cu] w.heap.size wr.heap.size w2.heap.size rfl (hown.out.below b2 (Nat.le_refl _)) o2 hb2 hsz1 24 rfl rfl (by omega) (by omega) ?_
   intro oa1 cap1' w1 hown1 c1a c1b hbel1
   have hb3:=(hbel.trans (b2.mono hsz1)).trans hbel1
   obtain ⟨r',hr'⟩:∃ r',r' = r ++ [x]:=⟨_,rfl⟩
   have HR:Hid (r' = bs.take (k + 1)):=Lib.hid (by rw [hr',HN.out])
   have e1:r.length + 1 = r'.length:=by rw [hr'];simp
   rw [← hr',e1] at hown1
   have HO:Hid (Own (RS (RS RI)) w.heap.size w1.heap.size w1 [.slice oa1 r'.length cap1'] r'):=hown1
   rw [e1] at hr2
   rw [e1]
   clear hown1 hbel1 hown e1 hr' hcl o2
   go_wp2_with fail
   go_roundw
   case rel => exact ⟨k + 1,r',by omega,by go_num,HR,hr2,⟨_,_,rfl⟩,HO,hb3⟩
   case measure => simp [intOf];omega
  ·have hfin:Hid (r = bs):=Lib.hid (by rw [hr.out,List.take_of_length_le (by omega)])
   go_wp2_with fail
   go_ret
   exact ⟨_,rfl,by rw [← hfin.out];exact hown.out,hbel⟩
theorem c_impl_forestOf (v:Value) (bs:List (List Int)) (w:World) (h:Rd (RS (RS RI)) w [v] bs) (hsz:bs.length ≤ 19) (hsl:∀ b ∈ bs,b.length ≤ 1000000000) :
  Calls Tryz.prog 102 #[v] w (RetO (RS (RS RI)) w (forest bs)):=by
 have hc:=yF0 v bs w h (by omega) hsl
 have EG:=Lib.hid (enters (P:=Tryz.prog) (f:=119) Tryz.func119 (by kernel_rfl) rfl)
 have HA:Hid (kA Tryz.prog 119 cmpT (fun _ => True)):=Lib.hid (fun w h1 h2 x y r1 r2 _ _ => wK h1 h2 x y w r1 r2)
 clear h hsl
 go_enter Tryz.func102,Tryz.ntmps102
 go_wp2_with (go_at_call 152;refine hc.mono ?_;rintro e w1 ⟨u,rfl,o1,b1⟩;obtain ⟨ou,cu,rfl,lu1,lu2⟩:=o1.val)
 have hs:=c_SortStable 119 cmpT yH (fun _ => True) EG.out HA.out _ bs w.heap.size w1.heap.size w1 o1 (fun _ _ => trivial) (by omega)
 have hb1:=b1.size
 clear o1 hc
 go_wp2_with (go_at_call 163;refine hs.mono ?_;rintro e w3 ⟨rfl,o3,ch3⟩)
 go_ret
 have hb3:Below w.heap.size w w3:=b1.trans (ch3.below (Nat.le_refl _) hb1)
 exact ⟨_,rfl,o3.mono (Nat.le_refl _) ch3.size,hb3⟩
def jI (bs:List (List Int)):Int:=bs.foldl (fun a b => wrap64 (a + b.length)) 0
theorem yM0 (bs:List (List Int)) (k:Nat) (h:k < bs.length):jI (bs.take (k + 1)) = wrap64 (jI (bs.take k) + bs[k].length):=by
 unfold jI
 rw [List.take_succ_eq_append_getElem h,List.foldl_append];rfl
theorem vM (bs:List (List Int)) (h:qX bs ≤ 1000000000000000000):jI bs = qX bs:=by
 have:∀ (bs:List (List Int)) (n:Nat),n + qX bs ≤ 1000000000000000000→bs.foldl (fun a b => wrap64 (a + (b.length:Int))) (n:Int) = (n + qX bs:Nat):=by
  intro bs
  induction bs with
  | nil => intro n _;simp [qX]
  | cons b bs ih =>
   intro n hn
   simp only [qX,List.map_cons,List.sum_cons] at hn
   rw [List.foldl_cons]
   have e:wrap64 ((n:Int) + b.length) = ((n + b.length:Nat):Int):=by unfold wrap64;omega
   rw [e,ih (n + b.length) (by unfold qX;omega)]
   simp only [qX,List.map_cons,List.sum_cons]
   omega
 unfold jI;simpa using this bs 0 (by omega)
theorem jP0 (v:Value) (bs:List (List Int)) (w:World) (h:Rd (RS (RS RI)) w [v] bs) :
  Calls Tryz.prog 88 #[v] w (jT w (.int .i64 (jI bs))):=by
 obtain ⟨oa,cap,L⟩:=h.lists
 obtain rfl:=L.val
 have m1:=L.le;have m2:=L.capLe
 have HL:=Lib.hid L
 clear L h
 go_enter Tryz.func88,Tryz.ntmps88
 go_wp2_with fail
 go_loop [3,8] (fun s i => ∃ (k:Nat),k ≤ bs.length∧i = .int .i64 k∧s = .int .i64 (jI (bs.take k))) (fun _ i => bs.length - (intOf i).toNat)
 case atStart => exact ⟨0,Nat.zero_le _,rfl,rfl⟩
 case round =>
  obtain ⟨k,hk,rfl,rfl⟩:=hrel
  by_cases hlt:k < bs.length
  ·obtain ⟨b,off,rfl,hb,hc⟩:=HL.out.get hlt
   obtain ⟨oi,ci,g1,hrd,q1,q2⟩:=hc k hlt
   have hnx:=yM0 bs k hlt
   obtain ⟨x,hx⟩:∃ x,x = bs[k].length:=⟨_,rfl⟩
   obtain ⟨s,hs⟩:∃ s,s = jI (bs.take k):=⟨_,rfl⟩
   rw [← hx] at g1 q1 hnx
   rw [← hs] at hnx
   rw [← hs]
   have hw:IntKind.i64.wrap (s + (x:Int)) = wrap64 (s + x):=IntWalk.i64_left _
   obtain ⟨g,hg⟩:∃ g,g = wrap64 (s + x):=⟨_,rfl⟩
   rw [← hg] at hw hnx
   have HN:=Lib.hid hnx
   clear hc hrd hx hs hg hnx
   go_wp2_with fail
   go_round
   case rel => exact ⟨k + 1,by omega,by go_num,by rw [HN.out]⟩
   case measure => simp [intOf];omega
  ·have hfin:bs.take k = bs:=List.take_of_length_le (by omega)
   have HF:=Lib.hid hfin
   clear hfin
   go_wp2_with fail
   go_ret
   exact ⟨by simp [HF.out],rfl⟩
theorem c_spec_l03Nodes (v:Value) (bs:List (List Int)) (w:World) (h:Rd (RS (RS RI)) w [v] bs) :
  Calls Tryz.prog 130 #[v] w (jT w (.int .i64 (jI bs))):=by
 obtain ⟨oa,cap,L⟩:=h.lists
 obtain rfl:=L.val
 have m1:=L.le;have m2:=L.capLe
 have HL:=Lib.hid L
 clear L h
 go_enter Tryz.func130,Tryz.ntmps130
 go_wp2_with fail
 go_loop [3,4] (fun s i => ∃ (k:Nat),k ≤ bs.length∧i = .int .i64 k∧s = .int .i64 (jI (bs.take k))) (fun _ i => bs.length - (intOf i).toNat)
 case atStart => exact ⟨0,Nat.zero_le _,rfl,rfl⟩
 case round =>
  obtain ⟨k,hk,rfl,rfl⟩:=hrel
  by_cases hlt:k < bs.length
  ·obtain ⟨b,off,rfl,hb,hc⟩:=HL.out.get hlt
   obtain ⟨oi,ci,g1,hrd,q1,q2⟩:=hc k hlt
   have hnx:=yM0 bs k hlt
   obtain ⟨x,hx⟩:∃ x,x = bs[k].length:=⟨_,rfl⟩
   obtain ⟨s,hs⟩:∃ s,s = jI (bs.take k):=⟨_,rfl⟩
   rw [← hx] at g1 q1 hnx
   rw [← hs] at hnx
   rw [← hs]
   have hw:IntKind.i64.wrap (s + (x:Int)) = wrap64 (s + x):=IntWalk.i64_left _
   obtain ⟨g,hg⟩:∃ g,g = wrap64 (s + x):=⟨_,rfl⟩
   rw [← hg] at hw hnx
   have HN:=Lib.hid hnx
   clear hc hrd hx hs hg hnx
   go_wp2_with fail
   go_round
   case rel => exact ⟨k + 1,by omega,by go_num,by rw [HN.out]⟩
   case measure => simp [intOf];omega
  ·have hfin:bs.take k = bs:=List.take_of_length_le (by omega)
   have HF:=Lib.hid hfin
   clear hfin
   go_wp2_with fail
   go_ret
   exact ⟨by simp [HF.out],rfl⟩
end
section
def OwnF {α:Type} (R:Rep α) (F:List Nat) (w:World) (cs:List Value) (x:α):Prop:=R.own w cs x F∧F.Nodup
theorem OwnF.frame {α:Type} {R:Rep α} {F:List Nat} {w w':World} {cs:List Value} {x:α} (h:OwnF R F w cs x) (hf:∀ b,b ∈ F→w'.heap[b]? = w.heap[b]?):OwnF R F w' cs x:=⟨R.own_frame h.1 hf,h.2⟩
theorem OwnF.rd {α:Type} {R:Rep α} {F:List Nat} {w:World} {cs:List Value} {x:α} (h:OwnF R F w cs x):Rd R w cs x:=R.rd_mono (R.own_rd h.1) (fun _ _ h => h)
structure ChgF (F:List Nat) (w w':World):Prop where
 os:w'.os = w.os
 tape:w'.tape = w.tape
 output:w'.output = w.output
 size:w.heap.size ≤ w'.heap.size
 block:∀ k,k < w.heap.size→k ∉ F→w'.heap[k]? = w.heap[k]?
theorem ChgF.mono {F G:List Nat} {w w':World} (h:ChgF F w w') (hs:∀ b,b ∈ F→b ∈ G):ChgF G w w':=⟨h.os,h.tape,h.output,h.size,fun k hk hn => h.block k hk (fun e => hn (hs k e))⟩
theorem ChgF.trans {F:List Nat} {a b c:World} (h:ChgF F a b) (k:ChgF F b c):ChgF F a c :=
 ⟨k.os.trans h.os,k.tape.trans h.tape,k.output.trans h.output,Nat.le_trans h.size k.size,fun i hi hn => (k.block i (Nat.lt_of_lt_of_le hi h.size) hn).trans (h.block i hi hn)⟩
section
variable {α:Type} {R:Rep α} {w:World}
end
end
section
theorem qA:Tryz.prog.follows .mixedOrders = true:=by kernel_rfl
section
variable {P:Program} {f:FuncId}
theorem rdLL {A:Nat→Prop} {w:World} {xs:List (List Int)} {v:Value} (h:kC A w (eLL xs) v):(RS (RS RI)).rd A w [v] xs:=((encS (encS encI)).rdV (x:=xs) rfl).2 h
theorem arg_int {A:Nat→Prop} {w:World} {n:Int} {v:Value} (h:kC A w (eI n) v):v = .int .i64 n:=(jZ.1 h).1
theorem afn_L_s {t:List Int} {d:D} {v:Value} (eg:∀ args w,(callFunc f args).run P w = .ok (.enter f args) w) (hd:∀ A w,rdV A w v d) (h:∀ u w,Rd (RS RI) w [u] t→Calls P f #[u] w (jT w v)):AFn P f [eL t] (· = [.val d]) :=
 AFn.of_s eg hd (fun w A vs ⟨v1,_,e1,h1,e2⟩ => by subst e2;subst e1;exact h v1 w (Rd.of (rd1 h1)))
theorem afn_L_q {t:List Int} {d:D} {v:Value} (eg:∀ args w,(callFunc f args).run P w = .ok (.enter f args) w) (hd:∀ A w,rdV A w v d) (h:∀ u w,Rd (RS RI) w [u] t→Calls P f #[u] w (RetQ w v)):AFn P f [eL t] (· = [.val d]) :=
 AFn.of_q eg hd (fun w A vs ⟨v1,_,e1,h1,e2⟩ => by subst e2;subst e1;exact h v1 w (Rd.of (rd1 h1)))
theorem afn_LL_q {s t:List Int} {d:D} {v:Value} (eg:∀ args w,(callFunc f args).run P w = .ok (.enter f args) w) (hd:∀ A w,rdV A w v d) (h:∀ u1 u2 w,Rd (RS RI) w [u1] s→Rd (RS RI) w [u2] t→Calls P f #[u1,u2] w (RetQ w v)):AFn P f [eL s,eL t] (· = [.val d]) :=
 AFn.of_q eg hd (fun w A vs ⟨v1,_,e1,h1,v2,_,e2,h2,e3⟩ => by subst e3;subst e2;subst e1;exact h v1 v2 w (Rd.of (rd1 h1)) (Rd.of (rd1 h2)))
theorem afn_L_o {t r:List Int} (eg:∀ args w,(callFunc f args).run P w = .ok (.enter f args) w) (h:∀ u w,Rd (RS RI) w [u] t→Calls P f #[u] w (RetO (RS RI) w r)):AFn P f [eL t] (· = [.own 1 (r.map eI) true]) :=
 AFn.of_o encI eg (fun w A vs ⟨v1,_,e1,h1,e2⟩ => by subst e2;subst e1;exact h v1 w (Rd.of (rd1 h1)))
theorem afn_L_oo {t:List Int} {r:List (List Int)} (eg:∀ args w,(callFunc f args).run P w = .ok (.enter f args) w) (h:∀ u w,Rd (RS RI) w [u] t→Calls P f #[u] w (RetO (RS (RS RI)) w r)):AFn P f [eL t] (· = [.own 1 (r.map eL) true]) :=
 AFn.of_o (encS encI) eg (fun w A vs ⟨v1,_,e1,h1,e2⟩ => by subst e2;subst e1;exact h v1 w (Rd.of (rd1 h1)))
theorem afn_LLL_oo {t r:List (List Int)} (eg:∀ args w,(callFunc f args).run P w = .ok (.enter f args) w) (h:∀ u w,Rd (RS (RS RI)) w [u] t→Calls P f #[u] w (RetO (RS (RS RI)) w r)):AFn P f [eLL t] (· = [.own 1 (r.map eL) true]) :=
 AFn.of_o (encS encI) eg (fun w A vs ⟨v1,_,e1,h1,e2⟩ => by subst e2;subst e1;exact h v1 w (Rd.of (rdLL h1)))
theorem afn_LLL_o {t:List (List Int)} {r:List Int} (eg:∀ args w,(callFunc f args).run P w = .ok (.enter f args) w) (h:∀ u w,Rd (RS (RS RI)) w [u] t→Calls P f #[u] w (RetO (RS RI) w r)):AFn P f [eLL t] (· = [.own 1 (r.map eI) true]) :=
 AFn.of_o encI eg (fun w A vs ⟨v1,_,e1,h1,e2⟩ => by subst e2;subst e1;exact h v1 w (Rd.of (rdLL h1)))
theorem afn_LLL_s {t:List (List Int)} {d:D} {v:Value} (eg:∀ args w,(callFunc f args).run P w = .ok (.enter f args) w) (hd:∀ A w,rdV A w v d) (h:∀ u w,Rd (RS (RS RI)) w [u] t→Calls P f #[u] w (jT w v)):AFn P f [eLL t] (· = [.val d]) :=
 AFn.of_s eg hd (fun w A vs ⟨v1,_,e1,h1,e2⟩ => by subst e2;subst e1;exact h v1 w (Rd.of (rdLL h1)))
theorem afn_III_s {x y z:Int} {d:D} {v:Value} (eg:∀ args w,(callFunc f args).run P w = .ok (.enter f args) w) (hd:∀ A w,rdV A w v d) (h:∀ w,Calls P f #[.int .i64 x,.int .i64 y,.int .i64 z] w (jT w v)):AFn P f [eI x,eI y,eI z] (· = [.val d]) :=
 AFn.of_s eg hd (fun w A vs ⟨v1,_,e1,h1,v2,_,e2,h2,v3,_,e3,h3,e4⟩ => by subst e4;subst e3;subst e2;subst e1;rw [arg_int h1,arg_int h2,arg_int h3];exact h w)
theorem afn_I_s {x:Int} {d:D} {v:Value} (eg:∀ args w,(callFunc f args).run P w = .ok (.enter f args) w) (hd:∀ A w,rdV A w v d) (h:∀ w,Calls P f #[.int .i64 x] w (jT w v)):AFn P f [eI x] (· = [.val d]) :=
 AFn.of_s eg hd (fun w A vs ⟨v1,_,e1,h1,e2⟩ => by subst e2;subst e1;rw [arg_int h1];exact h w)
end
def Rg {α:Type} (R:Rep α) (lo hi:Nat) (w:World) (cs:List Value) (x:α):Prop:=R.rd (fun b => lo ≤ b∧b < hi) w cs x
theorem Rg.rd {α:Type} {R:Rep α} {lo hi:Nat} {w:World} {cs:List Value} {x:α} (h:Rg R lo hi w cs x):Rd R w cs x:=R.rd_mono h (fun _ _ h => h)
theorem Rg.frame {α:Type} {R:Rep α} {lo hi:Nat} {w w':World} {cs:List Value} {x:α} (h:Rg R lo hi w cs x) (hf:∀ b,lo ≤ b→b < hi→b < w.heap.size→w'.heap[b]? = w.heap[b]?):Rg R lo hi w' cs x:=R.rd_frame h (fun b hb hl => hf b hb.1 hb.2 hl)
section
variable {P:Program} {f:FuncId} {α:Type} {R:Rep α} {e:α→List D}
theorem AFn.one {ds:List (List D)} {v:Value} {d:D} (hd:∀ A w u,rdV A w u d→u = v) (h:AFn P f ds (· = [.val d])) {w:World} {vs:List Value} (hv:qO (· < w.heap.size) w ds vs) :
  Calls P f vs.toArray w (RetV w v):=by
 refine (h.fn _ w vs (fun _ h => h) hv).mono ?_
 rintro e' w' ⟨v',rs,rfl,rfl,hb,us,G,X,rfl,hG,hG2,u,us',G1,G2,Y1,Y2,rfl,rfl,rfl,h1,⟨h4,_,_⟩,rfl,rfl,rfl⟩
 rw [hd _ _ _ h4]
 exact ⟨rfl,hb⟩
theorem args1 {w:World} {a:List D} {u:Value} (h:kC (· < w.heap.size) w a u):qO (· < w.heap.size) w [a] [u]:=⟨u,[],rfl,h,rfl⟩
end
end
section
theorem a_l03Before (xs ys:List Int):AFn Tryz.prog 129 [eL xs,eL ys] (· = [.val (.bool (decide (cmpT xs ys < 0)))]) :=
 AFn.of_q (v:=.bool _) (enters_of Tryz.func129 rfl rfl) (fun _ _ => jF.2 rfl) (fun w A vs ⟨v1,_,e1,h1,v2,_,e2,h2,e3⟩ => by subst e3;subst e2;subst e1;exact xX0 v1 v2 xs ys w (Rd.of (rd1 h1)) (Rd.of (rd1 h2)))
theorem qL0 (xs ys:List Int):AFn Tryz.prog 189 [eL xs,eL ys] (· = [.val (.bool (decide (xs = ys)))]) :=
 AFn.of_q (v:=.bool _) (enters_of Tryz.func189 rfl rfl) (fun _ _ => jF.2 rfl) (fun w A vs ⟨v1,_,e1,h1,v2,_,e2,h2,e3⟩ => by subst e3;subst e2;subst e1;exact c_spec_l01Same v1 v2 xs ys w (Rd.of (rd1 h1)) (Rd.of (rd1 h2)))
theorem a_l01Own (xs:List Int) (hsz:xs.length ≤ 1000000000):AFn Tryz.prog 133 [eL xs] (· = [.own 1 (xs.map eI) true]) :=
 AFn.of_o encI (enters_of Tryz.func133 rfl rfl) (fun w A vs ⟨v1,_,e1,h1,e2⟩ => by subst e2;subst e1;exact xQ0 v1 xs w (Rd.of (rd1 h1)) hsz)
theorem getD_in {t:List Int} {i:Nat} (h:i < t.length):t.getD i 0 = t[i]:=by simp [h]
theorem cmpT_in64 {xs ys:List Int} (h1:xs.length ≤ maxLen) (h2:ys.length ≤ maxLen):qC (cmpT xs ys):=by
 unfold maxLen at h1 h2
 unfold cmpT qC
 have:=cmpL_range ys xs
 split <;> omega
theorem a_compareTrees (xs ys:List Int):AFn Tryz.prog 119 [eL xs,eL ys] (· = [.val (.int (cmpT xs ys))]):=by
 refine ⟨enters_of Tryz.func119 rfl rfl,fun A w vs hA ⟨v1,_,e1,h1,v2,_,e2,h2,e3⟩ => ?_⟩
 subst e3;subst e2;subst e1
 obtain ⟨oa,c1,k1,m1,m2⟩:=(Rd.of (rd1 h1)).val
 obtain ⟨ob,c2,k2,m3,m4⟩:=(Rd.of (rd1 h2)).val
 refine (wK v1 v2 xs ys w (Rd.of (rd1 h1)) (Rd.of (rd1 h2))).mono ?_
 rintro e w' ⟨rfl,rfl⟩
 exact ⟨_,_,rfl,rfl,Below.refl _ _,[_],[],[],rfl,List.nodup_nil,by simp,_,[],[],[],[],[],rfl,rfl,rfl,rfl,⟨jZ.2 ⟨rfl,cmpT_in64 (by omega) (by omega)⟩,rfl,rfl⟩,rfl,rfl,rfl⟩
theorem a_impl_IsLevels (t:List Int):AFn Tryz.prog 57 [eL t] (· = [.val (.bool (lev8 t))]):=afn_L_s (v:=.bool _) (enters_of Tryz.func57 rfl rfl) (fun _ _ => jF.2 rfl) (fun u w h => xW0 u t w h)
theorem a_spec_l03Is (t:List Int) (hsz:t.length ≤ 1048576):AFn Tryz.prog 188 [eL t] (· = [.val (.bool (lev8 t))]):=afn_L_q (v:=.bool _) (enters_of Tryz.func188 rfl rfl) (fun _ _ => jF.2 rfl) (fun u w h => c_spec_l03Is u t w h (by omega))
theorem a_slicesEqual (xs ys:List Int):AFn Tryz.prog 180 [eL xs,eL ys] (· = [.val (.bool (decide (xs = ys)))]):=afn_LL_q (v:=.bool _) (enters_of Tryz.func180 rfl rfl) (fun _ _ => jF.2 rfl) (fun u1 u2 w h1 h2 => c_slicesEqual u1 u2 xs ys w h1 h2)
theorem a_impl_inRange (x y z:Int):AFn Tryz.prog 112 [eI x,eI y,eI z] (· = [.val (.bool (inR x y z))]):=afn_III_s (v:=.bool _) (enters_of Tryz.func112 rfl rfl) (fun _ _ => jF.2 rfl) (fun w => jI0 x y z w)
theorem a_l03Canon (t:List Int) (h:qW t) (hl:t.length ≤ 8):AFn Tryz.prog 186 [eL t] (· = [.own 1 ((canon t).map eI) true]) :=
 afn_L_o (enters_of Tryz.func186 rfl rfl) (fun u w h' => yS0 8 u t w h' h hl (by omega))
theorem a_canonical (t:List Int) (h:qW t) (hl:t.length ≤ 8):AFn Tryz.prog 91 [eL t] (· = [.own 1 ((canon t).map eI) true]) :=
 afn_L_o (enters_of Tryz.func91 rfl rfl) (fun u w h' => jN0 8 u t w h' h hl (by omega))
theorem nodesB_in64 (f:List (List Int)):qC (jI f):=by
 have:∀ (bs:List (List Int)) (a:Int),qC a→qC (bs.foldl (fun a b => wrap64 (a + (b.length:Int))) a):=by
  intro bs
  induction bs with
  | nil => intro a h;exact h
  | cons b bs ih => intro a _;exact ih _ (by show qC (wrap64 (a + (b.length:Int)));unfold qC wrap64;omega)
 exact this f 0 (by unfold qC;omega)
theorem a_nodesIn (f:List (List Int)):AFn Tryz.prog 88 [eLL f] (· = [.val (.int (jI f))]) :=
 afn_LLL_s (enters_of Tryz.func88 rfl rfl) (fun _ _ => jZ.2 ⟨rfl,nodesB_in64 f⟩) (fun u w h => jP0 u f w h)
theorem a_l03Nodes (f:List (List Int)):AFn Tryz.prog 130 [eLL f] (· = [.val (.int (jI f))]) :=
 afn_LLL_s (enters_of Tryz.func130 rfl rfl) (fun _ _ => jZ.2 ⟨rfl,nodesB_in64 f⟩) (fun u w h => c_spec_l03Nodes u f w h)
end
end Go.Proofs.YtedgfkpfhonlpaaGreat

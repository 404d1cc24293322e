/- Lemmas (3). -/
import Derived.Laws.Strings
import Derived.Test.YtedgfkpfhonlpaaZF1
import Derived.Test.YtedgfkpfhonlpaaZF2
set_option linter.unusedSimpArgs false
set_option linter.unusedVariables false
namespace Go.Proofs.Ytedgfkpfhonlpaa
open Go.RowKit
def RetOB {α:Type} (R:Rep α) (w:World) (x:α) (b:Bool):Ending→World→Prop :=
 fun e w' => ∃ u,e = .returned (.tuple #[u,.bool b])∧Own R w.heap.size w'.heap.size w' [u] x∧Below w.heap.size w w'
set_option maxRecDepth 100000 in
set_option maxHeartbeats 2000000 in
theorem c_impl_readForest (s:List UInt8) (w:World) (hmax:s.length ≤ 1000000):Calls Try.prog 56 #[bstr s] w (RetOB (RS (RS RI)) w (rdF s).1 (rdF s).2):=by
 obtain ⟨z,hz⟩:∃ z:ByteArray,z = ⟨s.toArray⟩:=⟨_,rfl⟩
 have hzs:z.size = s.length:=by rw [hz];simp [ByteArray.size]
 have hze:∀ (k:Nat) (h:k < s.length) (w:World),(Instr.index 9 (.string z) (.int .i64 (k:Int))).run Try.prog w = .ok (.int .u8 (s[k].toNat:Int)) w:=by
  intro k h w
  rw [run_index_string w 9 z .i64 k rfl,dif_pos ⟨by omega,by omega⟩]
  congr 3
  simp [hz]
  rfl
 unfold bstr
 rw [← hz]
 clear hz
 by_cases h16:16 < s.length
 ·have hr:rdF s = ([],false):=by unfold rdF;rw [if_pos h16]
  rw [hr]
  have hgt:((s.length:Int) > 16) = True:=eq_true (by omega)
  go_enter Try.func56,Try.ntmps56
  go_wp2_with fail
  go_ret2
  exact ⟨_,rfl,Own.nil _ _,(Below.refl _ _).alloc (Nat.le_refl _) _⟩
 have hgt:((s.length:Int) > 16) = False:=eq_false (by omega)
 have HS:=Lib.hid (rfl:rdF s = rdF s)
 have HFIN:Hid (∀ k st,s.length ≤ k→rfRun (s.take k) ([],0) = some st→rdF s = (st.1,decide (st.2 = 0))):=Lib.hid (fun k st hk hr => by
  rw [List.take_of_length_le hk] at hr
  unfold rdF;rw [if_neg h16,hr])
 have HNO:Hid (∀ k st (hk:k < s.length),rfRun (s.take k) ([],0) = some st→rfStep st s[k] = none→rdF s = ([],false)):=Lib.hid (fun k st hk hr hn => by
  have:rfRun (s.take (k + 1)) ([],0) = none:=by rw [List.take_succ_eq_append_getElem hk,rfRun_snoc,hr];exact hn
  unfold rdF;rw [if_neg h16,rfRun_none s _ _ this])
 go_enter Try.func56,Try.ntmps56
 go_wp2_with fail
 go_loopw [4,5,6] (fun o d i wr => ∃ (k:Nat) (st:List (List Int) × Nat),k ≤ s.length∧rfRun (s.take k) ([],0) = some st∧i = .int .i64 k∧d = .int .i64 st.2∧(∃ oa cap,o = .slice oa st.1.length cap)∧Own (RS (RS RI)) w.heap.size wr.heap.size wr [o] st.1∧Below w.heap.size w wr) (fun _ _ i _ => s.length - (intOf i).toNat)
 case atStart => exact ⟨0,([],0),Nat.zero_le _,rfl,rfl,rfl,⟨_,_,rfl⟩,Own.empty (R:=RS RI) (w:=w) 24 w.heap.size (Nat.le_refl _) |>.top _ (by simp),(Below.refl _ _).alloc (Nat.le_refl _) _⟩
 case round =>
  obtain ⟨k,⟨out,d⟩,hk,hrun,rfl,rfl,⟨oa,cap,rfl⟩,hown,hbel⟩:=hrel
  obtain ⟨hI1,hI2,hI3,hI4⟩:=rfRun_I _ 0 _ _ RfI.zero hrun
  simp only [List.length_take,Nat.zero_add] at hI1 hI2 hI3 hI4 hown
  have hsz1:=hbel.size
  by_cases hlt:k < s.length
  ·have hix:=hze k hlt
   have Hrun:=Lib.hid hrun
   obtain ⟨c,hc⟩:∃ c,c = s[k]:=⟨_,rfl⟩
   have HNEXT:Hid (∀ st',rfStep (out,d) c = some st'→rfRun (s.take (k + 1)) ([],0) = some st'):=Lib.hid (fun st' h => by
    rw [List.take_succ_eq_append_getElem hlt,rfRun_snoc,Hrun.out,← hc];exact h)
   have HNO2:Hid (rfStep (out,d) c = none→rdF s = ([],false)):=Lib.hid (fun h => HNO.out k _ hlt Hrun.out (hc ▸ h))
   rw [← hc] at hix
   clear hc hrun hze HFIN HNO
   by_cases h91:c.toNat = 91
   ·have heb:((c.toNat:Int) == 91) = true:=by simp [h91]
    by_cases hd:d = 0
    ·subst hd
     have hnext:=HNEXT.out (out ++ [[0]],1) (by unfold rfStep;rw [if_pos h91];rfl)
     have Hn:=Lib.hid hnext
     clear hnext h91
     go_wp2_with (at_builtin;refine wpList_snoc (o:=⟨some 26,_,_,_,_,_⟩) rfl _ _ 33 rfl 24 (.slice none 0 0) 1 24 tI64S rfl _ out [] [.slice none 0 0] w.heap.size wr.heap.size wr.heap.size rfl hown (Own.nil _ _) (Nat.le_refl _) hsz1 24 rfl rfl (by omega) (by omega) ?_;intro oa1 cap1 w1 hown1 c1a c1b hbel1;refine Stop.out ?_)
     have hbel2:=hbel.trans hbel1
     have hsz2:=hbel2.size
     obtain ⟨g,cap2,h0,m,ds,og,hv,hg1,hg2,hcell,hr0,hm,hog,hK⟩:=Own.inner hown1 out.length (by simp) (out.length + 1) (by simp)
     simp only [Value.slice.injEq,true_and] at hv
     obtain ⟨rfl,rfl⟩:=hv
     have hm0:m = 0:=by rw [hm];simp
     subst hm0
     have HK:=Lib.hid hK
     clear hK hm hbel1 hbel
     refine Stop.go ?_
     go_wp2_with (refine wpList_append1 (o:=⟨some 39,_,_,_,_,_⟩) rfl _ _ 24 rfl 2 (.int .i64 0) 1 8 tI64 h0 0 ds og rfl hr0 2 [.int .i64 (0:Int)] rfl rfl rfl (by simp [Value.oneCell']) (by omega) (by unfold maxLen;omega) ?_;intro h' w2 og' happ;refine Stop.out ?_)
     obtain ⟨f1,f2,f3,f4⟩:=HK.out 0 [.int .i64 (0:Int)] w1.heap.size w1.heap.size h' w2 og' (Own.int ⟨by omega,by omega⟩) (Nat.le_refl _) happ
     obtain ⟨oa',cap',rfl,_⟩:=happ.1.val
     have f5:=hbel2.trans (f4 hsz2)
     clear f4 happ
     simp only [List.getElem_append_right (Nat.le_refl _),Nat.sub_self,List.getElem_singleton] at f3
     have hset:(out ++ [[]]).set out.length (([]:List Int) ++ [0]) = out ++ [[0]]:=by simp
     rw [hset] at f3
     simp only [Nat.zero_add] at f1 f2 f3 f5
     refine Stop.go ?_
     go_wp2_with fail
     go_roundw
     case rel => exact ⟨k + 1,(out ++ [[0]],1),by omega,Hn.out,by go_num,by go_num,⟨some ⟨g,0,none⟩,cap1,by simp⟩,f3,f5⟩
     case measure => simp [intOf];omega
    ·have hpos:=hI3 (by omega)
     have hnext:=HNEXT.out (out.set (out.length - 1) (out[out.length - 1] ++ [(d:Int)]),d + 1) (by
      unfold rfStep;rw [if_pos h91]
      show some (if d = 0 then _ else _) = _
      rw [if_neg hd]
      show some (out.set (out.length - 1) (out.getD (out.length - 1) [] ++ [(d:Int)]),d + 1) = _
      rw [List.getD_eq_getElem?_getD,List.getElem?_eq_getElem (by omega)];rfl)
     obtain ⟨L,hL⟩:∃ L,L = out.set (out.length - 1) (out[out.length - 1] ++ [(d:Int)]):=⟨_,rfl⟩
     have hLl:L.length = out.length:=by rw [hL];simp
     rw [← hL] at hnext
     have HL:=Lib.hid hL
     have HLl:=Lib.hid hLl
     have Hn:=Lib.hid hnext
     have hd0:((d:Int) == 0) = false:=by simp;omega
     have hidx:out.length - 1 < out.length:=by omega
     have hea:=hI4 _ (List.getElem_mem hidx)
     clear hnext h91 hL hLl
     obtain ⟨g,cap2,h0,m,ds,og,hv,hg1,hg2,hcell,hr0,hm,hog,hK⟩:=Own.inner hown (out.length - 1) hidx _ rfl
     obtain ⟨n,hn⟩:∃ n,out.length = n + 1:=⟨out.length - 1,by omega⟩
     simp only [Value.slice.injEq,true_and] at hv
     obtain ⟨rfl,rfl⟩:=hv
     have HK:=Lib.hid hK
     have Hnn:=Lib.hid hn
     have hml:m ≤ k:=by omega
     have en:out.length - 1 = n:=by omega
     rw [en] at hcell
     rw [hn]
     have Hen:=Lib.hid en
     have hnb:n < 1000000000:=by omega
     clear hK hm hn en hea
     go_wp2_with (refine wpList_append1 (o:=⟨some 39,_,_,_,_,_⟩) rfl _ _ 24 rfl 2 (.int .i64 0) 1 8 tI64 h0 m ds og rfl hr0 2 [.int .i64 (d:Int)] rfl rfl rfl (by simp [Value.oneCell']) (by omega) (by unfold maxLen;omega) ?_;intro h' w2 og' happ;refine Stop.out ?_)
     obtain ⟨f1,f2,f3,f4⟩:=HK.out (d:Int) [.int .i64 (d:Int)] wr.heap.size wr.heap.size h' w2 og' (Own.int ⟨by omega,by omega⟩) (Nat.le_refl _) happ
     obtain ⟨oa',cap',rfl,_⟩:=happ.1.val
     have f5:=hbel.trans (f4 hsz1)
     clear f4 happ
     rw [← HL.out] at f3
     rw [Hen.out] at f1 f2 f3 f5
     refine Stop.go ?_
     go_wp2_with fail
     go_roundw
     case rel => exact ⟨k + 1,_,by omega,Hn.out,by go_num,by go_num,⟨some ⟨g,0,none⟩,cap,by show _ = Value.slice _ L.length _;rw [HLl.out,Hnn.out]⟩,by rw [← Hnn.out];exact f3,f5⟩
     case measure => simp [intOf];omega
   ·have heb:((c.toNat:Int) == 91) = false:=by simp;omega
    by_cases h93:c.toNat = 93∧0 < d
    ·have hnext:=HNEXT.out (out,d - 1) (by unfold rfStep;rw [if_neg h91,if_pos h93])
     have Hn:=Lib.hid hnext
     have heb2:((c.toNat:Int) == 93) = true:=by simp [h93.1]
     have hdp1:=h93.2
     have hdp:decide (0 < d) = true:=decide_eq_true h93.2
     clear hnext h91 h93
     go_wp2_with fail
     go_roundw
     case rel => exact ⟨k + 1,_,by omega,Hn.out,by go_num,by go_num,⟨_,_,rfl⟩,hown,hbel⟩
     case measure => simp [intOf];omega
    ·have hno:=HNO2.out (by unfold rfStep;rw [if_neg h91,if_neg h93])
     rw [hno]
     by_cases h93':c.toNat = 93
     ·have heb2:((c.toNat:Int) == 93) = true:=by simp [h93']
      have hd0:d = 0:=by omega
      subst hd0
      clear h91 h93
      go_wp2_with fail
      go_ret2
      exact ⟨_,rfl,Own.nil _ _,hbel⟩
     ·have heb2:((c.toNat:Int) == 93) = false:=by simp;omega
      clear h91 h93
      go_wp2_with fail
      go_ret2
      exact ⟨_,rfl,Own.nil _ _,hbel⟩
  ·have hf:=HFIN.out k _ (by omega) hrun
   by_cases hd:d = 0
   ·subst hd
    have hf:rdF s = (out,true):=hf
    rw [hf]
    clear hrun hze HFIN HNO
    go_wp2_with fail
    go_ret2
    exact ⟨_,rfl,hown,hbel⟩
   ·have hd0:((d:Int) == 0) = false:=by simp;omega
    have hf:rdF s = (out,false):=by rw [hf];simp [hd]
    rw [hf]
    clear hrun hze HFIN HNO
    go_wp2_with fail
    go_ret2
    exact ⟨_,rfl,hown,hbel⟩
end Go.Proofs.Ytedgfkpfhonlpaa

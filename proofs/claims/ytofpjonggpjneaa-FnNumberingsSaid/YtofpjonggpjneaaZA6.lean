/- Lemmas (6). -/
import Derived.Test.YtofpjonggpjneaaZA4
import Derived.Test.YtofpjonggpjneaaZA5
set_option linter.unusedSimpArgs false
set_option linter.unusedVariables false
namespace Go.Proofs.Ytofpjonggpjneaa
open Go.RowKit
def numSTo (f:Nat) (t:List Int) (root k gap j:Nat):Int:=((brs t).take j).foldl (fun out b => wrap64 (out * sumW ((List.range (k + 1 - (root + gap))).map fun i => numS f b (root + gap + i) k gap))) 1
theorem numSTo_succ (f:Nat) (t:List Int) (root k gap j:Nat) (h:j < (brs t).length) :
  numSTo f t root k gap (j + 1) = wrap64 (numSTo f t root k gap j * sumW ((List.range (k + 1 - (root + gap))).map fun i => numS f (brs t)[j] (root + gap + i) k gap)):=by
 unfold numSTo
 rw [List.take_succ_eq_append_getElem h,List.foldl_append];rfl
theorem numSTo_all (f:Nat) (t:List Int) (root k gap j:Nat) (h:(brs t).length ≤ j):numSTo f t root k gap j = numS (f + 1) t root k gap:=by
 unfold numSTo
 rw [List.take_of_length_le h];rfl
set_option maxRecDepth 100000 in
set_option maxHeartbeats 1000000 in
theorem c_spec_l05Numberings (k gap:Nat) (hk:k ≤ 10) (hg:gap ≤ 1):∀ (f:Nat) (t:List Int) (v:Value) (root:Nat) (w:World),Rd (RS RI) w [v] t→LevP t→t.length ≤ f→f ≤ 1000→root ≤ 20 →
  Calls Try.prog 154 #[v,.int .i64 root,.int .i64 k,.int .i64 gap] w (RetV w (.int .i64 (numS f t root k gap))):=by
 intro f
 induction f with
 | zero => intro t v root w h hl hf;have:=hl.pos;omega
 | succ f ih =>
  intro t v root w h hl hf hf1 hr
  obtain ⟨oa,c1,hv,_,_⟩:=h.val
  subst hv
  have IH:=Lib.hid ih
  clear ih
  go_enter Try.func154,Try.ntmps154
  go_wp2_with fail
  refine (c_spec_l03Parts _ t _ h hl (by omega)).mono ?_
  rintro e w1 ⟨vb,rfl,ob,B1⟩
  have s1:=B1.size
  obtain ⟨oa2,c2,rfl,hc2,hc3⟩:=ob.val
  have hnb:=brs_many (t:=t)
  go_wp2_with fail
  go_loopw [9,11] (fun o i wr => ∃ j:Nat,j ≤ (brs t).length∧i = .int .i64 j∧o = .int .i64 (numSTo f t root k gap j)∧Own (RS (RS RI)) w.heap.size w1.heap.size wr [.slice oa2 (brs t).length c2] (brs t)∧Below w.heap.size w wr∧w1.heap.size ≤ wr.heap.size) (fun _ i _ => (brs t).length - (intOf i).toNat)
  case atStart => exact ⟨0,Nat.zero_le _,rfl,rfl,ob,B1,Nat.le_refl _⟩
  case round =>
   obtain ⟨j,hj,rfl,rfl,hob,hbel,hsz⟩:=hrel
   by_cases hlt:j < (brs t).length
   ·have hsucc:=Lib.hid (numSTo_succ f t root k gap j hlt)
    have hbl:=brs_lev hl _ (List.getElem_mem hlt)
    have hbs:=brs_short hl _ (List.getElem_mem hlt)
    obtain ⟨wo,rfl⟩:∃ wo:World,wo = wr:=⟨_,rfl⟩
    go_wp2_with fail
    go_loopw [12,13] (fun s y wr => ∃ m:Nat,y = .int .i64 (root + gap + m)∧m ≤ k + 1 - (root + gap)∧s = .int .i64 (sumW ((List.range m).map fun i => numS f (brs t)[j] (root + gap + i) k gap))∧Own (RS (RS RI)) w.heap.size w1.heap.size wr [.slice oa2 (brs t).length c2] (brs t)∧Below w.heap.size w wr∧w1.heap.size ≤ wr.heap.size) (fun _ y _ => 100 - (intOf y).toNat)
    case atStart => exact ⟨0,by simp,Nat.zero_le _,rfl,hob,hbel,hsz⟩
    case round =>
     obtain ⟨m,rfl,hm,rfl,hob,hbel,hsz⟩:=hrel
     by_cases hlm:root + gap + m ≤ k
     ·obtain ⟨g,cap,h0,hv,_,_,hg1,hg2,hcell,hel⟩:=hob.elem j hlt
      simp only [Value.slice.injEq,true_and] at hv
      obtain ⟨rfl,rfl⟩:=hv
      have hle:(root:Int) + (gap:Int) + (m:Int) ≤ (k:Int):=by omega
      go_wp2_with fail
      rw [show ((root:Int) + (gap:Int) + (m:Int)) = ((root + gap + m:Nat):Int) by omega]
      refine (IH.out _ h0 (root + gap + m) _ hel.rd hbl (by omega) (by omega) (by omega)).mono ?_
      rintro e w3 ⟨rfl,B3⟩
      have s3:=B3.size
      rw [show ((root + gap + m:Nat):Int) = ((root:Int) + (gap:Int) + (m:Int)) by omega]
      go_wp2_with fail
      go_roundw
      case rel =>
       refine ⟨m + 1,by go_num,by omega,?_,hob.below B3 (by omega),hbel.trans (B3.mono (by omega)),by omega⟩
       rw [List.range_succ,List.map_append,List.map_singleton,sumW_snoc]
      case measure => simp [intOf];omega
     ·have hme:m = k + 1 - (root + gap):=by omega
      have hle:¬ ((root:Int) + (gap:Int) + (m:Int) ≤ (k:Int)):=by omega
      have Hme:=Lib.hid hme
      clear hme
      go_wp2_with fail
      go_roundw
      case rel =>
       refine ⟨j + 1,by omega,by go_num,?_,hob,hbel,hsz⟩
       rw [hsucc.out,Hme.out]
      case measure => simp [intOf];omega
   ·have hfin:numSTo f t root k gap j = numS (f + 1) t root k gap:=numSTo_all f t root k gap j (by omega)
    have Hf:=Lib.hid hfin
    clear hfin
    go_wp2_with fail
    go_ret
    exact ⟨by rw [← Hf.out];rfl,hbel⟩
def numITo (f:Nat) (t:List Int) (k step j:Nat):List Int:=((brs t).take j).foldl (fun out b => numStep k step out (numI f b k step)) (List.replicate k 1)
theorem numITo_succ (f:Nat) (t:List Int) (k step j:Nat) (h:j < (brs t).length):numITo f t k step (j + 1) = numStep k step (numITo f t k step j) (numI f (brs t)[j] k step):=by
 unfold numITo
 rw [List.take_succ_eq_append_getElem h,List.foldl_append];rfl
theorem numITo_all (f:Nat) (t:List Int) (k step j:Nat) (h:(brs t).length ≤ j):numITo f t k step j = numI (f + 1) t k step:=by
 unfold numITo
 rw [List.take_of_length_le h];rfl
theorem numITo_len (f:Nat) (t:List Int) (k step:Nat):∀ j,j ≤ (brs t).length→(numITo f t k step j).length = k
 | 0,_ => by simp [numITo]
 | j + 1,h => by rw [numITo_succ f t k step j h,numStep_len]
theorem numITo_in (f:Nat) (t:List Int) (k step:Nat):∀ j,j ≤ (brs t).length→∀ x ∈ numITo f t k step j,In64 x
 | 0,_ => by intro x hx;simp [numITo] at hx;rw [hx.2];decide
 | j + 1,h => by
  intro x hx
  rw [numITo_succ f t k step j h] at hx
  simp [numStep] at hx
  obtain ⟨_,_,rfl⟩:=hx
  exact in64_wrap _
theorem ones_set (k j:Nat) (h:j < k):(List.replicate j (1:Int) ++ List.replicate (k - j) 0).set j 1 = List.replicate (j + 1) 1 ++ List.replicate (k - (j + 1)) 0:=by
 rw [List.set_append_right _ _ (by simp),List.length_replicate,Nat.sub_self]
 obtain ⟨m,hm⟩:∃ m,k - j = m + 1:=⟨k - j - 1,by omega⟩
 rw [hm,show k - (j + 1) = m by omega,List.replicate_succ,List.set_cons_zero,List.replicate_succ',List.append_assoc]
 rfl
set_option maxRecDepth 100000 in
set_option maxHeartbeats 2000000 in
theorem c_impl_numberings (k step:Nat) (hk:k ≤ 10) (hg:step ≤ 1):∀ (f:Nat) (t:List Int) (v:Value) (w:World),Rd (RS RI) w [v] t→LevP t→t.length ≤ f→f ≤ 1000 →
  Calls Try.prog 153 #[v,.int .i64 k,.int .i64 step] w (RetO (RS RI) w (numI f t k step)):=by
 intro f
 induction f with
 | zero => intro t v w h hl hf;have:=hl.pos;omega
 | succ f ih =>
  intro t v w h hl hf hf1
  obtain ⟨oa,c1,hv,_,_⟩:=h.val
  subst hv
  have IH:=Lib.hid ih
  clear ih
  have hnb:=brs_many (t:=t)
  go_enter Try.func153,Try.ntmps153
  go_wp2_with (at_make;refine wpList_makeI rfl _ _ 24 rfl 2 tI64 _ _ _ _ k rfl rfl rfl rfl (by omega) ?_;intro w1 hrow0 hb)
  go_wp2_with fail
  go_loopw [19] (fun i wr => ∃ j:Nat,j ≤ k∧i = .int .i64 j∧Row wr (.slice (some ⟨w.heap.size,0,none⟩) k k) 1 k ((List.replicate j (1:Int) ++ List.replicate (k - j) 0).map (Value.int .i64)) (some w.heap.size)∧Below w.heap.size w wr) (fun i _ => k - (intOf i).toNat)
  case atStart => exact ⟨0,Nat.zero_le _,rfl,by simpa using hrow0,hb⟩
  case round =>
   obtain ⟨j,hj,rfl,hrow,hbel⟩:=hrel
   by_cases hlt:j < k
   ·have hfz:=hrow.frozen j
    have hx:j < (List.replicate j (1:Int) ++ List.replicate (k - j) 0).length:=by simp;omega
    have hcell:=hrow.cells j ((List.replicate j (1:Int) ++ List.replicate (k - j) 0)[j] |> Value.int .i64) (by rw [List.getElem?_map,List.getElem?_eq_getElem hx];rfl)
    have hst:=(hrow.store j (.int .i64 1)).1
    rw [map_set_int,ones_set k j hlt] at hst
    have hbel':Below w.heap.size w (wr.setCell ⟨w.heap.size,j,none⟩ (.int .i64 1)):=hbel.setCell (Nat.le_refl _) _
    generalize ((List.replicate j (1:Int) ++ List.replicate (k - j) 0)[j] |> Value.int .i64) = old at hcell
    go_wp2_with fail
    go_roundw
    case rel => exact ⟨j + 1,by omega,by go_num,hst,hbel'⟩
    case measure => simp [intOf];omega
   ·have hje:j = k:=by omega
    have hfin:Row wr (.slice (some ⟨w.heap.size,0,none⟩) k k) 1 k ((numITo f t k step 0).map (Value.int .i64)) (some w.heap.size):=by
     have e:List.replicate j (1:Int) ++ List.replicate (k - j) 0 = numITo f t k step 0:=by rw [hje];simp [numITo]
     rw [e] at hrow;exact hrow
    clear hje hrow
    go_wp2_with fail
    obtain ⟨wa,rfl⟩:∃ wa:World,wa = wr:=⟨_,rfl⟩
    have hsr:=hbel.size
    have hgl:=hfin.lt _ rfl
    refine (c_impl_branchesOf _ t wa (h.below hbel (Nat.le_refl _)) hl (by omega)).mono ?_
    rintro e w2 ⟨vb,rfl,ob,B2⟩
    have s2:=B2.size
    obtain ⟨oa2,c2,rfl,hc2,hc3⟩:=ob.val
    have hfin2:=hfin.frame (w':=w2) (fun g hg => by cases hg;exact B2.block _ hgl)
    have hbel2:=hbel.trans (B2.mono hsr)
    go_wp2_with fail
    go_loopw [29] (fun i wq => ∃ q:Nat,q ≤ (brs t).length∧i = .int .i64 q∧Row wq (.slice (some ⟨w.heap.size,0,none⟩) k k) 1 k ((numITo f t k step q).map (Value.int .i64)) (some w.heap.size)∧Own (RS (RS RI)) wa.heap.size w2.heap.size wq [.slice oa2 (brs t).length c2] (brs t)∧Below w.heap.size w wq∧w2.heap.size ≤ wq.heap.size) (fun i _ => (brs t).length - (intOf i).toNat)
    case atStart => exact ⟨0,Nat.zero_le _,rfl,hfin2,ob,hbel2,by omega⟩
    case round =>
     obtain ⟨q,hq,rfl,hrowq,hob,hbelq,hszq⟩:=hrel
     obtain ⟨wo,rfl⟩:∃ wo:World,wo = wr:=⟨_,rfl⟩
     by_cases hlq:q < (brs t).length
     ·have hsucc:=Lib.hid (numITo_succ f t k step q hlq)
      have hlen:=Lib.hid (numITo_len f t k step q hq)
      have hlen1:=Lib.hid (numITo_len f t k step (q + 1) hlq)
      have hbl:=brs_lev hl _ (List.getElem_mem hlq)
      have hbs:=brs_short hl _ (List.getElem_mem hlq)
      obtain ⟨g,cap,h0,hv,_,_,hg1,hg2,hcell,hel⟩:=hob.elem q hlq
      simp only [Value.slice.injEq,true_and] at hv
      obtain ⟨rfl,rfl⟩:=hv
      go_wp2_with fail
      refine (IH.out _ h0 _ hel.rd hbl (by omega) (by omega)).mono ?_
      rintro e w3 ⟨vl,rfl,ol,B3⟩
      have s3:=B3.size
      obtain ⟨oa3,c3,hvl,_,_⟩:=ol.val
      rw [numI_len] at hvl
      subst hvl
      have hrow3:=hrowq.frame (w':=w3) (fun g hg => by cases hg;exact B3.block _ (by omega))
      have hob3:=hob.below B3 (by omega)
      have hbel3:=hbelq.trans (B3.mono (by omega))
      go_wp2_with fail
      go_loopw [39] (fun i wx => ∃ x:Nat,x ≤ k∧i = .int .i64 x∧Row wx (.slice (some ⟨w.heap.size,0,none⟩) k k) 1 k (((numITo f t k step (q + 1)).take x ++ (numITo f t k step q).drop x).map (Value.int .i64)) (some w.heap.size)∧Own (RS RI) wo.heap.size w3.heap.size wx [.slice oa3 k c3] (numI f (brs t)[q] k step)∧Own (RS (RS RI)) wa.heap.size w2.heap.size wx [.slice (some ⟨g,0,none⟩) (brs t).length c2] (brs t)∧Below w.heap.size w wx∧w3.heap.size ≤ wx.heap.size) (fun i _ => k - (intOf i).toNat)
      case atStart => exact ⟨0,Nat.zero_le _,rfl,by simpa using hrow3,ol,hob3,hbel3,by omega⟩
      case round =>
       obtain ⟨x,hx,rfl,hrowx,holx,hobx,hbelx,hszx⟩:=hrel
       obtain ⟨wo2,rfl⟩:∃ wo2:World,wo2 = wr:=⟨_,rfl⟩
       by_cases hlx:x < k
       ·obtain ⟨oai,ci,I⟩:=holx.rd.ints
        have hvi:=I.val
        rw [numI_len] at hvi
        simp only [Value.slice.injEq,true_and] at hvi
        obtain ⟨rfl,rfl⟩:=hvi
        have hll:=numI_len f (brs t)[q] k step
        obtain ⟨bl,ofl,rfl,hbl1,hcl⟩:=I.get (k:=x) (by rw [hll];exact hlx)
        have Hll:=Lib.hid hll
        have HCL:=Lib.hid hcl
        clear hll hcl
        go_wp2_with fail
        go_loop [13,14] (fun s y => ∃ m:Nat,y = .int .i64 (x + step + m)∧m ≤ k - (x + step)∧s = .int .i64 (sumW (((numI f (brs t)[q] k step).drop (x + step)).take m))) (fun _ y => 100 - (intOf y).toNat)
        case atStart => exact ⟨0,by simp,Nat.zero_le _,rfl⟩
        case round =>
         obtain ⟨m,rfl,hm,rfl⟩:=hrel
         by_cases hly:x + step + m < k
         ·have hle:(x:Int) + (step:Int) + (m:Int) < (k:Int):=by omega
          have hge:(0:Int) ≤ (x:Int) + (step:Int) + (m:Int):=by omega
          have hc:=HCL.out (x + step + m) (by rw [Hll.out];exact hly)
          have ht:((x:Int) + (step:Int) + (m:Int)).toNat = x + step + m:=by omega
          have hxl:x + step + m < (numI f (brs t)[q] k step).length:=by rw [Hll.out];exact hly
          have hsum:Hid (sumW (((numI f (brs t)[q] k step).drop (x + step)).take (m + 1)) = wrap64 (sumW (((numI f (brs t)[q] k step).drop (x + step)).take m) + (numI f (brs t)[q] k step)[x + step + m])):=by
           show sumW _ = _
           rw [List.take_succ_eq_append_getElem (by simp;omega),sumW_snoc]
           simp
          go_wp2_with fail
          go_round
          case rel => exact ⟨m + 1,by go_num,by omega,by rw [hsum.out]⟩
          case measure => simp [intOf];omega
         ·have hle:¬ ((x:Int) + (step:Int) + (m:Int) < (k:Int)):=by omega
          have hlenq:=hlen.out
          have hlen1q:=hlen1.out
          have hxq:x < (numITo f t k step q).length:=by rw [hlenq];exact hlx
          have hxq1:x < (numITo f t k step (q + 1)).length:=by rw [hlen1q];exact hlx
          have hxa:x < ((numITo f t k step (q + 1)).take x ++ (numITo f t k step q).drop x).length:=by simp;omega
          have hval:((numITo f t k step (q + 1)).take x ++ (numITo f t k step q).drop x)[x] = (numITo f t k step q)[x]:=by
           rw [List.getElem_append_right (by simp;omega)]
           simp
           congr 1
           simp;omega
          have hnew:(numITo f t k step (q + 1))[x] = wrap64 ((numITo f t k step q)[x] * sumW (((numI f (brs t)[q] k step).drop (x + step)).take m)):=by
           have e:=hsucc.out
           have e2:(numITo f t k step (q + 1))[x] = (numStep k step (numITo f t k step q) (numI f (brs t)[q] k step))[x]'(by rw [numStep_len];exact hlx):=by simp only [e]
           rw [e2]
           have e3:((numI f (brs t)[q] k step).drop (x + step)).take m = (numI f (brs t)[q] k step).drop (x + step):=List.take_of_length_le (by simp;rw [Hll.out];omega)
           rw [e3]
           simp [numStep,hxq]
          have hcell2:=hrowx.cells x (.int .i64 (numITo f t k step q)[x]) (by rw [List.getElem?_map,List.getElem?_eq_getElem hxa,hval];rfl)
          have hfz:=hrowx.frozen x
          have hst:=(hrowx.store x (.int .i64 (numITo f t k step (q + 1))[x])).1
          rw [map_set_int,set_take _ _ _ hxq1 hxq] at hst
          have hch:Chg w.heap.size (w.heap.size + 1) wo2 (wo2.setCell ⟨w.heap.size,x,none⟩ (.int .i64 (numITo f t k step (q + 1))[x])):=Chg.of_grown (hrowx.store x (.int .i64 (numITo f t k step (q + 1))[x])).2 (fun g hg => by cases hg;omega)
          have hol':=holx.apart hch (by omega)
          have hob':=hobx.apart hch (by omega)
          have hbel':Below w.heap.size w (wo2.setCell ⟨w.heap.size,x,none⟩ (.int .i64 (numITo f t k step (q + 1))[x])):=hbelx.setCell (Nat.le_refl _) _
          have hsz':=hch.size
          rw [hnew] at hst hol' hob' hbel' hsz'
          clear hch hval hnew hlenq hlen1q
          go_wp2_with fail
          go_roundw
          case rel => exact ⟨x + 1,by omega,by go_num,hst,hol',hob',hbel',by omega⟩
          case measure => simp [intOf];omega
       ·have hxe:x = k:=by omega
        have hfinx:Row wo2 (.slice (some ⟨w.heap.size,0,none⟩) k k) 1 k ((numITo f t k step (q + 1)).map (Value.int .i64)) (some w.heap.size):=by
         have e:(numITo f t k step (q + 1)).take x ++ (numITo f t k step q).drop x = numITo f t k step (q + 1):=by
          rw [List.take_of_length_le (by rw [hlen1.out];omega),List.drop_of_length_le (by rw [hlen.out];omega),List.append_nil]
         rw [e] at hrowx;exact hrowx
        clear hxe hrowx
        go_wp2_with fail
        go_roundw
        case rel => exact ⟨q + 1,by omega,by go_num,hfinx,hobx,hbelx,by omega⟩
        case measure => simp [intOf];omega
     ·have hfinq:Own (RS RI) w.heap.size wo.heap.size wo [.slice (some ⟨w.heap.size,0,none⟩) k k] (numI (f + 1) t k step):=by
       have e:=numITo_all f t k step q (by omega)
       rw [← e]
       have hl2:=numITo_len f t k step q hq
       have hr:Row wo (.slice (some ⟨w.heap.size,0,none⟩) k k) 1 (numITo f t k step q).length ((numITo f t k step q).map (Value.int .i64)) (some w.heap.size):=by rw [hl2];exact hrowq
       exact hr.OwnI (numITo_in f t k step q hq) (fun g hg => by cases hg;exact Nat.le_refl _)
      go_wp2_with fail
      go_ret
      exact ⟨_,rfl,hfinq,hbelq⟩
end Go.Proofs.Ytofpjonggpjneaa
namespace Go.Proofs.Ytofpjonggpjneaa
open Go.RowKit
theorem lev8_levN {t:List Int} (h:lev8 t = true):LevP t∧t.length ≤ 8:=by
 unfold lev8 levB at h
 simp at h
 exact ⟨h.2,h.1⟩
theorem sumW_take_succ (l:List Int) (i:Nat) (h:i < l.length):sumW (l.take (i + 1)) = wrap64 (sumW (l.take i) + l[i]):=by
 rw [List.take_succ_eq_append_getElem h,sumW_snoc]
set_option maxHeartbeats 1000000 in
theorem c_impl_countNumberings (gap:Nat) (hg:gap ≤ 1) (v:Value) (k:Int) (t:List Int) (w:World) (h:Rd (RS RI) w [v] t) (hk:In64 k) :
  Calls Try.prog 93 #[v,.int .i64 k,.int .i64 gap] w (RetV w (.tuple #[.int .i64 (countNum t k gap).1,.int .i64 (countNum t k gap).2])):=by
 cases h8:lev8 t
 ·have e:countNum t k gap = (0,1):=by unfold countNum;rw [h8];rfl
  rw [e]
  go_enter Try.func93,Try.ntmps93
  go_wp2_with (go_at_call 49;refine (c_impl_IsLevels _ t _ h).mono ?_;rintro e w' ⟨rfl,rfl⟩)
  go_ret2
  exact ⟨rfl,Below.refl _ _⟩
 ·cases hr:inR k 0 10
  ·have e:countNum t k gap = (0,2):=by unfold countNum;rw [h8,hr];rfl
   rw [e]
   go_enter Try.func93,Try.ntmps93
   go_wp2_with (first|(go_at_call 49;refine (c_impl_IsLevels _ t _ h).mono ?_;rintro e w' ⟨rfl,rfl⟩)|(go_at_call 95;refine (c_impl_inRange _ _ _ _).mono ?_;rintro e w' ⟨rfl,rfl⟩))
   go_ret2
   exact ⟨rfl,Below.refl _ _⟩
  ·obtain ⟨n,rfl,hn⟩:∃ n:Nat,k = n∧n ≤ 10:=by
    simp [inR] at hr
    exact ⟨k.toNat,by omega,by omega⟩
   have e:countNum t n gap = (sumW (numI 9 t n gap),0):=by unfold countNum;rw [h8,hr];simp
   rw [e]
   obtain ⟨hl,hl8⟩:=lev8_levN h8
   have E:=Lib.hid e
   clear e
   go_enter Try.func93,Try.ntmps93
   go_wp2_with (first|(go_at_call 49;refine (c_impl_IsLevels _ t _ h).mono ?_;rintro e w' ⟨rfl,rfl⟩)|(go_at_call 95;refine (c_impl_inRange _ _ _ _).mono ?_;rintro e w' ⟨rfl,rfl⟩))
   refine (c_impl_numberings n gap hn hg 9 t v w h hl (by omega) (by omega)).mono ?_
   rintro e w1 ⟨vl,rfl,ol,B1⟩
   obtain ⟨oai,ci,I⟩:=ol.rd.ints
   have hvi:=I.val
   rw [numI_len] at hvi
   subst hvi
   have hll:=numI_len 9 t n gap
   have hcl:=I.le
   have hcc:=I.capLe
   unfold maxLen at hcc
   go_wp2_with fail
   go_loop [8,24] (fun s i => ∃ j:Nat,j ≤ n∧i = .int .i64 j∧s = .int .i64 (sumW ((numI 9 t n gap).take j))) (fun _ i => n - (intOf i).toNat)
   case atStart => exact ⟨0,Nat.zero_le _,rfl,rfl⟩
   case round =>
    obtain ⟨j,hj,rfl,rfl⟩:=hrel
    by_cases hlt:j < n
    ·have hjl:j < (numI 9 t n gap).length:=by rw [hll];exact hlt
     obtain ⟨bl,ofl,rfl,hbl1,hc⟩:=I.get hjl
     have g:=hc j hjl
     have hs:=Lib.hid (sumW_take_succ (numI 9 t n gap) j hjl)
     clear hc hll
     go_wp2_with fail
     go_round
     case rel => exact ⟨j + 1,by omega,by go_num,by rw [hs.out]⟩
     case measure => simp [intOf];omega
    ·have hf:sumW ((numI 9 t n gap).take j) = sumW (numI 9 t n gap):=by rw [List.take_of_length_le (by rw [hll];omega)]
     have HF:=Lib.hid hf
     clear hf hll
     go_wp2_with fail
     go_ret2
     exact ⟨by rw [← HF.out];rfl,B1⟩
set_option maxHeartbeats 1000000 in
theorem c_spec_l05Numbered (gap:Nat) (hg:gap ≤ 1) (v:Value) (k:Int) (t:List Int) (w:World) (h:Rd (RS RI) w [v] t) (hk:In64 k) (hsz:t.length < 1000000000000000) :
  Calls Try.prog 94 #[v,.int .i64 k,.int .i64 gap] w (RetV w (.tuple #[.int .i64 (countNum t k gap).1,.int .i64 (countNum t k gap).2])):=by
 cases h8:lev8 t
 ·have e:countNum t k gap = (0,1):=by unfold countNum;rw [h8];rfl
  rw [e]
  go_enter Try.func94,Try.ntmps94
  go_wp2_with (go_at_call 110;refine (c_spec_l03Is _ t _ h hsz).mono ?_;rintro e w' ⟨rfl,nd,rfl⟩)
  go_ret2
  exact ⟨rfl,Below.drewN _ _ _⟩
 ·cases hr:inR k 0 10
  ·have e:countNum t k gap = (0,2):=by unfold countNum;rw [h8,hr];rfl
   rw [e]
   go_enter Try.func94,Try.ntmps94
   go_wp2_with (first|(go_at_call 110;refine (c_spec_l03Is _ t _ h hsz).mono ?_;rintro e w' ⟨rfl,nd,rfl⟩)|(go_at_call 97;refine (c_spec_l01In _ _ _ _).mono ?_;rintro e w' ⟨rfl,rfl⟩))
   go_ret2
   exact ⟨rfl,Below.drewN _ _ _⟩
  ·obtain ⟨n,rfl,hn⟩:∃ n:Nat,k = n∧n ≤ 10:=by
    simp [inR] at hr
    exact ⟨k.toNat,by omega,by omega⟩
   have e:countNum t n gap = (sumW ((List.range n).map fun i => numS 9 t (i + 1) n gap),0):=by unfold countNum;rw [h8,hr,numI_eq];simp
   rw [e]
   obtain ⟨hl,hl8⟩:=lev8_levN h8
   have E:=Lib.hid e
   clear e
   obtain ⟨oa,c1,hv,_,_⟩:=h.val
   subst hv
   go_enter Try.func94,Try.ntmps94
   go_wp2_with (first|(go_at_call 110;refine (c_spec_l03Is _ t _ h hsz).mono ?_;rintro e w' ⟨rfl,nd,rfl⟩)|(go_at_call 97;refine (c_spec_l01In _ _ _ _).mono ?_;rintro e w' ⟨rfl,rfl⟩))
   have hb0:=Below.drewN w.heap.size w nd
   go_loopw [8,9] (fun s i wr => ∃ j:Nat,j ≤ n∧i = .int .i64 (j + 1)∧s = .int .i64 (sumW ((List.range j).map fun i => numS 9 t (i + 1) n gap))∧Below w.heap.size w wr) (fun _ i _ => 100 - (intOf i).toNat)
   case atStart => exact ⟨0,Nat.zero_le _,by simp,rfl,hb0⟩
   case round =>
    obtain ⟨j,hj,rfl,rfl,hbel⟩:=hrel
    by_cases hlt:j < n
    ·have hle:(j:Int) + 1 ≤ (n:Int):=by omega
     go_wp2_with fail
     rw [show ((j:Int) + 1) = ((j + 1:Nat):Int) by omega]
     refine (c_spec_l05Numberings n gap hn hg 9 t _ (j + 1) _ (h.below hbel (Nat.le_refl _)) hl (by omega) (by omega) (by omega)).mono ?_
     rintro e w3 ⟨rfl,B3⟩
     have s3:=hbel.size
     rw [show ((j + 1:Nat):Int) = ((j:Int) + 1) by omega]
     go_wp2_with fail
     go_roundw
     case rel =>
      refine ⟨j + 1,by omega,by go_num,?_,hbel.trans (B3.mono s3)⟩
      rw [List.range_succ,List.map_append,List.map_singleton,sumW_snoc]
     case measure => simp [intOf];omega
    ·have hje:j = n:=by omega
     have hle:¬ ((j:Int) + 1 ≤ (n:Int)):=by omega
     have Hj:=Lib.hid hje
     clear hje
     go_wp2_with fail
     go_ret2
     exact ⟨by rw [Hj.out];rfl,hbel⟩
set_option maxHeartbeats 400000 in
theorem k_impl_CountRising (v:Value) (k:Int) (t:List Int) (w:World) (h:Rd (RS RI) w [v] t) (hk:In64 k) :
  Calls Try.prog 15 #[v,.int .i64 k] w (RetV w (.tuple #[.int .i64 (countNum t k 0).1,.int .i64 (countNum t k 0).2])):=by
 go_enter Try.func15,Try.ntmps15
 go_wp2_with fail
 refine (c_impl_countNumberings 0 (by omega) v k t w h hk).mono ?_
 rintro e w1 ⟨rfl,B1⟩
 go_wp2_with fail
 go_ret2
 exact ⟨rfl,B1⟩
set_option maxHeartbeats 400000 in
theorem k_impl_CountStrict (v:Value) (k:Int) (t:List Int) (w:World) (h:Rd (RS RI) w [v] t) (hk:In64 k) :
  Calls Try.prog 17 #[v,.int .i64 k] w (RetV w (.tuple #[.int .i64 (countNum t k 1).1,.int .i64 (countNum t k 1).2])):=by
 go_enter Try.func17,Try.ntmps17
 go_wp2_with fail
 refine (c_impl_countNumberings 1 (by omega) v k t w h hk).mono ?_
 rintro e w1 ⟨rfl,B1⟩
 go_wp2_with fail
 go_ret2
 exact ⟨rfl,B1⟩
set_option maxHeartbeats 400000 in
theorem k_spec_CountRising (v:Value) (k:Int) (t:List Int) (w:World) (h:Rd (RS RI) w [v] t) (hk:In64 k) (hsz:t.length ≤ 1048576) :
  Calls Try.prog 16 #[v,.int .i64 k] w (RetV w (.tuple #[.int .i64 (countNum t k 0).1,.int .i64 (countNum t k 0).2])):=by
 go_enter Try.func16,Try.ntmps16
 go_wp2_with fail
 refine (c_spec_l05Numbered 0 (by omega) v k t w h hk (by omega)).mono ?_
 rintro e w1 ⟨rfl,B1⟩
 go_wp2_with fail
 go_ret2
 exact ⟨rfl,B1⟩
end Go.Proofs.Ytofpjonggpjneaa
namespace Go.Proofs.Ytofpjonggpjneaa
open Go.RowKit
theorem countNum_in64 (t:List Int) (k:Int) (g:Nat):In64 (countNum t k g).1∧In64 (countNum t k g).2:=by
 unfold countNum
 have hs:∀ l:List Int,In64 (sumW l):=by
  intro l
  unfold sumW
  have:∀ (l:List Int) (a:Int),In64 a→In64 (l.foldl (fun a b => wrap64 (a + b)) a):=by
   intro l
   induction l with
   | nil => intro a h;exact h
   | cons b l ih => intro a _;exact ih _ (by show In64 (wrap64 (a + b));unfold In64 wrap64;omega)
  exact this l 0 (by unfold In64;omega)
 split
 ·split
  ·exact ⟨hs _,by unfold In64;omega⟩
  ·exact ⟨by unfold In64;omega,by unfold In64;omega⟩
 ·exact ⟨by unfold In64;omega,by unfold In64;omega⟩
theorem a_CountRising (t:List Int) (k:Int) (hk:In64 k):AFn Try.prog 15 [eL t,eI k] (· = [.val (.int (countNum t k 0).1),.val (.int (countNum t k 0).2)]) :=
 AFn.of_v2 (enters_of Try.func15 rfl rfl) (fun _ _ => rdV_int.2 ⟨rfl,(countNum_in64 t k 0).1⟩) (fun _ _ => rdV_int.2 ⟨rfl,(countNum_in64 t k 0).2⟩) (fun w A vs ⟨v1,_,e1,h1,v2,_,e2,h2,e3⟩ => by
  subst e3;subst e2;subst e1
  rw [arg_int h2]
  exact k_impl_CountRising v1 k t w (Rd.of (rd1 h1)) hk)
theorem a_CountStrict (t:List Int) (k:Int) (hk:In64 k):AFn Try.prog 17 [eL t,eI k] (· = [.val (.int (countNum t k 1).1),.val (.int (countNum t k 1).2)]) :=
 AFn.of_v2 (enters_of Try.func17 rfl rfl) (fun _ _ => rdV_int.2 ⟨rfl,(countNum_in64 t k 1).1⟩) (fun _ _ => rdV_int.2 ⟨rfl,(countNum_in64 t k 1).2⟩) (fun w A vs ⟨v1,_,e1,h1,v2,_,e2,h2,e3⟩ => by
  subst e3;subst e2;subst e1
  rw [arg_int h2]
  exact k_impl_CountStrict v1 k t w (Rd.of (rd1 h1)) hk)
theorem a_spec_CountRising (t:List Int) (k:Int) (hk:In64 k) (hsz:t.length ≤ 1048576):AFn Try.prog 16 [eL t,eI k] (· = [.val (.int (countNum t k 0).1),.val (.int (countNum t k 0).2)]) :=
 AFn.of_v2 (enters_of Try.func16 rfl rfl) (fun _ _ => rdV_int.2 ⟨rfl,(countNum_in64 t k 0).1⟩) (fun _ _ => rdV_int.2 ⟨rfl,(countNum_in64 t k 0).2⟩) (fun w A vs ⟨v1,_,e1,h1,v2,_,e2,h2,e3⟩ => by
  subst e3;subst e2;subst e1
  rw [arg_int h2]
  exact k_spec_CountRising v1 k t w (Rd.of (rd1 h1)) hk hsz)
end Go.Proofs.Ytofpjonggpjneaa
namespace Go.Proofs.Ytofpjonggpjneaa
open Go.RowKit
def piece8 (i:Nat):List (List Int):=(lists8.drop (60 * i)).take 60
theorem lists8_len:lists8.length = 626:=by decide +kernel
theorem pieces_all {p:List Int→Bool} (h:∀ i,i < 11→(piece8 i).all p = true):lists8.all p = true:=by
 refine List.all_eq_true.2 fun t ht => ?_
 obtain ⟨n,hn,rfl⟩:=List.getElem_of_mem ht
 have hl:=lists8_len
 refine List.all_eq_true.1 (h (n / 60) (by omega)) _ ?_
 refine List.mem_iff_getElem.2 ⟨n % 60,?_,?_⟩
 ·simp [piece8,hl];omega
 ·simp only [piece8,List.getElem_take,List.getElem_drop]
  congr 1;omega
end Go.Proofs.Ytofpjonggpjneaa
namespace Go.Proofs.Ytofpjonggpjneaa
open Go.RowKit
end Go.Proofs.Ytofpjonggpjneaa
namespace Go.Proofs.Ytofpjonggpjneaa
end Go.Proofs.Ytofpjonggpjneaa
namespace Go.Proofs.Ytofpjonggpjneaa
open Go.RowKit
def negS (n:Nat) (vs:List Int) (a:Nat):Nat→Int × Int × Int
 | 0 => (1,1,0)
 | j + 1 => (((negS n vs a j).1 * ((n:Int) + 2 - (j + 1:Nat))).tdiv (j + 1:Nat),-(negS n vs a j).2.1,
   (negS n vs a j).2.2 + (negS n vs a j).2.1 * ((negS n vs a j).1 * ((n:Int) + 2 - (j + 1:Nat))).tdiv (j + 1:Nat) * vs.getD (a + (j + 1)) 0)
def okB (x:Int):Bool:=decide (-1000000000000 ≤ x) && decide (x ≤ 1000000000000)
def negB (n:Nat) (vs:List Int) (a j:Nat):Bool :=
 okB ((negS n vs a j).1 * ((n:Int) + 2 - (j + 1:Nat))) && okB (negS n vs a (j + 1)).1 && okB (negS n vs a (j + 1)).2.1 && okB (negS n vs a (j + 1)).2.2 && okB ((negS n vs a j).2.1 * (negS n vs a (j + 1)).1) && okB ((negS n vs a j).2.1 * (negS n vs a (j + 1)).1 * vs.getD (a + (j + 1)) 0)
def valsN (t:List Int):List Int:=(List.range (t.length + 1)).map fun (m:Nat) => (countNum t (m:Int) 0).1
def negX (t:List Int):Int:=(negS t.length (0 :: 0 :: valsN t) 1 (t.length + 1)).2.2
def negY (t:List Int):Int:=(negS t.length (0 :: negX t :: valsN t) 0 (t.length + 1)).2.2
def sgnN (t:List Int):Int:=bif t.length % 2 == 1 then -1 else 1
def numOK (t:List Int):Bool :=
 (List.range 11).all (fun (k:Nat) => decide ((countNum t (k:Int) 1).1 ≤ (countNum t (k:Int) 0).1)) &&
 (List.range (t.length + 1)).all (fun j => negB t.length (0 :: 0 :: valsN t) 1 j && negB t.length (0 :: negX t :: valsN t) 0 j) &&
 negX t == sgnN t * (countNum t 1 1).1 && negY t == sgnN t * (countNum t 2 1).1
set_option maxRecDepth 100000
theorem num_check0:(piece8 0).all numOK = true:=by decide +kernel
theorem num_check1:(piece8 1).all numOK = true:=by decide +kernel
theorem num_check2:(piece8 2).all numOK = true:=by decide +kernel
theorem num_check3:(piece8 3).all numOK = true:=by decide +kernel
theorem num_check4:(piece8 4).all numOK = true:=by decide +kernel
theorem num_check5:(piece8 5).all numOK = true:=by decide +kernel
theorem num_check6:(piece8 6).all numOK = true:=by decide +kernel
theorem num_check7:(piece8 7).all numOK = true:=by decide +kernel
theorem num_check8:(piece8 8).all numOK = true:=by decide +kernel
theorem num_check9:(piece8 9).all numOK = true:=by decide +kernel
theorem num_check10:(piece8 10).all numOK = true:=by decide +kernel
theorem num_check:lists8.all numOK = true:=pieces_all fun i hi => by
 match i,hi with
 | 0,_ => exact num_check0
 | 1,_ => exact num_check1
 | 2,_ => exact num_check2
 | 3,_ => exact num_check3
 | 4,_ => exact num_check4
 | 5,_ => exact num_check5
 | 6,_ => exact num_check6
 | 7,_ => exact num_check7
 | 8,_ => exact num_check8
 | 9,_ => exact num_check9
 | 10,_ => exact num_check10
end Go.Proofs.Ytofpjonggpjneaa
namespace Go.Proofs.Ytofpjonggpjneaa
open Go.RowKit
theorem okB_iff {x:Int} (h:okB x = true):-1000000000000 ≤ x∧x ≤ 1000000000000:=by
 unfold okB at h
 simpa using h
theorem negS_at {n:Nat} {vs:List Int} {a q:Nat} (h:negB n vs a q = true) :
  w64 ((negS n vs a q).1 * ((n:Int) + 2 - (q + 1:Nat))) = (negS n vs a q).1 * ((n:Int) + 2 - (q + 1:Nat))∧w64 (negS n vs a (q + 1)).1 = (negS n vs a (q + 1)).1 ∧
  w64 (negS n vs a (q + 1)).2.1 = (negS n vs a (q + 1)).2.1∧w64 (negS n vs a (q + 1)).2.2 = (negS n vs a (q + 1)).2.2 ∧
  w64 ((negS n vs a q).2.1 * (negS n vs a (q + 1)).1) = (negS n vs a q).2.1 * (negS n vs a (q + 1)).1∧w64 ((negS n vs a q).2.1 * (negS n vs a (q + 1)).1 * vs.getD (a + (q + 1)) 0) = (negS n vs a q).2.1 * (negS n vs a (q + 1)).1 * vs.getD (a + (q + 1)) 0:=by
 unfold negB at h
 simp only [Bool.and_eq_true] at h
 obtain ⟨⟨⟨⟨⟨h1,h2⟩,h3⟩,h4⟩,h5⟩,h6⟩:=h
 have h1:=okB_iff h1;have h2:=okB_iff h2;have h3:=okB_iff h3;have h4:=okB_iff h4;have h5:=okB_iff h5;have h6:=okB_iff h6
 exact ⟨w64_eq (by omega),w64_eq (by omega),w64_eq (by omega),w64_eq (by omega),w64_eq (by omega),w64_eq (by omega)⟩
theorem getD_lt {l:List Int} {i:Nat} (h:i < l.length):l.getD i 0 = l[i]:=by rw [List.getD_eq_getElem?_getD,List.getElem?_eq_getElem h];rfl
structure NumF (t:List Int):Prop where
 strict:∀ k:Nat,k < 11→(countNum t (k:Int) 1).1 ≤ (countNum t (k:Int) 0).1
 b1:∀ q,q < t.length + 1→negB t.length (0 :: 0 :: valsN t) 1 q = true
 b0:∀ q,q < t.length + 1→negB t.length (0 :: negX t :: valsN t) 0 q = true
 x:negX t = sgnN t * (countNum t 1 1).1
 y:negY t = sgnN t * (countNum t 2 1).1
theorem num_at {t:List Int} (h:lev8 t = true):NumF t:=by
 have h:=lev8_all num_check h
 unfold numOK at h
 simp only [Bool.and_eq_true,beq_iff_eq] at h
 obtain ⟨⟨⟨h1,h2⟩,h3⟩,h4⟩:=h
 refine ⟨fun k hk => ?_,fun q hq => ?_,fun q hq => ?_,h3,h4⟩
 ·exact of_decide_eq_true (List.all_eq_true.1 h1 k (List.mem_range.2 hk))
 ·have:=List.all_eq_true.1 h2 q (List.mem_range.2 hq)
  rw [Bool.and_eq_true] at this;exact this.1
 ·have:=List.all_eq_true.1 h2 q (List.mem_range.2 hq)
  rw [Bool.and_eq_true] at this;exact this.2
noncomputable def TNb:Tab Try.prog :=
 ((Tab.none.add 15 (tab2 codL codI fun t n => if -100 ≤ n∧n ≤ 100 then some [.val (.int (countNum t n 0).1),.val (.int (countNum t n 0).2)] else none) (tab2_ok fun t n rs h => by split at h;cases h;exact a_CountRising t n (by unfold In64;omega);cases h)).add
   17 (tab2 codL codI fun t n => if -100 ≤ n∧n ≤ 100 then some [.val (.int (countNum t n 1).1),.val (.int (countNum t n 1).2)] else none) (tab2_ok fun t n rs h => by split at h;cases h;exact a_CountStrict t n (by unfold In64;omega);cases h)).add
   16 (tab2 codL codI fun t n => if (-100 ≤ n∧n ≤ 100)∧t.length ≤ 1000 then some [.val (.int (countNum t n 0).1),.val (.int (countNum t n 0).2)] else none) (tab2_ok fun t n rs h => by split at h;cases h;exact a_spec_CountRising t n (by unfold In64;omega) (by omega);cases h)
set_option maxRecDepth 20000 in
set_option maxHeartbeats 16000000 in
theorem a_FnNumberings (code:List Int) (hc:Bytes code):AFn Try.prog 3 [eCode code] (· = [.val (.bool true)]):=by
 have hbg:=a_big code
 by_cases hbig:4096 < code.length
 ·rw [decide_eq_true hbig] at hbg
  simp only [eCode,dCode] at hbg
  refine AFn.of_runs (cfg_ok 169) Try.func3 rfl rfl rfl (by simp only [List.length_cons,List.length_nil];decide) ?_
  have hres:Try.f3.results.toList = [.tmp 2]:=rfl
  have hrts:Try.f3.resultTypes.toList = [4]:=rfl
  simp only [argRegs,argAV1,eL,eI,eLL,eB,Nat.zero_add,Nat.reduceAdd,eCode,dCode]
  intro M
  refine RunK.of ?_
  repeat' (first|with_reducible (first|refine Q1 ?_|refine Q2 ?_|refine Q3 ?_|refine Q4 ?_|refine Q5 ?_|refine Q6 ?_|refine Q7 ?_|refine Q8 ?_|refine Q9 ?_|refine Qa ?_|refine Qb ?_|refine Qc ?_|refine Qd ?_|refine Qe ?_|refine Qf ?_)|((with_reducible refine Qo ?_ ?_);focus rfl)|((with_reducible first|refine QT 25 (l:=?_) ?_ ?_|refine QF 25 (l:=?_) ?_ ?_);rotate_left 1;focus (simp only [Zu,Nat.reduceSub,Nat.reduceBEq];with_reducible rfl))|((with_reducible first|refine QS (cfg_ok 169) (Tab.none.at' 13 hbg) (s':=?_) ?_ ?_|refine QC (b:=?_) ?_ ?_);rotate_left 1;focus ((with_reducible refine QW ?_);simp only [Zg,seval,if_true,if_false,reduceCtorEq,Nat.reduceEqDiff];with_reducible rfl))|((with_reducible refine QD (cfg_ok 169) (Tab.none.at' 13 hbg) mixed_ok (tr:=?_) (s':=?_) ?_ ?_ ?_);rotate_left 2;(focus ((with_reducible refine QW ?_);simp only [Zg,Zd,seval,if_true,if_false,reduceCtorEq,Nat.reduceEqDiff];with_reducible rfl));focus ((with_reducible refine QK ?_);simp only [Zk];kernel_rfl)))
  (refine Ends.mk (by simp) (rs:=?_) (ks:=?_) hres hrts ?_ ?_ ?_;rotate_left 2;(focus (simp only [Ze,Zg,seval,if_true,if_false,reduceCtorEq,Nat.reduceEqDiff];with_reducible rfl));(focus simp);focus (first|with_reducible rfl|(simp only [Zv];done)))
 rw [decide_eq_false hbig] at hbg
 have hl:code.length ≤ 1000000000:=by omega
 have hdr:=a_DrawCountRising hc hl
 obtain ⟨hok,hk⟩:=drawCR_ok hc
 obtain ⟨⟨t,k⟩,hp⟩:∃ p,p = drawCR code:=⟨_,rfl⟩
 rw [← hp] at hdr hok hk
 simp only at hdr hok hk
 have hkb:-1 ≤ k∧k ≤ 11:=by
  unfold crList at hk
  simp only [List.mem_cons,List.not_mem_nil,or_false] at hk
  omega
 have htl:=hok.len
 have hlm:(t.map eI).length = t.length:=List.length_map _
 simp only [eCode,dCode] at hbg hdr
 have k1:(-100 ≤ k∧k ≤ 100) = True:=eq_true (by omega)
 have k2:(t.length ≤ 1000) = True:=eq_true (by omega)
 refine AFn.of_runs (cfg_ok 169) Try.func3 rfl rfl rfl (by simp only [List.length_cons,List.length_nil];decide) ?_
 have hres:Try.f3.results.toList = [.tmp 2]:=rfl
 have hrts:Try.f3.resultTypes.toList = [4]:=rfl
 simp only [argRegs,argAV1,eL,eI,eLL,eB,Nat.zero_add,Nat.reduceAdd,eCode,dCode]
 intro M
 refine RunK.of ?_
 ((repeat' (first|with_reducible (first|refine Q1 ?_|refine Q2 ?_|refine Q3 ?_|refine Q4 ?_|refine Q5 ?_|refine Q6 ?_|refine Q7 ?_|refine Q8 ?_|refine Q9 ?_|refine Qa ?_|refine Qb ?_|refine Qc ?_|refine Qd ?_|refine Qe ?_|refine Qf ?_)|((with_reducible refine Qo ?_ ?_);focus rfl)|((with_reducible first|refine QT 25 (l:=?_) ?_ ?_|refine QF 25 (l:=?_) ?_ ?_);rotate_left 1;focus (simp only [Zu,Nat.reduceSub,Nat.reduceBEq];with_reducible rfl))|((with_reducible refine QC (b:=?_) ?_ ?_);rotate_left 1;focus ((with_reducible refine QW ?_);simp only [Zg,seval,if_true,if_false,reduceCtorEq,Nat.reduceEqDiff];with_reducible rfl))));((with_reducible refine QS (cfg_ok 169) Tab.none (s':=?_) ?_ ?_);rotate_left 1;focus ((with_reducible refine QW ?_);simp only [Zg,seval,if_true,if_false,reduceCtorEq,Nat.reduceEqDiff];with_reducible rfl));(repeat' (first|with_reducible (first|refine Q1 ?_|refine Q2 ?_|refine Q3 ?_|refine Q4 ?_|refine Q5 ?_|refine Q6 ?_|refine Q7 ?_|refine Q8 ?_|refine Q9 ?_|refine Qa ?_|refine Qb ?_|refine Qc ?_|refine Qd ?_|refine Qe ?_|refine Qf ?_)|((with_reducible refine Qo ?_ ?_);focus rfl)|((with_reducible first|refine QT 25 (l:=?_) ?_ ?_|refine QF 25 (l:=?_) ?_ ?_);rotate_left 1;focus (simp only [Zu,Nat.reduceSub,Nat.reduceBEq];with_reducible rfl))|((with_reducible refine QC (b:=?_) ?_ ?_);rotate_left 1;focus ((with_reducible refine QW ?_);simp only [Zg,seval,if_true,if_false,reduceCtorEq,Nat.reduceEqDiff];with_reducible rfl)))))
 ((repeat' (first|with_reducible (first|refine Q1 ?_|refine Q2 ?_|refine Q3 ?_|refine Q4 ?_|refine Q5 ?_|refine Q6 ?_|refine Q7 ?_|refine Q8 ?_|refine Q9 ?_|refine Qa ?_|refine Qb ?_|refine Qc ?_|refine Qd ?_|refine Qe ?_|refine Qf ?_)|((with_reducible refine Qo ?_ ?_);focus rfl)|((with_reducible first|refine QT 25 (l:=?_) ?_ ?_|refine QF 25 (l:=?_) ?_ ?_);rotate_left 1;focus (simp only [Zu,Nat.reduceSub,Nat.reduceBEq];with_reducible rfl))|((with_reducible refine QC (b:=?_) ?_ ?_);rotate_left 1;focus ((with_reducible refine QW ?_);simp only [Zg,seval,if_true,if_false,reduceCtorEq,Nat.reduceEqDiff];with_reducible rfl))));((with_reducible refine QS (cfg_ok 169) (Tab.none.at' 13 hbg) (s':=?_) ?_ ?_);rotate_left 1;focus ((with_reducible refine QW ?_);simp only [Zg,seval,if_true,if_false,reduceCtorEq,Nat.reduceEqDiff];with_reducible rfl));(repeat' (first|with_reducible (first|refine Q1 ?_|refine Q2 ?_|refine Q3 ?_|refine Q4 ?_|refine Q5 ?_|refine Q6 ?_|refine Q7 ?_|refine Q8 ?_|refine Q9 ?_|refine Qa ?_|refine Qb ?_|refine Qc ?_|refine Qd ?_|refine Qe ?_|refine Qf ?_)|((with_reducible refine Qo ?_ ?_);focus rfl)|((with_reducible first|refine QT 25 (l:=?_) ?_ ?_|refine QF 25 (l:=?_) ?_ ?_);rotate_left 1;focus (simp only [Zu,Nat.reduceSub,Nat.reduceBEq];with_reducible rfl))|((with_reducible refine QC (b:=?_) ?_ ?_);rotate_left 1;focus ((with_reducible refine QW ?_);simp only [Zg,seval,if_true,if_false,reduceCtorEq,Nat.reduceEqDiff];with_reducible rfl)))))
 ((repeat' (first|with_reducible (first|refine Q1 ?_|refine Q2 ?_|refine Q3 ?_|refine Q4 ?_|refine Q5 ?_|refine Q6 ?_|refine Q7 ?_|refine Q8 ?_|refine Q9 ?_|refine Qa ?_|refine Qb ?_|refine Qc ?_|refine Qd ?_|refine Qe ?_|refine Qf ?_)|((with_reducible refine Qo ?_ ?_);focus rfl)|((with_reducible first|refine QT 25 (l:=?_) ?_ ?_|refine QF 25 (l:=?_) ?_ ?_);rotate_left 1;focus (simp only [Zu,Nat.reduceSub,Nat.reduceBEq];with_reducible rfl))|((with_reducible refine QC (b:=?_) ?_ ?_);rotate_left 1;focus ((with_reducible refine QW ?_);simp only [Zg,seval,if_true,if_false,reduceCtorEq,Nat.reduceEqDiff,hlm];with_reducible rfl))));((with_reducible refine QS (cfg_ok 169) (Tab.none.at' 14 hdr) (s':=?_) ?_ ?_);rotate_left 1;focus ((with_reducible refine QW ?_);simp only [Zg,seval,if_true,if_false,reduceCtorEq,Nat.reduceEqDiff,hlm];with_reducible rfl));(repeat' (first|with_reducible (first|refine Q1 ?_|refine Q2 ?_|refine Q3 ?_|refine Q4 ?_|refine Q5 ?_|refine Q6 ?_|refine Q7 ?_|refine Q8 ?_|refine Q9 ?_|refine Qa ?_|refine Qb ?_|refine Qc ?_|refine Qd ?_|refine Qe ?_|refine Qf ?_)|((with_reducible refine Qo ?_ ?_);focus rfl)|((with_reducible first|refine QT 25 (l:=?_) ?_ ?_|refine QF 25 (l:=?_) ?_ ?_);rotate_left 1;focus (simp only [Zu,Nat.reduceSub,Nat.reduceBEq];with_reducible rfl))|((with_reducible refine QC (b:=?_) ?_ ?_);rotate_left 1;focus ((with_reducible refine QW ?_);simp only [Zg,seval,if_true,if_false,reduceCtorEq,Nat.reduceEqDiff,hlm];with_reducible rfl)))))
 refine RunK.frz 3 ?_
 refine RunK.fits (s0:=⟨[(3,.c (.val (.sl 1 (t.map eI)))),(4,.c (.val (.int k)))],[]⟩) ?_ ?_
 ·(repeat' (first|with_reducible refine Qn|((with_reducible refine Qr ?_ ?_);focus (first|with_reducible rfl|(simp only [Zz,Nat.reduceBEq,St.frz,frzR,frzH,look,AV.frz,AC.frz,Obj.frz,drop];done)|rfl))|((with_reducible refine Qj (o':=?_) ?_ ?_ ?_);rotate_left 1;focus rfl)|((with_reducible refine Qw ?_ ?_);(focus (first|with_reducible rfl|(simp only [Zv,St.frz,frzR,frzH,look,AV.frz,AC.frz,Obj.frz,drop];done)));focus (first|exact id|exact (fun h => nomatch h)|exact (fun _ => rfl)))))
  all_goals first|exact ⟨rfl,rfl⟩|exact ⟨rfl,rfl,id⟩
 have b0:((0:Int) != 0) = false:=by decide
 by_cases hgood:lev8 t = true∧inR k 0 10 = true
 rotate_left
 ·obtain ⟨e,he,hc0,hc1⟩:∃ e:Int,(e != 0) = true∧countNum t k 0 = (0,e)∧countNum t k 1 = (0,e):=by
   unfold countNum
   by_cases h8:lev8 t = true
   ·have hR:¬ inR k 0 10 = true:=fun h => hgood ⟨h8,h⟩
    exact ⟨2,by decide,by rw [if_pos h8,if_neg hR],by rw [if_pos h8,if_neg hR]⟩
   ·exact ⟨1,by decide,by rw [if_neg h8],by rw [if_neg h8]⟩
  have be:(e != e) = false:=by simp
  have be2:(e == e) = true:=by simp
  repeat' (first|with_reducible (first|refine Q1 ?_|refine Q2 ?_|refine Q3 ?_|refine Q4 ?_|refine Q5 ?_|refine Q6 ?_|refine Q7 ?_|refine Q8 ?_|refine Q9 ?_|refine Qa ?_|refine Qb ?_|refine Qc ?_|refine Qd ?_|refine Qe ?_|refine Qf ?_)|((with_reducible refine Qo ?_ ?_);focus rfl)|((with_reducible first|refine QT 25 (l:=?_) ?_ ?_|refine QF 25 (l:=?_) ?_ ?_);rotate_left 1;focus (simp only [Zu,Nat.reduceSub,Nat.reduceBEq];with_reducible rfl))|((with_reducible first|refine QS (cfg_ok 169) TNb (s':=?_) ?_ ?_|refine QC (b:=?_) ?_ ?_);rotate_left 1;focus ((with_reducible refine QW ?_);simp only [Zg,seval,if_true,if_false,reduceCtorEq,Nat.reduceEqDiff,TNb,TNb,k1,k2,and_self,hc0,hc1,be,be2,he,b0];with_reducible rfl))|((with_reducible refine QD (cfg_ok 169) TNb mixed_ok (tr:=?_) (s':=?_) ?_ ?_ ?_);rotate_left 2;(focus ((with_reducible refine QW ?_);simp only [Zg,Zd,seval,if_true,if_false,reduceCtorEq,Nat.reduceEqDiff,TNb,TNb,k1,k2,and_self,hc0,hc1,be,be2,he,b0];with_reducible rfl));focus ((with_reducible refine QK ?_);simp only [Zk];kernel_rfl)))
  (refine Ends.mk (by simp) (rs:=?_) (ks:=?_) hres hrts ?_ ?_ ?_;rotate_left 2;(focus (simp only [Ze,Zg,seval,if_true,if_false,reduceCtorEq,Nat.reduceEqDiff];with_reducible rfl));(focus simp);focus (first|with_reducible rfl|(simp only [Zv];done)))
 obtain ⟨h8,hR⟩:=hgood
 have hl8:=lev8_len h8
 have hN:=num_at h8
 have hcd:∀ (n:Int) (g:Nat),inR n 0 10 = true→(countNum t n g).2 = 0:=fun n g h => by unfold countNum;rw [if_pos h8,if_pos h]
 have hcp:∀ (n:Int) (g:Nat),inR n 0 10 = true→∃ x,countNum t n g = (x,0)∧x = (countNum t n g).1:=fun n g h => ⟨_,by rw [← hcd n g h],rfl⟩
 have hkn:∃ kn:Nat,k = kn∧kn < 11:=by
  unfold inR at hR
  simp only [Bool.and_eq_true,decide_eq_true_eq] at hR
  exact ⟨k.toNat,by omega,by omega⟩
 obtain ⟨x0,hc0,hx0⟩:=hcp k 0 hR
 obtain ⟨x1,hc1,hx1⟩:=hcp k 1 hR
 have hle:x1 ≤ x0:=by
  obtain ⟨kn,rfl,hkn⟩:=hkn
  rw [hx0,hx1]
  exact hN.strict kn hkn
 have i1:(x1 > x0) = False:=eq_false (by omega)
 have bx:(x0 != x0) = false:=by simp
 obtain ⟨X,hX⟩:∃ X,X = negX t:=⟨_,rfl⟩
 obtain ⟨Y,hY⟩:∃ Y,Y = negY t:=⟨_,rfl⟩
 obtain ⟨L,hL⟩:∃ L,L = valsN t:=⟨_,rfl⟩
 have hLl:L.length = t.length + 1:=by rw [hL];simp [valsN]
 obtain ⟨V,hV⟩:∃ V:Nat→List Int,V = fun i => if i = 0 then 0 :: 0 :: L else if i = 1 then 0 :: X :: L else Y :: X :: L:=⟨_,rfl⟩
 have hV0:V 0 = 0 :: 0 :: L:=by rw [hV];rfl
 have hV2:V 2 = Y :: X :: L:=by rw [hV];rfl
 repeat' (first|with_reducible (first|refine Q1 ?_|refine Q2 ?_|refine Q3 ?_|refine Q4 ?_|refine Q5 ?_|refine Q6 ?_|refine Q7 ?_|refine Q8 ?_|refine Q9 ?_|refine Qa ?_|refine Qb ?_|refine Qc ?_|refine Qd ?_|refine Qe ?_|refine Qf ?_)|((with_reducible refine Qo ?_ ?_);focus rfl)|((with_reducible first|refine QT 25 (l:=?_) ?_ ?_|refine QF 25 (l:=?_) ?_ ?_);rotate_left 1;focus (simp only [Zu,Nat.reduceSub,Nat.reduceBEq];with_reducible rfl))|((with_reducible first|refine QS (cfg_ok 169) TNb (s':=?_) ?_ ?_|refine QC (b:=?_) ?_ ?_);rotate_left 1;focus ((with_reducible refine QW ?_);simp only [Zg,seval,if_true,if_false,reduceCtorEq,Nat.reduceEqDiff,TNb,TNb,k1,k2,and_self,hc0,hc1,bx,b0,i1,hlm];with_reducible rfl))|((with_reducible refine QD (cfg_ok 169) TNb mixed_ok (tr:=?_) (s':=?_) ?_ ?_ ?_);rotate_left 2;(focus ((with_reducible refine QW ?_);simp only [Zg,Zd,seval,if_true,if_false,reduceCtorEq,Nat.reduceEqDiff,TNb,TNb,k1,k2,and_self,hc0,hc1,bx,b0,i1,hlm];with_reducible rfl));focus ((with_reducible refine QK ?_);simp only [Zk];kernel_rfl)))
 refine RunK.loop (β:=Nat) (γ:=Unit) (fun m => ⟨[(3,.c (.val (.sl 1 (t.map eI)))),(11,.c (.val (.int t.length))),(12,.c (.own 12 (m + 2))),(13,.c (.val (.int m)))],[(12,.row 1 ((0 :: 0 :: L.take m).map eI) true)]⟩) (fun m => m ≤ t.length + 1) (fun m => t.length + 1 - m)
  (fun _ => ⟨[(3,.c (.val (.sl 1 (t.map eI)))),(11,.c (.val (.int t.length))),(12,.c (.own 12 (t.length + 3)))],[(12,.row 1 ((V 0).map eI) true)]⟩) (fun _ => True) 0 (Nat.zero_le _) ?_ ?_ ?_
 ·(repeat' (first|with_reducible refine Qn|((with_reducible refine Qr ?_ ?_);focus (first|with_reducible rfl|(simp only [Zz,Nat.reduceBEq,List.take_zero,Int.natCast_zero];done)|rfl))|((with_reducible refine Qj (o':=?_) ?_ ?_ ?_);rotate_left 1;focus rfl)|((with_reducible refine Qw ?_ ?_);(focus (first|with_reducible rfl|(simp only [Zv,List.take_zero,Int.natCast_zero];done)));focus (first|exact id|exact (fun h => nomatch h)|exact (fun _ => rfl)))))
  all_goals first|exact ⟨rfl,rfl⟩|exact ⟨rfl,rfl,id⟩
 ·intro m hm
  have hm:m ≤ t.length + 1:=hm
  have hw:=w64_succ (n:=m) (by omega)
  by_cases hmn:m ≤ t.length
  ·have j1:((m:Int) ≤ (t.length:Int)) = True:=eq_true (by omega)
   have j2:(-100 ≤ (m:Int)∧(m:Int) ≤ 100) = True:=eq_true (by omega)
   obtain ⟨v,hv,hv1⟩:=hcp m 0 (by unfold inR;simp;omega)
   have htk:(0 :: 0 :: L.take (m + 1)).map eI = (0 :: 0 :: L.take m).map eI ++ [[.int v]]:=by
    have hlt:m < L.length:=by omega
    have:L[m] = v:=by rw [hv1];simp [hL,valsN]
    rw [List.take_succ_eq_append_getElem hlt,this]
    simp [eI]
   have hrl:((0 :: 0 :: L.take m).map eI).length = m + 2:=by simp;omega
   obtain ⟨R,hR⟩:∃ R,R = (0 :: 0 :: L.take m).map eI:=⟨_,rfl⟩
   rw [← hR] at htk hrl ⊢
   have q1:=big_le (n:=m + 2 + 1) (by omega)
   have q2:=big_mul (n:=m + 2 + 1) (c:=8) (by omega) (by omega)
   repeat' (first|with_reducible (first|refine Q1 ?_|refine Q2 ?_|refine Q3 ?_|refine Q4 ?_|refine Q5 ?_|refine Q6 ?_|refine Q7 ?_|refine Q8 ?_|refine Q9 ?_|refine Qa ?_|refine Qb ?_|refine Qc ?_|refine Qd ?_|refine Qe ?_|refine Qf ?_)|((with_reducible refine Qo ?_ ?_);focus rfl)|((with_reducible first|refine QT 25 (l:=?_) ?_ ?_|refine QF 25 (l:=?_) ?_ ?_);rotate_left 1;focus (simp only [Zu,Nat.reduceSub,Nat.reduceBEq];with_reducible rfl))|((with_reducible first|refine QS (cfg_ok 169) TNb (s':=?_) ?_ ?_|refine QC (b:=?_) ?_ ?_);rotate_left 1;focus ((with_reducible refine QW ?_);simp only [Zg,seval,if_true,if_false,reduceCtorEq,Nat.reduceEqDiff,TNb,TNb,j1,j2,hv,hw,b0,q1,q2,hrl];with_reducible rfl))|((with_reducible refine QD (cfg_ok 169) TNb mixed_ok (tr:=?_) (s':=?_) ?_ ?_ ?_);rotate_left 2;(focus ((with_reducible refine QW ?_);simp only [Zg,Zd,seval,if_true,if_false,reduceCtorEq,Nat.reduceEqDiff,TNb,TNb,j1,j2,hv,hw,b0,q1,q2,hrl];with_reducible rfl));focus ((with_reducible refine QK ?_);simp only [Zk];kernel_rfl)))
   refine roundK.on (m + 1) ⟨by omega,by omega⟩ ?_
   rw [htk]
   (repeat' (first|with_reducible refine Qn|((with_reducible refine Qr ?_ ?_);focus (first|with_reducible rfl|(simp only [Zz,Nat.reduceBEq,eI];done)|rfl))|((with_reducible refine Qj (o':=?_) ?_ ?_ ?_);rotate_left 1;focus rfl)|((with_reducible refine Qw ?_ ?_);(focus (first|with_reducible rfl|(simp only [Zv,eI];done)));focus (first|exact id|exact (fun h => nomatch h)|exact (fun _ => rfl)))))
  ·obtain rfl:m = t.length + 1:=by omega
   have j1:(((t.length + 1:Nat):Int) ≤ (t.length:Int)) = False:=eq_false (by omega)
   have hta:L.take (t.length + 1) = L:=List.take_of_length_le (by omega)
   rw [hta]
   repeat' (first|with_reducible (first|refine Q1 ?_|refine Q2 ?_|refine Q3 ?_|refine Q4 ?_|refine Q5 ?_|refine Q6 ?_|refine Q7 ?_|refine Q8 ?_|refine Q9 ?_|refine Qa ?_|refine Qb ?_|refine Qc ?_|refine Qd ?_|refine Qe ?_|refine Qf ?_)|((with_reducible refine Qo ?_ ?_);focus rfl)|((with_reducible first|refine QT 25 (l:=?_) ?_ ?_|refine QF 25 (l:=?_) ?_ ?_);rotate_left 1;focus (simp only [Zu,Nat.reduceSub,Nat.reduceBEq];with_reducible rfl))|((with_reducible first|refine QS (cfg_ok 169) Tab.none (s':=?_) ?_ ?_|refine QC (b:=?_) ?_ ?_);rotate_left 1;focus ((with_reducible refine QW ?_);simp only [Zg,seval,if_true,if_false,reduceCtorEq,Nat.reduceEqDiff,j1];with_reducible rfl))|((with_reducible refine QD (cfg_ok 169) Tab.none mixed_ok (tr:=?_) (s':=?_) ?_ ?_ ?_);rotate_left 2;(focus ((with_reducible refine QW ?_);simp only [Zg,Zd,seval,if_true,if_false,reduceCtorEq,Nat.reduceEqDiff,j1];with_reducible rfl));focus ((with_reducible refine QK ?_);simp only [Zk];kernel_rfl)))
   refine roundK.out () trivial ?_
   rw [hV0]
   (repeat' (first|with_reducible refine Qn|((with_reducible refine Qr ?_ ?_);focus (first|with_reducible rfl|(simp only [Zz,Nat.reduceBEq];done)|rfl))|((with_reducible refine Qj (o':=?_) ?_ ?_ ?_);rotate_left 1;focus rfl)|((with_reducible refine Qw ?_ ?_);(focus (first|with_reducible rfl|(simp only [Zv];done)));focus (first|exact id|exact (fun h => nomatch h)|exact (fun _ => rfl)))))
 rintro _ _
 repeat' (first|with_reducible (first|refine Q1 ?_|refine Q2 ?_|refine Q3 ?_|refine Q4 ?_|refine Q5 ?_|refine Q6 ?_|refine Q7 ?_|refine Q8 ?_|refine Q9 ?_|refine Qa ?_|refine Qb ?_|refine Qc ?_|refine Qd ?_|refine Qe ?_|refine Qf ?_)|((with_reducible refine Qo ?_ ?_);focus rfl)|((with_reducible first|refine QT 25 (l:=?_) ?_ ?_|refine QF 25 (l:=?_) ?_ ?_);rotate_left 1;focus (simp only [Zu,Nat.reduceSub,Nat.reduceBEq];with_reducible rfl))|((with_reducible first|refine QS (cfg_ok 169) Tab.none (s':=?_) ?_ ?_|refine QC (b:=?_) ?_ ?_);rotate_left 1;focus ((with_reducible refine QW ?_);simp only [Zg,seval,if_true,if_false,reduceCtorEq,Nat.reduceEqDiff];with_reducible rfl))|((with_reducible refine QD (cfg_ok 169) Tab.none mixed_ok (tr:=?_) (s':=?_) ?_ ?_ ?_);rotate_left 2;(focus ((with_reducible refine QW ?_);simp only [Zg,Zd,seval,if_true,if_false,reduceCtorEq,Nat.reduceEqDiff];with_reducible rfl));focus ((with_reducible refine QK ?_);simp only [Zk];kernel_rfl)))
 have hVr:∀ i:Nat,i < 2→∃ a:Nat,(1:Int) - i = a∧a ≤ 1∧(V i).length = t.length + 3∧(V i).getD a 0 = 0∧(∀ q,q < t.length + 1→negB t.length (V i) a q = true)∧V (i + 1) = (V i).set a (negS t.length (V i) a (t.length + 1)).2.2:=by
  intro i hi
  match i,hi with
  | 0,_ =>
   have e:V 1 = 0 :: X :: L:=by rw [hV];rfl
   refine ⟨1,rfl,by omega,by rw [hV0];simp [hLl],by rw [hV0];rfl,fun q hq => by rw [hV0,hL];exact hN.b1 q hq,?_⟩
   rw [e,hV0,hL,hX];rfl
  | 1,_ =>
   have e:V 1 = 0 :: X :: L:=by rw [hV];rfl
   refine ⟨0,rfl,by omega,by rw [e];simp [hLl],by rw [e];rfl,fun q hq => by rw [e,hL,hX];exact hN.b0 q hq,?_⟩
   rw [hV2,e,hL,hX,hY];rfl
 refine RunK.loop (β:=Nat) (γ:=Unit) (fun i => ⟨[(3,.c (.val (.sl 1 (t.map eI)))),(11,.c (.val (.int t.length))),(12,.c (.own 12 (t.length + 3))),(16,.c (.val (.int (1 - (i:Int)))))],[(12,.row 1 ((V i).map eI) true)]⟩) (fun i => i ≤ 2) (fun i => 2 - i)
  (fun _ => ⟨[(3,.c (.val (.sl 1 (t.map eI)))),(11,.c (.val (.int t.length))),(12,.c (.own 12 (t.length + 3)))],[(12,.row 1 ((V 2).map eI) true)]⟩) (fun _ => True) 0 (Nat.zero_le _) ?_ ?_ ?_
 ·(repeat' (first|with_reducible refine Qn|((with_reducible refine Qr ?_ ?_);focus (first|with_reducible rfl|(simp only [Zz,Nat.reduceBEq,Int.natCast_zero,Int.sub_zero];done)|rfl))|((with_reducible refine Qj (o':=?_) ?_ ?_ ?_);rotate_left 1;focus rfl)|((with_reducible refine Qw ?_ ?_);(focus (first|with_reducible rfl|(simp only [Zv,Int.natCast_zero,Int.sub_zero];done)));focus (first|exact id|exact (fun h => nomatch h)|exact (fun _ => rfl)))))
 ·intro i hi
  have hi:i ≤ 2:=hi
  by_cases hi2:i < 2
  ·obtain ⟨a,ha,ha1,hWl,hWa,hB,hnx⟩:=hVr i hi2
   have wi:w64 ((a:Int) - 1) = 1 - ((i + 1:Nat):Int):=by rw [w64_eq (by omega)];omega
   rw [ha]
   obtain ⟨W,hW⟩:∃ W,W = V i:=⟨_,rfl⟩
   rw [← hW] at hWl hWa hB ⊢
   have a1:((a:Int) ≥ 0) = True:=eq_true (by omega)
   have hWs:W = W.set a (negS t.length W a 0).2.2:=by
    have hlt:a < W.length:=by omega
    rw [getD_lt hlt] at hWa
    show W = W.set a 0
    rw [← hWa,List.set_getElem_self]
   repeat' (first|with_reducible (first|refine Q1 ?_|refine Q2 ?_|refine Q3 ?_|refine Q4 ?_|refine Q5 ?_|refine Q6 ?_|refine Q7 ?_|refine Q8 ?_|refine Q9 ?_|refine Qa ?_|refine Qb ?_|refine Qc ?_|refine Qd ?_|refine Qe ?_|refine Qf ?_)|((with_reducible refine Qo ?_ ?_);focus rfl)|((with_reducible first|refine QT 25 (l:=?_) ?_ ?_|refine QF 25 (l:=?_) ?_ ?_);rotate_left 1;focus (simp only [Zu,Nat.reduceSub,Nat.reduceBEq];with_reducible rfl))|((with_reducible first|refine QS (cfg_ok 169) Tab.none (s':=?_) ?_ ?_|refine QC (b:=?_) ?_ ?_);rotate_left 1;focus ((with_reducible refine QW ?_);simp only [Zg,seval,if_true,if_false,reduceCtorEq,Nat.reduceEqDiff,a1];with_reducible rfl))|((with_reducible refine QD (cfg_ok 169) Tab.none mixed_ok (tr:=?_) (s':=?_) ?_ ?_ ?_);rotate_left 2;(focus ((with_reducible refine QW ?_);simp only [Zg,Zd,seval,if_true,if_false,reduceCtorEq,Nat.reduceEqDiff,a1];with_reducible rfl));focus ((with_reducible refine QK ?_);simp only [Zk];kernel_rfl)))
   refine RunK.loop (β:=Nat) (γ:=Unit) (fun q => ⟨[(3,.c (.val (.sl 1 (t.map eI)))),(11,.c (.val (.int t.length))),(12,.c (.own 12 (t.length + 3))),(16,.c (.val (.int a))),(17,.c (.val (.int (negS t.length W a q).1))),(18,.c (.val (.int (negS t.length W a q).2.1))),(19,.c (.val (.int ((q + 1:Nat):Int))))],
     [(12,.row 1 ((W.set a (negS t.length W a q).2.2).map eI) true)]⟩) (fun q => q ≤ t.length + 1) (fun q => t.length + 1 - q)
    (fun _ => ⟨[(3,.c (.val (.sl 1 (t.map eI)))),(11,.c (.val (.int t.length))),(12,.c (.own 12 (t.length + 3))),(16,.c (.val (.int a)))],[(12,.row 1 ((W.set a (negS t.length W a (t.length + 1)).2.2).map eI) true)]⟩) (fun _ => True) 0 (Nat.zero_le _) ?_ ?_ ?_
   ·rw [← hWs]
    (repeat' (first|with_reducible refine Qn|((with_reducible refine Qr ?_ ?_);focus (first|with_reducible rfl|(simp only [Zz,Nat.reduceBEq];done)|rfl))|((with_reducible refine Qj (o':=?_) ?_ ?_ ?_);rotate_left 1;focus rfl)|((with_reducible refine Qw ?_ ?_);(focus (first|with_reducible rfl|(simp only [Zv];done)));focus (first|exact id|exact (fun h => nomatch h)|exact (fun _ => rfl)))))
   ·intro q hq
    have hq:q ≤ t.length + 1:=hq
    have w1:w64 ((t.length:Int) + 1) = (t.length:Int) + 1:=w64_eq (by omega)
    have w2:w64 ((t.length:Int) + 2) = (t.length:Int) + 2:=w64_eq (by omega)
    by_cases hqn:q < t.length + 1
    ·have j1:(((q + 1:Nat):Int) ≤ (t.length:Int) + 1) = True:=eq_true (by omega)
     have j2:(((q + 1:Nat):Int) = 0) = False:=eq_false (by omega)
     have hw:=w64_succ (n:=q + 1) (by omega)
     have w3:w64 ((t.length:Int) + 2 - ((q + 1:Nat):Int)) = (t.length:Int) + 2 - ((q + 1:Nat):Int):=w64_eq (by omega)
     have w4:w64 ((a:Int) + ((q + 1:Nat):Int)) = ((a + (q + 1):Nat):Int):=by rw [w64_eq (by omega)];omega
     obtain ⟨p1,p2,p3,p4,p5,p6⟩:=negS_at (hB q hqn)
     have e1:(negS t.length W a (q + 1)).1 = ((negS t.length W a q).1 * ((t.length:Int) + 2 - (q + 1:Nat))).tdiv (q + 1:Nat):=rfl
     have e2:(negS t.length W a (q + 1)).2.1 = -(negS t.length W a q).2.1:=rfl
     have e3:(negS t.length W a (q + 1)).2.2 = (negS t.length W a q).2.2 + (negS t.length W a q).2.1 * (negS t.length W a (q + 1)).1 * W.getD (a + (q + 1)) 0:=rfl
     obtain ⟨⟨c,sg,vv⟩,hcs⟩:∃ z,z = negS t.length W a q:=⟨_,rfl⟩
     obtain ⟨⟨c',sg',vv'⟩,hcs'⟩:∃ z,z = negS t.length W a (q + 1):=⟨_,rfl⟩
     rw [← hcs] at p1 p5 p6 e1 e2 e3
     rw [← hcs'] at p2 p3 p4 p5 p6 e1 e2 e3
     rw [← hcs]
     simp only at p1 p2 p3 p4 p5 p6 e1 e2 e3 ⊢
     have p2:w64 ((c * ((t.length:Int) + 2 - (q + 1:Nat))).tdiv (q + 1:Nat)) = c':=by rw [← e1];exact p2
     have p3:w64 (0 - sg) = sg':=by rw [Int.zero_sub];rw [e2] at p3 ⊢;exact p3
     have p4:w64 (vv + sg * c' * W.getD (a + (q + 1)) 0) = vv':=by rw [e3] at p4 ⊢;exact p4
     have hlen:((W.set a vv).map eI).length = t.length + 3:=by rw [List.length_map,List.length_set,hWl]
     have g1:((W.set a vv).map eI)[a]? = some [.int vv]:=by rw [List.getElem?_map,List.getElem?_set_self (by omega)];rfl
     have g2:((W.set a vv).map eI)[a + (q + 1)]? = some [.int (W.getD (a + (q + 1)) 0)]:=by
      rw [List.getElem?_map,List.getElem?_set_ne (by omega),List.getElem?_eq_getElem (by omega),getD_lt (by omega)];rfl
     have hst:((W.set a vv).map eI).set a [.int vv'] = (W.set a vv').map eI:=by
      rw [show ([.int vv']:List D) = eI vv' from rfl,← List.map_set,List.set_set]
     have n1:((0:Int) ≤ (a:Int)) = True:=eq_true (by omega)
     have n2:((a:Int) < ((t.length + 3:Nat):Int)) = True:=eq_true (by omega)
     have n3:((0:Int) ≤ ((a + (q + 1):Nat):Int)) = True:=eq_true (by omega)
     have n4:(((a + (q + 1):Nat):Int) < ((t.length + 3:Nat):Int)) = True:=eq_true (by omega)
     repeat' (first|with_reducible (first|refine Q1 ?_|refine Q2 ?_|refine Q3 ?_|refine Q4 ?_|refine Q5 ?_|refine Q6 ?_|refine Q7 ?_|refine Q8 ?_|refine Q9 ?_|refine Qa ?_|refine Qb ?_|refine Qc ?_|refine Qd ?_|refine Qe ?_|refine Qf ?_)|((with_reducible refine Qo ?_ ?_);focus rfl)|((with_reducible first|refine QT 25 (l:=?_) ?_ ?_|refine QF 25 (l:=?_) ?_ ?_);rotate_left 1;focus (simp only [Zu,Nat.reduceSub,Nat.reduceBEq];with_reducible rfl))|((with_reducible first|refine QS (cfg_ok 169) Tab.none (s':=?_) ?_ ?_|refine QC (b:=?_) ?_ ?_);rotate_left 1;focus ((with_reducible refine QW ?_);simp only [Zg,seval,if_true,if_false,reduceCtorEq,Nat.reduceEqDiff,j1,j2,w1,w2,w3,w4,hw,p1,p2,p3,p4,p5,p6,hlen,g1,g2,n1,n2,n3,n4,Int.toNat_natCast];with_reducible rfl))|((with_reducible refine QD (cfg_ok 169) Tab.none mixed_ok (tr:=?_) (s':=?_) ?_ ?_ ?_);rotate_left 2;(focus ((with_reducible refine QW ?_);simp only [Zg,Zd,seval,if_true,if_false,reduceCtorEq,Nat.reduceEqDiff,j1,j2,w1,w2,w3,w4,hw,p1,p2,p3,p4,p5,p6,hlen,g1,g2,n1,n2,n3,n4,Int.toNat_natCast];with_reducible rfl));focus ((with_reducible refine QK ?_);simp only [Zk];kernel_rfl)))
     refine roundK.on (q + 1) ⟨by omega,by omega⟩ ?_
     rw [← hcs']
     simp only
     rw [← hst]
     (repeat' (first|with_reducible refine Qn|((with_reducible refine Qr ?_ ?_);focus (first|with_reducible rfl|(simp only [Zz,Nat.reduceBEq];done)|rfl))|((with_reducible refine Qj (o':=?_) ?_ ?_ ?_);rotate_left 1;focus rfl)|((with_reducible refine Qw ?_ ?_);(focus (first|with_reducible rfl|(simp only [Zv];done)));focus (first|exact id|exact (fun h => nomatch h)|exact (fun _ => rfl)))))
    ·obtain rfl:q = t.length + 1:=by omega
     have j1:(((t.length + 1 + 1:Nat):Int) ≤ (t.length:Int) + 1) = False:=eq_false (by omega)
     repeat' (first|with_reducible (first|refine Q1 ?_|refine Q2 ?_|refine Q3 ?_|refine Q4 ?_|refine Q5 ?_|refine Q6 ?_|refine Q7 ?_|refine Q8 ?_|refine Q9 ?_|refine Qa ?_|refine Qb ?_|refine Qc ?_|refine Qd ?_|refine Qe ?_|refine Qf ?_)|((with_reducible refine Qo ?_ ?_);focus rfl)|((with_reducible first|refine QT 25 (l:=?_) ?_ ?_|refine QF 25 (l:=?_) ?_ ?_);rotate_left 1;focus (simp only [Zu,Nat.reduceSub,Nat.reduceBEq];with_reducible rfl))|((with_reducible first|refine QS (cfg_ok 169) Tab.none (s':=?_) ?_ ?_|refine QC (b:=?_) ?_ ?_);rotate_left 1;focus ((with_reducible refine QW ?_);simp only [Zg,seval,if_true,if_false,reduceCtorEq,Nat.reduceEqDiff,j1,w1];with_reducible rfl))|((with_reducible refine QD (cfg_ok 169) Tab.none mixed_ok (tr:=?_) (s':=?_) ?_ ?_ ?_);rotate_left 2;(focus ((with_reducible refine QW ?_);simp only [Zg,Zd,seval,if_true,if_false,reduceCtorEq,Nat.reduceEqDiff,j1,w1];with_reducible rfl));focus ((with_reducible refine QK ?_);simp only [Zk];kernel_rfl)))
     refine roundK.out () trivial ?_
     (repeat' (first|with_reducible refine Qn|((with_reducible refine Qr ?_ ?_);focus (first|with_reducible rfl|(simp only [Zz,Nat.reduceBEq];done)|rfl))|((with_reducible refine Qj (o':=?_) ?_ ?_ ?_);rotate_left 1;focus rfl)|((with_reducible refine Qw ?_ ?_);(focus (first|with_reducible rfl|(simp only [Zv];done)));focus (first|exact id|exact (fun h => nomatch h)|exact (fun _ => rfl)))))
   ·rintro _ _
    repeat' (first|with_reducible (first|refine Q1 ?_|refine Q2 ?_|refine Q3 ?_|refine Q4 ?_|refine Q5 ?_|refine Q6 ?_|refine Q7 ?_|refine Q8 ?_|refine Q9 ?_|refine Qa ?_|refine Qb ?_|refine Qc ?_|refine Qd ?_|refine Qe ?_|refine Qf ?_)|((with_reducible refine Qo ?_ ?_);focus rfl)|((with_reducible first|refine QT 25 (l:=?_) ?_ ?_|refine QF 25 (l:=?_) ?_ ?_);rotate_left 1;focus (simp only [Zu,Nat.reduceSub,Nat.reduceBEq];with_reducible rfl))|((with_reducible first|refine QS (cfg_ok 169) Tab.none (s':=?_) ?_ ?_|refine QC (b:=?_) ?_ ?_);rotate_left 1;focus ((with_reducible refine QW ?_);simp only [Zg,seval,if_true,if_false,reduceCtorEq,Nat.reduceEqDiff,wi];with_reducible rfl))|((with_reducible refine QD (cfg_ok 169) Tab.none mixed_ok (tr:=?_) (s':=?_) ?_ ?_ ?_);rotate_left 2;(focus ((with_reducible refine QW ?_);simp only [Zg,Zd,seval,if_true,if_false,reduceCtorEq,Nat.reduceEqDiff,wi];with_reducible rfl));focus ((with_reducible refine QK ?_);simp only [Zk];kernel_rfl)))
    refine roundK.on (i + 1) ⟨by omega,by omega⟩ ?_
    rw [hnx,← hW]
    (repeat' (first|with_reducible refine Qn|((with_reducible refine Qr ?_ ?_);focus (first|with_reducible rfl|(simp only [Zz,Nat.reduceBEq];done)|rfl))|((with_reducible refine Qj (o':=?_) ?_ ?_ ?_);rotate_left 1;focus rfl)|((with_reducible refine Qw ?_ ?_);(focus (first|with_reducible rfl|(simp only [Zv];done)));focus (first|exact id|exact (fun h => nomatch h)|exact (fun _ => rfl)))))
  ·obtain rfl:i = 2:=by omega
   have a1:((1:Int) - ((2:Nat):Int) ≥ 0) = False:=eq_false (by omega)
   repeat' (first|with_reducible (first|refine Q1 ?_|refine Q2 ?_|refine Q3 ?_|refine Q4 ?_|refine Q5 ?_|refine Q6 ?_|refine Q7 ?_|refine Q8 ?_|refine Q9 ?_|refine Qa ?_|refine Qb ?_|refine Qc ?_|refine Qd ?_|refine Qe ?_|refine Qf ?_)|((with_reducible refine Qo ?_ ?_);focus rfl)|((with_reducible first|refine QT 25 (l:=?_) ?_ ?_|refine QF 25 (l:=?_) ?_ ?_);rotate_left 1;focus (simp only [Zu,Nat.reduceSub,Nat.reduceBEq];with_reducible rfl))|((with_reducible first|refine QS (cfg_ok 169) Tab.none (s':=?_) ?_ ?_|refine QC (b:=?_) ?_ ?_);rotate_left 1;focus ((with_reducible refine QW ?_);simp only [Zg,seval,if_true,if_false,reduceCtorEq,Nat.reduceEqDiff,a1];with_reducible rfl))|((with_reducible refine QD (cfg_ok 169) Tab.none mixed_ok (tr:=?_) (s':=?_) ?_ ?_ ?_);rotate_left 2;(focus ((with_reducible refine QW ?_);simp only [Zg,Zd,seval,if_true,if_false,reduceCtorEq,Nat.reduceEqDiff,a1];with_reducible rfl));focus ((with_reducible refine QK ?_);simp only [Zk];kernel_rfl)))
   refine roundK.out () trivial ?_
   (repeat' (first|with_reducible refine Qn|((with_reducible refine Qr ?_ ?_);focus (first|with_reducible rfl|(simp only [Zz,Nat.reduceBEq];done)|rfl))|((with_reducible refine Qj (o':=?_) ?_ ?_ ?_);rotate_left 1;focus rfl)|((with_reducible refine Qw ?_ ?_);(focus (first|with_reducible rfl|(simp only [Zv];done)));focus (first|exact id|exact (fun h => nomatch h)|exact (fun _ => rfl)))))
 rintro _ _
 obtain ⟨ya,hca,hya⟩:=hcp 1 1 (by decide)
 obtain ⟨yb,hcb,hyb⟩:=hcp 2 1 (by decide)
 have hXb:w64 X = X:=by
  have:=(negS_at (hN.b1 t.length (by omega))).2.2.2.1
  rw [hX];exact this
 have hYb:w64 Y = Y:=by
  have:=(negS_at (hN.b0 t.length (by omega))).2.2.2.1
  rw [hY];exact this
 have hXe:X = sgnN t * ya:=by rw [hX,hN.x,hya]
 have hYe:Y = sgnN t * yb:=by rw [hY,hN.y,hyb]
 have k3:((-100:Int) ≤ 1∧(1:Int) ≤ 100) = True:=eq_true (by omega)
 have k4:((-100:Int) ≤ 2∧(2:Int) ≤ 100) = True:=eq_true (by omega)
 have bX:(X == X) = true:=by simp
 have bY:(Y == Y) = true:=by simp
 have c00:((0:Int) == 0) = true:=by decide
 obtain ⟨R,hRd⟩:∃ R,R = (V 2).map eI:=⟨_,rfl⟩
 have g0:R[0]? = some [.int Y]:=by rw [hRd,hV2];rfl
 have g1:R[1]? = some [.int X]:=by rw [hRd,hV2];rfl
 have hRl:R.length = t.length + 3:=by rw [hRd,hV2];simp [hLl]
 have n0:((0:Int) < ((t.length + 3:Nat):Int)) = True:=eq_true (by omega)
 have n1:((1:Int) < ((t.length + 3:Nat):Int)) = True:=eq_true (by omega)
 have m0:((0:Int) ≤ 0) = True:=eq_true (by omega)
 have m1:((0:Int) ≤ 1) = True:=eq_true (by omega)
 have t0:(0:Int).toNat = 0:=rfl
 have t1:(1:Int).toNat = 1:=rfl
 have z2:((2:Int) = 0) = False:=eq_false (by omega)
 rw [← hRd]
 by_cases hpar:t.length % 2 = 1
 ·have hs:sgnN t = -1:=by unfold sgnN;rw [hpar];rfl
  rw [hs] at hXe hYe
  have p0:(((t.length:Int).tmod 2) == 1) = true:=by
   rw [Int.tmod_eq_emod_of_nonneg (by omega),beq_iff_eq];omega
  have wx:w64 (-1 * ya) = X:=by rw [← hXe];exact hXb
  have wy:w64 (-1 * yb) = Y:=by rw [← hYe];exact hYb
  repeat' (first|with_reducible (first|refine Q1 ?_|refine Q2 ?_|refine Q3 ?_|refine Q4 ?_|refine Q5 ?_|refine Q6 ?_|refine Q7 ?_|refine Q8 ?_|refine Q9 ?_|refine Qa ?_|refine Qb ?_|refine Qc ?_|refine Qd ?_|refine Qe ?_|refine Qf ?_)|((with_reducible refine Qo ?_ ?_);focus rfl)|((with_reducible first|refine QT 25 (l:=?_) ?_ ?_|refine QF 25 (l:=?_) ?_ ?_);rotate_left 1;focus (simp only [Zu,Nat.reduceSub,Nat.reduceBEq];with_reducible rfl))|((with_reducible first|refine QS (cfg_ok 169) TNb (s':=?_) ?_ ?_|refine QC (b:=?_) ?_ ?_);rotate_left 1;focus ((with_reducible refine QW ?_);simp only [Zg,seval,if_true,if_false,reduceCtorEq,Nat.reduceEqDiff,TNb,TNb,p0,z2,k3,k4,hca,hcb,c00,g0,g1,hRl,n0,n1,m0,m1,t0,t1,wx,wy,bX,bY];with_reducible rfl))|((with_reducible refine QD (cfg_ok 169) TNb mixed_ok (tr:=?_) (s':=?_) ?_ ?_ ?_);rotate_left 2;(focus ((with_reducible refine QW ?_);simp only [Zg,Zd,seval,if_true,if_false,reduceCtorEq,Nat.reduceEqDiff,TNb,TNb,p0,z2,k3,k4,hca,hcb,c00,g0,g1,hRl,n0,n1,m0,m1,t0,t1,wx,wy,bX,bY];with_reducible rfl));focus ((with_reducible refine QK ?_);simp only [Zk];kernel_rfl)))
  (refine Ends.mk (by simp) (rs:=?_) (ks:=?_) hres hrts ?_ ?_ ?_;rotate_left 2;(focus (simp only [Ze,Zg,seval,if_true,if_false,reduceCtorEq,Nat.reduceEqDiff];with_reducible rfl));(focus simp);focus (first|with_reducible rfl|(simp only [Zv];done)))
 ·have hs:sgnN t = 1:=by
   have:t.length % 2 = 0:=by omega
   unfold sgnN;rw [this];rfl
  rw [hs] at hXe hYe
  have p0:(((t.length:Int).tmod 2) == 1) = false:=by
   rw [Int.tmod_eq_emod_of_nonneg (by omega),Bool.eq_false_iff]
   intro h
   rw [beq_iff_eq] at h
   omega
  have wx:w64 (1 * ya) = X:=by rw [← hXe];exact hXb
  have wy:w64 (1 * yb) = Y:=by rw [← hYe];exact hYb
  repeat' (first|with_reducible (first|refine Q1 ?_|refine Q2 ?_|refine Q3 ?_|refine Q4 ?_|refine Q5 ?_|refine Q6 ?_|refine Q7 ?_|refine Q8 ?_|refine Q9 ?_|refine Qa ?_|refine Qb ?_|refine Qc ?_|refine Qd ?_|refine Qe ?_|refine Qf ?_)|((with_reducible refine Qo ?_ ?_);focus rfl)|((with_reducible first|refine QT 25 (l:=?_) ?_ ?_|refine QF 25 (l:=?_) ?_ ?_);rotate_left 1;focus (simp only [Zu,Nat.reduceSub,Nat.reduceBEq];with_reducible rfl))|((with_reducible first|refine QS (cfg_ok 169) TNb (s':=?_) ?_ ?_|refine QC (b:=?_) ?_ ?_);rotate_left 1;focus ((with_reducible refine QW ?_);simp only [Zg,seval,if_true,if_false,reduceCtorEq,Nat.reduceEqDiff,TNb,TNb,p0,z2,k3,k4,hca,hcb,c00,g0,g1,hRl,n0,n1,m0,m1,t0,t1,wx,wy,bX,bY];with_reducible rfl))|((with_reducible refine QD (cfg_ok 169) TNb mixed_ok (tr:=?_) (s':=?_) ?_ ?_ ?_);rotate_left 2;(focus ((with_reducible refine QW ?_);simp only [Zg,Zd,seval,if_true,if_false,reduceCtorEq,Nat.reduceEqDiff,TNb,TNb,p0,z2,k3,k4,hca,hcb,c00,g0,g1,hRl,n0,n1,m0,m1,t0,t1,wx,wy,bX,bY];with_reducible rfl));focus ((with_reducible refine QK ?_);simp only [Zk];kernel_rfl)))
  (refine Ends.mk (by simp) (rs:=?_) (ks:=?_) hres hrts ?_ ?_ ?_;rotate_left 2;(focus (simp only [Ze,Zg,seval,if_true,if_false,reduceCtorEq,Nat.reduceEqDiff];with_reducible rfl));(focus simp);focus (first|with_reducible rfl|(simp only [Zv];done)))
theorem walk_FnNumberings (v0:Value) (x0:List Int) (w:World) (h0:Rd RBytes w [v0] x0):Calls Try.prog 3 #[v0] w (RetV w (.bool true)):=law_code (fun code hc => a_FnNumberings code hc) v0 x0 w h0
end Go.Proofs.Ytofpjonggpjneaa

/- Lemmas (18). -/
import Derived.Laws.Shifts
import Derived.WalkArith
import Derived.Test.YtgngidchldajhaaGreatZA17
set_option linter.unusedSimpArgs false
set_option linter.unusedVariables false
namespace Go.Proofs.YtgngidchldajhaaGreat
open Go.RowKit
def MrgOk (c:List Int→List Int→Int) (a b:Nat) (v:Value) (xs:List (List Int)) (lo hi:Nat) (w:World):Ending→World→Prop :=
 fun e w' => e = .returned (.tuple #[])∧∃ ys,PermIn a b xs ys∧SegOk c a b ys∧Own (RS (RS RI)) lo hi w' [v] ys∧Chg lo hi w w'
theorem i64_sub {a b d:Nat} (h:d + b = a) (hs:a ≤ 4000000000):IntKind.i64.wrap ((a:Int) - (b:Int)) = (d:Int):=by rw [IntWalk.i64_in _ (by omega)];omega
theorem i64_pred {a d:Nat} (h:d + 1 = a) (hs:a ≤ 4000000000):IntKind.i64.wrap ((a:Int) - 1) = (d:Int):=by rw [IntWalk.i64_in _ (by omega)];omega
theorem i64_add {a b d:Nat} (h:a + b = d) (hs:d ≤ 4000000000):IntKind.i64.wrap ((a:Int) + (b:Int)) = (d:Int):=by rw [IntWalk.i64_in _ (by omega)];omega
theorem i64_succ {a d:Nat} (h:a + 1 = d) (hs:d ≤ 4000000000):IntKind.i64.wrap ((a:Int) + 1) = (d:Int):=by rw [IntWalk.i64_in _ (by omega)];omega
theorem run_halfS (i j h:Nat) (e:h = (i + j) / 2) (w:World):(binOp .shr 157 (.int .u64 ((i:Int) + (j:Int))) (.int .u64 1)).run Tryz.prog w = .ok (.int .u64 h) w:=by
 have u70:=run_underlying Tryz.underlying157
 have e1:((i:Int) + (j:Int)) / 2 = (h:Int):=by omega
 have e2:Op.shift .shr .u64 ((i:Int) + (j:Int)) .u64 1 = (pure (.int .u64 (h:Int)):Sem Value):=by
  rw [shift_shr_any _ _ _ _ (by decide),← e1];rfl
 simp [binOp,u70,e2]
set_option maxHeartbeats 16000000 in
set_option maxRecDepth 1000000 in
theorem c_symMerge1 (g:Nat) (c:List Int→List Int→Int) (hc:Cmp c) (ok:List Int→Prop) (eg:∀ args w,(callFunc g args).run Tryz.prog w = .ok (.enter g args) w) (hcmp:CmpAsk Tryz.prog g c ok)
  (a m b:Nat) (v:Value) (xs:List (List Int)) (lo hi:Nat) (w:World) (ho:Own (RS (RS RI)) lo hi w [v] xs) (hok:∀ x ∈ xs,ok x) (h1:SegOk c a m xs) (h2:SegOk c m b xs) (ham:a < m) (hmb:m < b) (hb:b ≤ xs.length) (hsz:xs.length ≤ 1000000000) (hm:m = a + 1) :
  Calls Tryz.prog 248 #[v,.int .i64 a,.int .i64 m,.int .i64 b,.func (.func g) #[] #[]] w (MrgOk c a b v xs lo hi w):=by
 obtain ⟨oa,cap,rfl,hv1,hv2⟩:=ho.val
 have mixed:Tryz.prog.follows Departure.mixedOrders = true:=by kernel_rfl
 have HC:=Lib.hid hc
 have HQ:=Lib.hid hcmp
 have HK:=Lib.hid hok
 have H1:=Lib.hid h1
 have H2:=Lib.hid h2
 have S0:Hid (Own (RS (RS RI)) lo hi w [.slice oa xs.length cap] xs):=ho
 have wma:IntKind.i64.wrap ((m:Int) - (a:Int)) = 1:=i64_sub (d:=1) (by omega) (by omega)
 have hme:=Lib.hid hm
 clear hc hcmp hok h1 h2 ho hm
 have HR0:Hid (∀ k,rotI a m (a + 1) k = k):=Lib.hid fun k => by rw [← hme.out];exact rotI_left (Nat.le_of_lt ham) k
 go_enter Tryz.func248,Tryz.ntmps248
 go_wp2_with fail
 go_loopg [10,11] (b - m) (fun g1 vi vj wr => ∃ (i j:Nat),vi = .int .i64 i∧vj = .int .i64 j∧m ≤ i∧i ≤ j∧j ≤ b∧j - i ≤ g1∧Hid ((i = m ∨ LeAt c xs (i - 1) a)∧(j = b ∨ LeAt c xs a j)∧Own (RS (RS RI)) lo hi wr [.slice oa xs.length cap] xs∧Chg lo hi w wr))
 case atStart => exact ⟨m,b,rfl,rfl,Nat.le_refl _,by omega,Nat.le_refl _,Nat.le_refl _,Lib.hid ⟨.inl rfl,.inl rfl,S0.out,Chg.refl _ _ _⟩⟩
 case round =>
  clear S0
  obtain ⟨i,j,rfl,rfl,hi1,hij,hj1,hg1,HO⟩:=hrel
  by_cases hlt:i < j
  ·have hltz:(i:Int) < (j:Int):=by omega
   obtain ⟨h,hh⟩:∃ h,h = (i + j) / 2:=⟨_,rfl⟩
   have hih:i ≤ h:=by omega
   have hhj:h < j:=by omega
   have hrh:=run_halfS i j h hh
   have hh2:((i:Int) + (j:Int)) / 2 = (h:Int):=by omega
   have wij:IntKind.i64.wrap ((i:Int) + (j:Int)) = (i:Int) + (j:Int):=IntWalk.i64_in _ (by omega)
   have wh1:IntKind.i64.wrap ((h:Int) + 1) = ((h + 1:Nat):Int):=i64_succ rfl (by omega)
   clear hh
   obtain ⟨gb,cap',u1,u2,hv,_,_,hgb,k1,k2,f1,f2,r1,r2,k3,hsw,hch⟩:=HO.out.2.2.1.swap (R:=RS RI) rfl (a) (h) (by omega) (by omega)
   simp only [Value.slice.injEq,true_and] at hv
   obtain ⟨rfl,rfl⟩:=hv
   have ea:((a:Int)).toNat = a:=by omega
   have pa:(0:Int) ≤ (a:Int):=by omega
   have ba:(a:Int) < (xs.length:Int):=by omega
   have ec:((h:Int)).toNat = h:=by omega
   have pc:(0:Int) ≤ (h:Int):=by omega
   have bc:(h:Int) < (xs.length:Int):=by omega
   have hq:=HQ.out.q r2 r1 (HK.out _ (List.getElem_mem _)) (HK.out _ (List.getElem_mem _))
   obtain ⟨d,hd⟩:∃ d,d = c xs[h] xs[a]:=⟨_,rfl⟩
   rw [← hd] at hq
   obtain ⟨o1,p1,rfl,_⟩:=r1.val
   obtain ⟨o2,p2,rfl,_⟩:=r2.val
   obtain ⟨l1,hl1⟩:∃ l,l = xs[a].length:=⟨_,rfl⟩
   obtain ⟨l2,hl2⟩:∃ l,l = xs[h].length:=⟨_,rfl⟩
   rw [← hl1] at hq k1
   rw [← hl2] at hq k2
   clear hsw hch r1 r2 hl1 hl2 k3
   by_cases hlv:d < 0
   ·have hdd:decide (d < 0) = true:=decide_eq_true hlv
    have HD:Hid (LeAt c xs h a):=Lib.hid fun q1 q2 => by show c xs[h] xs[a] ≤ 0;omega
    clear hd
    go_wp2_with fail
    go_quiet ((go_at_fn g;exact hq _))
    go_wp2_with fail
    go_roundg (j - (h + 1))
    case measure => omega
    case rel => exact ⟨h + 1,j,by first|rfl|go_num,rfl,by omega,by omega,hj1,Nat.le_refl _,Lib.hid ⟨.inr (by rw [Nat.add_sub_cancel];exact HD.out),HO.out.2.1,HO.out.2.2.1.of_heap rfl,HO.out.2.2.2.of_heap rfl rfl rfl rfl⟩⟩
   ·have hdd:decide (d < 0) = false:=decide_eq_false hlv
    have HD:Hid (LeAt c xs a h):=Lib.hid fun q1 q2 => by
     have:=HC.out.le_of_not_lt (a:=xs[h]) (b:=xs[a]) (by omega)
     exact this
    clear hd
    go_wp2_with fail
    go_quiet ((go_at_fn g;exact hq _))
    go_wp2_with fail
    go_roundg (h - i)
    case measure => omega
    case rel => exact ⟨i,h,rfl,by first|rfl|go_num,hi1,hih,by omega,Nat.le_refl _,Lib.hid ⟨HO.out.1,.inr (HD.out),HO.out.2.2.1.of_heap rfl,HO.out.2.2.2.of_heap rfl rfl rfl rfl⟩⟩
  ·have hltz:¬ (i:Int) < (j:Int):=by omega
   obtain rfl:i = j:=by omega
   obtain ⟨p,hp⟩:∃ p,p + 1 = i:=⟨i - 1,by omega⟩
   have wip:IntKind.i64.wrap ((i:Int) - 1) = (p:Int):=i64_pred hp (by omega)
   have HI:=Lib.hid (And.intro HO.out.1 HO.out.2.1)
   have HW:Hid (Own (RS (RS RI)) lo hi wr [.slice oa xs.length cap] xs∧Chg lo hi w wr):=Lib.hid ⟨HO.out.2.2.1,HO.out.2.2.2⟩
   have hpe:=Lib.hid hp
   clear HO hp
   go_wp2_with fail
   have hp:=hpe.out
   go_loopg [13] (p - a) (fun g2 vk wr => ∃ (k:Nat) (ys:List (List Int)),vk = .int .i64 k∧a ≤ k∧k ≤ p∧p - k ≤ g2∧Hid (PermIn a b xs ys∧Ix (rotI a m (k + 1)) xs ys∧Own (RS (RS RI)) lo hi wr [.slice oa xs.length cap] ys∧Chg lo hi w wr))
   case atStart => exact ⟨a,xs,rfl,Nat.le_refl _,by omega,Nat.le_refl _,Lib.hid ⟨PermIn.refl _ _ _,.refl HR0.out,HW.out.1,HW.out.2⟩⟩
   case round =>
    clear HW
    obtain ⟨k,ys,rfl,hk1,hk2,hg2,HJ⟩:=hrel
    have hzl:ys.length = xs.length:=HJ.out.1.len
    by_cases hkp:k < p
    ·have hkpz:(k:Int) < (p:Int):=by omega
     obtain ⟨gb,cap',u1,u2,hv,_,_,hgb,k1,k2,f1,f2,r1,r2,k3,hsw,hch⟩:=HJ.out.2.2.1.swapLo (R:=RS RI) rfl k (k + 1) (Nat.lt_succ_self _) (by omega)
     rw [hzl] at hv
     simp only [Value.slice.injEq,true_and] at hv
     obtain ⟨rfl,rfl⟩:=hv
     have ea:((k:Int) + 1).toNat = k + 1:=by omega
     have pa:(0:Int) ≤ (k:Int) + 1:=by omega
     have ba:(k:Int) + 1 < (xs.length:Int):=by omega
     have ra:IntKind.i64.wrap ((k:Int) + 1) = (k:Int) + 1:=by rw [IntWalk.i64_in _ (by omega)]
     have ec:((k:Int)).toNat = k:=by omega
     have pc:(0:Int) ≤ (k:Int):=by omega
     have bc:(k:Int) < (xs.length:Int):=by omega
     have S3:Hid (Own (RS (RS RI)) lo hi (((wr.setCell ⟨gb,k,none⟩ u2).setCell ⟨gb,k + 1,none⟩ u1)) [.slice (some ⟨gb,0,none⟩) xs.length cap] (swpL ys k (k + 1))∧Chg lo hi w ((wr.setCell ⟨gb,k,none⟩ u2).setCell ⟨gb,k + 1,none⟩ u1)):=Lib.hid ⟨hsw,HJ.out.2.2.2.trans hch⟩
     obtain ⟨o1,p1,rfl,_⟩:=r1.val
     obtain ⟨o2,p2,rfl,_⟩:=r2.val
     obtain ⟨l1,hl1⟩:∃ l,l = ys[k].length:=⟨_,rfl⟩
     obtain ⟨l2,hl2⟩:∃ l,l = ys[k + 1].length:=⟨_,rfl⟩
     rw [← hl1] at k1 S3
     rw [← hl2] at k2 k3 S3
     clear hsw hch r1 r2 hl1 hl2 wma wip
     go_wp2_with fail
     go_big_region_o
     clear k1 k2 k3 f1 f2
     go_wp2_with fail
     go_roundg (p - (k + 1))
     case measure => omega
     case rel =>
      refine ⟨k + 1,swpL ys k (k + 1),by first|rfl|go_num,by omega,by omega,Nat.le_refl _,Lib.hid ⟨HJ.out.1.trans (PermIn.swp ys k (k + 1) (by omega) (by omega) (by omega) (by omega)),?_,S3.out.1.of_heap rfl,S3.out.2.of_heap rfl rfl rfl rfl⟩⟩
      refine HJ.out.2.1.swp (by omega) (by omega) (fun q => ?_)
      have hm:=hme.out
      unfold rotI
      (repeat' split) <;> omega
    ·have hkpz:¬ (k:Int) < (p:Int):=by omega
     obtain rfl:k = p:=by omega
     go_wp2_with fail
     go_end0
     have hm:=hme.out
     subst hm
     have hI:=HI.out
     subst hp
     exact ⟨rfl,ys,HJ.out.1,one_first HC.out H2.out hb (by omega) (by omega) hI.1 hI.2 HJ.out.2.1,HJ.out.2.2.1,HJ.out.2.2.2⟩
set_option maxHeartbeats 16000000 in
set_option maxRecDepth 1000000 in
theorem c_symMerge2 (g:Nat) (c:List Int→List Int→Int) (hc:Cmp c) (ok:List Int→Prop) (eg:∀ args w,(callFunc g args).run Tryz.prog w = .ok (.enter g args) w) (hcmp:CmpAsk Tryz.prog g c ok)
  (a m b:Nat) (v:Value) (xs:List (List Int)) (lo hi:Nat) (w:World) (ho:Own (RS (RS RI)) lo hi w [v] xs) (hok:∀ x ∈ xs,ok x) (h1:SegOk c a m xs) (h2:SegOk c m b xs) (ham:a < m) (hmb:m < b) (hb:b ≤ xs.length) (hsz:xs.length ≤ 1000000000) (hm:b = m + 1) (hn:¬ m = a + 1) :
  Calls Tryz.prog 248 #[v,.int .i64 a,.int .i64 m,.int .i64 b,.func (.func g) #[] #[]] w (MrgOk c a b v xs lo hi w):=by
 obtain ⟨oa,cap,rfl,hv1,hv2⟩:=ho.val
 have mixed:Tryz.prog.follows Departure.mixedOrders = true:=by kernel_rfl
 have HC:=Lib.hid hc
 have HQ:=Lib.hid hcmp
 have HK:=Lib.hid hok
 have H1:=Lib.hid h1
 have H2:=Lib.hid h2
 have S0:Hid (Own (RS (RS RI)) lo hi w [.slice oa xs.length cap] xs):=ho
 obtain ⟨x,hx⟩:∃ x,x + a = m:=⟨m - a,by omega⟩
 have wma:IntKind.i64.wrap ((m:Int) - (a:Int)) = (x:Int):=i64_sub hx (by omega)
 have hx1:¬ (x:Int) = 1:=by omega
 have hx2:((x:Int) == 1) = false:=by simp only [beq_eq_false_iff_ne,ne_eq];omega
 have wbm:IntKind.i64.wrap ((b:Int) - (m:Int)) = 1:=i64_sub (d:=1) (by omega) (by omega)
 have hme:=Lib.hid hm
 clear hc hcmp hok h1 h2 ho hm hx hn
 go_enter Tryz.func248,Tryz.ntmps248
 go_wp2_with fail
 go_loopg [14,15] (m - a) (fun g1 vi vj wr => ∃ (i j:Nat),vi = .int .i64 i∧vj = .int .i64 j∧a ≤ i∧i ≤ j∧j ≤ m∧j - i ≤ g1∧Hid ((i = a ∨ LeAt c xs (i - 1) m)∧(j = m ∨ LeAt c xs m j)∧Own (RS (RS RI)) lo hi wr [.slice oa xs.length cap] xs∧Chg lo hi w wr))
 case atStart => exact ⟨a,m,rfl,rfl,Nat.le_refl _,by omega,Nat.le_refl _,Nat.le_refl _,Lib.hid ⟨.inl rfl,.inl rfl,S0.out,Chg.refl _ _ _⟩⟩
 case round =>
  clear S0
  obtain ⟨i,j,rfl,rfl,hi1,hij,hj1,hg1,HO⟩:=hrel
  by_cases hlt:i < j
  ·have hltz:(i:Int) < (j:Int):=by omega
   obtain ⟨h,hh⟩:∃ h,h = (i + j) / 2:=⟨_,rfl⟩
   have hih:i ≤ h:=by omega
   have hhj:h < j:=by omega
   have hrh:=run_halfS i j h hh
   have hh2:((i:Int) + (j:Int)) / 2 = (h:Int):=by omega
   have wij:IntKind.i64.wrap ((i:Int) + (j:Int)) = (i:Int) + (j:Int):=IntWalk.i64_in _ (by omega)
   have wh1:IntKind.i64.wrap ((h:Int) + 1) = ((h + 1:Nat):Int):=i64_succ rfl (by omega)
   clear hh
   obtain ⟨gb,cap',u1,u2,hv,_,_,hgb,k1,k2,f1,f2,r1,r2,k3,hsw,hch⟩:=HO.out.2.2.1.swap (R:=RS RI) rfl (h) (m) (by omega) (by omega)
   simp only [Value.slice.injEq,true_and] at hv
   obtain ⟨rfl,rfl⟩:=hv
   have ea:((h:Int)).toNat = h:=by omega
   have pa:(0:Int) ≤ (h:Int):=by omega
   have ba:(h:Int) < (xs.length:Int):=by omega
   have ec:((m:Int)).toNat = m:=by omega
   have pc:(0:Int) ≤ (m:Int):=by omega
   have bc:(m:Int) < (xs.length:Int):=by omega
   have hq:=HQ.out.q r2 r1 (HK.out _ (List.getElem_mem _)) (HK.out _ (List.getElem_mem _))
   obtain ⟨d,hd⟩:∃ d,d = c xs[m] xs[h]:=⟨_,rfl⟩
   rw [← hd] at hq
   obtain ⟨o1,p1,rfl,_⟩:=r1.val
   obtain ⟨o2,p2,rfl,_⟩:=r2.val
   obtain ⟨l1,hl1⟩:∃ l,l = xs[h].length:=⟨_,rfl⟩
   obtain ⟨l2,hl2⟩:∃ l,l = xs[m].length:=⟨_,rfl⟩
   rw [← hl1] at hq k1
   rw [← hl2] at hq k2
   clear hsw hch r1 r2 hl1 hl2 k3
   by_cases hlv:d < 0
   ·have hdd:decide (d < 0) = true:=decide_eq_true hlv
    have HD:Hid (LeAt c xs m h):=Lib.hid fun q1 q2 => by show c xs[m] xs[h] ≤ 0;omega
    clear hd
    go_wp2_with fail
    go_quiet ((go_at_fn g;exact hq _))
    go_wp2_with fail
    go_roundg (h - i)
    case measure => omega
    case rel => exact ⟨i,h,rfl,by first|rfl|go_num,hi1,hih,by omega,Nat.le_refl _,Lib.hid ⟨HO.out.1,.inr (HD.out),HO.out.2.2.1.of_heap rfl,HO.out.2.2.2.of_heap rfl rfl rfl rfl⟩⟩
   ·have hdd:decide (d < 0) = false:=decide_eq_false hlv
    have HD:Hid (LeAt c xs h m):=Lib.hid fun q1 q2 => by
     have:=HC.out.le_of_not_lt (a:=xs[m]) (b:=xs[h]) (by omega)
     exact this
    clear hd
    go_wp2_with fail
    go_quiet ((go_at_fn g;exact hq _))
    go_wp2_with fail
    go_roundg (j - (h + 1))
    case measure => omega
    case rel => exact ⟨h + 1,j,by first|rfl|go_num,rfl,by omega,by omega,hj1,Nat.le_refl _,Lib.hid ⟨.inr (by rw [Nat.add_sub_cancel];exact HD.out),HO.out.2.1,HO.out.2.2.1.of_heap rfl,HO.out.2.2.2.of_heap rfl rfl rfl rfl⟩⟩
  ·have hltz:¬ (i:Int) < (j:Int):=by omega
   obtain rfl:i = j:=by omega
   have HI:=Lib.hid (And.intro HO.out.1 HO.out.2.1)
   have HW:Hid (Own (RS (RS RI)) lo hi wr [.slice oa xs.length cap] xs∧Chg lo hi w wr):=Lib.hid ⟨HO.out.2.2.1,HO.out.2.2.2⟩
   clear HO
   go_wp2_with fail
   go_loopg [17] (m - i) (fun g2 vk wr => ∃ (k:Nat) (ys:List (List Int)),vk = .int .i64 k∧i ≤ k∧k ≤ m∧k - i ≤ g2∧Hid (PermIn a b xs ys∧Ix (rotI k m b) xs ys∧Own (RS (RS RI)) lo hi wr [.slice oa xs.length cap] ys∧Chg lo hi w wr))
   case atStart => exact ⟨m,xs,rfl,by omega,Nat.le_refl _,Nat.le_refl _,Lib.hid ⟨PermIn.refl _ _ _,.refl (fun k => rotI_right (by omega) k),HW.out.1,HW.out.2⟩⟩
   case round =>
    clear HW
    obtain ⟨k,ys,rfl,hk1,hk2,hg2,HJ⟩:=hrel
    have hzl:ys.length = xs.length:=HJ.out.1.len
    by_cases hkp:i < k
    ·obtain ⟨q,hqk⟩:∃ q,q + 1 = k:=⟨k - 1,by omega⟩
     subst hqk
     have hkpz:(i:Int) < (q:Int) + 1:=by omega
     obtain ⟨gb,cap',u1,u2,hv,_,_,hgb,k1,k2,f1,f2,r1,r2,k3,hsw,hch⟩:=HJ.out.2.2.1.swap (R:=RS RI) rfl q (q + 1) (Nat.lt_succ_self _) (by omega)
     rw [hzl] at hv
     simp only [Value.slice.injEq,true_and] at hv
     obtain ⟨rfl,rfl⟩:=hv
     have ea:((q:Int) + 1).toNat = q + 1:=by omega
     have pa:(0:Int) ≤ (q:Int) + 1:=by omega
     have ba:(q:Int) + 1 < (xs.length:Int):=by omega
     have ra:IntKind.i64.wrap ((q:Int) + 1) = (q:Int) + 1:=by rw [IntWalk.i64_in _ (by omega)]
     have ec:((q:Int)).toNat = q:=by omega
     have pc:(0:Int) ≤ (q:Int):=by omega
     have bc:(q:Int) < (xs.length:Int):=by omega
     have rc:IntKind.i64.wrap ((q:Int)) = (q:Int):=by rw [IntWalk.i64_in _ (by omega)]
     have S3:Hid (Own (RS (RS RI)) lo hi (((wr.setCell ⟨gb,q + 1,none⟩ u1).setCell ⟨gb,q,none⟩ u2)) [.slice (some ⟨gb,0,none⟩) xs.length cap] (swpL ys q (q + 1))∧Chg lo hi w ((wr.setCell ⟨gb,q + 1,none⟩ u1).setCell ⟨gb,q,none⟩ u2)):=Lib.hid ⟨hsw,HJ.out.2.2.2.trans hch⟩
     obtain ⟨o1,p1,rfl,_⟩:=r1.val
     obtain ⟨o2,p2,rfl,_⟩:=r2.val
     obtain ⟨l1,hl1⟩:∃ l,l = ys[q].length:=⟨_,rfl⟩
     obtain ⟨l2,hl2⟩:∃ l,l = ys[q + 1].length:=⟨_,rfl⟩
     rw [← hl1] at k1 k3 S3
     rw [← hl2] at k2 S3
     clear hsw hch r1 r2 hl1 hl2 wma wbm
     go_wp2_with fail
     go_big_region_o
     clear k1 k2 k3 f1 f2
     go_wp2_with fail
     go_roundg (q - i)
     case measure => omega
     case rel =>
      refine ⟨q,swpL ys q (q + 1),by first|rfl|go_num|(congr 1;omega),by omega,by omega,Nat.le_refl _,Lib.hid ⟨HJ.out.1.trans (PermIn.swp ys q (q + 1) (by omega) (by omega) (by omega) (by omega)),?_,S3.out.1.of_heap rfl,S3.out.2.of_heap rfl rfl rfl rfl⟩⟩
      refine HJ.out.2.1.swp (by omega) (by omega) (fun t => ?_)
      have hm:=hme.out
      unfold rotI
      (repeat' split) <;> omega
    ·have hkpz:¬ (i:Int) < (k:Int):=by omega
     obtain rfl:k = i:=by omega
     go_wp2_with fail
     go_end0
     have hm:=hme.out
     subst hm
     have hI:=HI.out
     exact ⟨rfl,ys,HJ.out.1,one_last HC.out H1.out (by omega) hi1 (by omega) hI.1 hI.2 HJ.out.2.1,HJ.out.2.2.1,HJ.out.2.2.2⟩
end Go.Proofs.YtgngidchldajhaaGreat

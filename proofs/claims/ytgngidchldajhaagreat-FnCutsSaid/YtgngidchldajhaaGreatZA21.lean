/- Lemmas (21). -/
import Derived.Test.YtgngidchldajhaaGreatZA19
set_option linter.unusedSimpArgs false
set_option linter.unusedVariables false
namespace Go.Proofs.YtgngidchldajhaaGreat
open Go.RowKit
set_option maxHeartbeats 16000000 in
set_option maxRecDepth 1000000 in
theorem c_symMerge3b (g:Nat) (c:List Int→List Int→Int) (hc:Cmp c) (ok:List Int→Prop) (eg:∀ args w,(callFunc g args).run Tryz.prog w = .ok (.enter g args) w) (hcmp:CmpAsk Tryz.prog g c ok)
  (a m b:Nat) (v:Value) (xs:List (List Int)) (lo hi:Nat) (w:World) (ho:Own (RS (RS RI)) lo hi w [v] xs) (hok:∀ x ∈ xs,ok x) (h1:SegOk c a m xs) (h2:SegOk c m b xs) (ham:a < m) (hmb:m < b) (hb:b ≤ xs.length) (hsz:xs.length ≤ 1000000000) (N:Nat) (hN:b - a ≤ N) (IH:MrgIH N g c ok) (hma:¬ m = a + 1) (hbm:¬ b = m + 1) (hcnd:¬ (a + b) / 2 < m) :
  Calls Tryz.prog 248 #[v,.int .i64 a,.int .i64 m,.int .i64 b,.func (.func g) #[] #[]] w (MrgOk c a b v xs lo hi w):=by
 obtain ⟨oa,cap,rfl,hv1,hv2⟩:=ho.val
 have mixed:Tryz.prog.follows Departure.mixedOrders = true:=by kernel_rfl
 have HC:=Lib.hid hc
 have HQ:=Lib.hid hcmp
 have HK:=Lib.hid hok
 have H1:=Lib.hid h1
 have H2:=Lib.hid h2
 have S0:Hid (Own (RS (RS RI)) lo hi w [.slice oa xs.length cap] xs):=ho
 obtain ⟨x,hx⟩:∃ x,x + a = m:=⟨m - a,by omega⟩
 obtain ⟨y,hy⟩:∃ y,y + m = b:=⟨b - m,by omega⟩
 obtain ⟨mid,hmid⟩:∃ mid,mid = (a + b) / 2:=⟨_,rfl⟩
 obtain ⟨n,hn⟩:∃ n,n = mid + m:=⟨_,rfl⟩
 obtain ⟨p,hp⟩:∃ p,p + 1 = n:=⟨n - 1,by omega⟩
 have wma:IntKind.i64.wrap ((m:Int) - (a:Int)) = (x:Int):=i64_sub hx (by omega)
 have hx1:¬ (x:Int) = 1:=by omega
 have hx2:((x:Int) == 1) = false:=by simp only [beq_eq_false_iff_ne,ne_eq];omega
 have wbm:IntKind.i64.wrap ((b:Int) - (m:Int)) = (y:Int):=i64_sub hy (by omega)
 have hy1:¬ (y:Int) = 1:=by omega
 have hy2:((y:Int) == 1) = false:=by simp only [beq_eq_false_iff_ne,ne_eq];omega
 have hrh:=run_halfS a b mid hmid
 have hab2:((a:Int) + (b:Int)) / 2 = (mid:Int):=by omega
 have wab:IntKind.i64.wrap ((a:Int) + (b:Int)) = (a:Int) + (b:Int):=IntWalk.i64_in _ (by omega)
 have wmm:IntKind.i64.wrap ((mid:Int) + (m:Int)) = (n:Int):=i64_add hn.symm (by omega)
 have wp:IntKind.i64.wrap ((n:Int) - 1) = (p:Int):=i64_pred hp (by omega)
 have hma2:a < mid:=by omega
 have hmb2:mid < b:=by omega
 have hna:n ≤ 3000000000:=by omega
 have hHN:=Lib.hid hn
 have hHP:=Lib.hid hp
 have hmn:m < n:=by omega
 have HIH:=Lib.hid IH
 have HB0:Hid (mid < m→SymB a m b mid n (n - b) mid):=Lib.hid fun h => ⟨by omega,by omega,by omega,by omega,by omega,by omega,by omega,hn⟩
 have HB1:Hid (¬ mid < m→SymB a m b mid n a m):=Lib.hid fun h => ⟨by omega,by omega,by omega,by omega,by omega,by omega,by omega,hn⟩
 have hnb:mid < m→b ≤ n:=by omega
 have hnb2:=Lib.hid hnb
 have hmm:¬ mid < m:=by rw [hmid];exact hcnd
 clear hc hcmp hok h1 h2 ho hx hy hmid hn hp IH hma hbm hnb hcnd
 have hmmz:¬ (mid:Int) < (m:Int):=by omega
 have hSB:SymB a m b mid n a m:=HB1.out hmm
 have sb1:=hSB.alo
 have sb2:=hSB.lohi
 have sb3:=hSB.him
 have sb4:=hSB.hn
 have sb5:=hSB.nlo
 have HSB:=Lib.hid hSB
 clear hSB HB0 HB1 hnb2
 go_enter Tryz.func248,Tryz.ntmps248
 go_wp2_with fail
 go_loopg [20,21] (m - a) (fun g1 vi vj wr => ∃ (i j:Nat),vi = .int .i64 i∧vj = .int .i64 j∧a ≤ i∧i ≤ j∧j ≤ m∧j - i ≤ g1∧Hid ((i = a ∨ LeAt c xs (i - 1) (n - i))∧(j = m ∨ LeAt c xs (n - j - 1) j)∧Own (RS (RS RI)) lo hi wr [.slice oa xs.length cap] xs∧Chg lo hi w wr))
 case atStart => exact ⟨a,m,rfl,rfl,Nat.le_refl _,by omega,Nat.le_refl _,Nat.le_refl _,Lib.hid ⟨.inl rfl,.inl rfl,S0.out,Chg.refl _ _ _⟩⟩
 case round =>
  clear S0
  obtain ⟨i,j,rfl,rfl,hi1,hij,hj1,hg1,HO⟩:=hrel
  by_cases hlt:i < j
  ·have hltz:(i:Int) < (j:Int):=by omega
   obtain ⟨h,hh⟩:∃ h,h = (i + j) / 2:=⟨_,rfl⟩
   have hih:i ≤ h:=by omega
   have hhj:h < j:=by omega
   have hrh:=run_halfS i j h hh
   have hh2:((i:Int) + (j:Int)) / 2 = (h:Int):=by omega
   have wij:IntKind.i64.wrap ((i:Int) + (j:Int)) = (i:Int) + (j:Int):=IntWalk.i64_in _ (by omega)
   have wh1:IntKind.i64.wrap ((h:Int) + 1) = ((h + 1:Nat):Int):=i64_succ rfl (by omega)
   have hpo:=hHP.out
   obtain ⟨q,hq0⟩:∃ q,q + h = p:=⟨p - h,by omega⟩
   have wq:IntKind.i64.wrap ((p:Int) - (h:Int)) = (q:Int):=i64_sub hq0 (by omega)
   have hhq:h < q:=by omega
   have hqb:q < b:=by omega
   have q1:n - (h + 1) = q:=by omega
   have q2:n - h - 1 = q:=by omega
   have Q1:=Lib.hid q1
   have Q2:=Lib.hid q2
   clear hh hq0 q1 q2 hpo
   obtain ⟨gb,cap',u1,u2,hv,_,_,hgb,k1,k2,f1,f2,r1,r2,k3,hsw,hch⟩:=HO.out.2.2.1.swap (R:=RS RI) rfl h q hhq (by omega)
   simp only [Value.slice.injEq,true_and] at hv
   obtain ⟨rfl,rfl⟩:=hv
   have ea:((h:Int)).toNat = h:=by omega
   have pa:(0:Int) ≤ (h:Int):=by omega
   have ba:(h:Int) < (xs.length:Int):=by omega
   have ec:((q:Int)).toNat = q:=by omega
   have pc:(0:Int) ≤ (q:Int):=by omega
   have bc:(q:Int) < (xs.length:Int):=by omega
   have hq:=HQ.out.q r2 r1 (HK.out _ (List.getElem_mem _)) (HK.out _ (List.getElem_mem _))
   obtain ⟨d,hd⟩:∃ d,d = c xs[q] xs[h]:=⟨_,rfl⟩
   rw [← hd] at hq
   obtain ⟨o1,p1,rfl,_⟩:=r1.val
   obtain ⟨o2,p2,rfl,_⟩:=r2.val
   obtain ⟨l1,hl1⟩:∃ l,l = xs[h].length:=⟨_,rfl⟩
   obtain ⟨l2,hl2⟩:∃ l,l = xs[q].length:=⟨_,rfl⟩
   rw [← hl1] at hq k1
   rw [← hl2] at hq k2
   clear hsw hch r1 r2 hl1 hl2 k3
   by_cases hlv:d < 0
   ·have hdd:decide (d < 0) = true:=decide_eq_true hlv
    have HD:Hid (LeAt c xs q h):=Lib.hid fun q1 q2 => by show c xs[q] xs[h] ≤ 0;omega
    clear hd
    go_wp2_with fail
    go_quiet ((go_at_fn g;exact hq _))
    go_wp2_with fail
    go_roundg (h - i)
    case measure => omega
    case rel => exact ⟨i,h,rfl,by first|rfl|go_num,hi1,hih,by omega,Nat.le_refl _,Lib.hid ⟨HO.out.1,.inr (by rw [Q2.out];exact HD.out),HO.out.2.2.1.of_heap rfl,HO.out.2.2.2.of_heap rfl rfl rfl rfl⟩⟩
   ·have hdd:decide (d < 0) = false:=decide_eq_false hlv
    have HD:Hid (LeAt c xs h q):=Lib.hid fun q1 q2 => by
     have:=HC.out.le_of_not_lt (a:=xs[q]) (b:=xs[h]) (by omega)
     exact this
    clear hd
    go_wp2_with fail
    go_quiet ((go_at_fn g;exact hq _))
    go_wp2_with fail
    go_roundg (j - (h + 1))
    case measure => omega
    case rel => exact ⟨h + 1,j,by first|rfl|go_num,rfl,by omega,by omega,hj1,Nat.le_refl _,Lib.hid ⟨.inr (by rw [Q1.out,Nat.add_sub_cancel];exact HD.out),HO.out.2.1,HO.out.2.2.1.of_heap rfl,HO.out.2.2.2.of_heap rfl rfl rfl rfl⟩⟩
  ·have hltz:¬ (i:Int) < (j:Int):=by omega
   obtain rfl:i = j:=by omega
   have hno:=hHN.out
   obtain ⟨e,he⟩:∃ e,e + i = n:=⟨n - i,by omega⟩
   have we:IntKind.i64.wrap ((n:Int) - (i:Int)) = (e:Int):=i64_sub he (by omega)
   have i1:a ≤ i:=by omega
   have i2:i ≤ m:=by omega
   have i3:m ≤ e:=by omega
   have i4:e ≤ b:=by omega
   have i5:mid = i + (e - m):=by omega
   have i6:i ≤ mid:=by omega
   have i7:mid ≤ e:=by omega
   have HM:Hid (∀ ys,Ix (rotI i m e) xs ys→SegOk c a i ys∧SegOk c i mid ys∧SegOk c mid e ys∧SegOk c e b ys∧Over c a mid b ys):=Lib.hid fun ys hr => by
    refine sym_split HC.out H1.out H2.out hb i1 i2 i3 i4 i5 ?_ ?_ hr
    ·have k1:=HO.out.1
     have k2:=HSB.out.n1
     rw [show n - i = e by omega] at k1
     rcases k1 with k1|k1
     ·subst k1
      rcases k2 with k2|k2
      ·exact .inl k2
      ·exact .inr (.inl (by omega))
     ·exact .inr (.inr k1)
    ·have k1:=HO.out.2.1
     have k2:=HSB.out.n2
     rw [show n - i - 1 = e - 1 by omega] at k1
     rcases k1 with k1|k1
     ·subst k1
      rcases k2 with k2|k2
      ·exact .inl k2
      ·exact .inr (.inl (by omega))
     ·exact .inr (.inr k1)
   have HW:Hid (Own (RS (RS RI)) lo hi wr [.slice oa xs.length cap] xs∧Chg lo hi w wr):=Lib.hid ⟨HO.out.2.2.1,HO.out.2.2.2⟩
   have HI5:=Lib.hid i5
   clear HO hno he i5
   go_upto_region 39 with fail
   go_cut [20,185] from 178 to 185 (fun s20 s185 wx => s20 = .int .i64 i∧s185 = .bool (decide (i < m∧m < e))∧Hid (Own (RS (RS RI)) lo hi wx [.slice oa xs.length cap] xs∧Chg lo hi w wx))
   case first =>
    by_cases d1:i < m
    ·by_cases d2:m < e
     ·have d3:decide (i < m∧m < e) = true:=decide_eq_true ⟨d1,d2⟩
      have D1:(i:Int) < (m:Int):=by omega
      have D2:(m:Int) < (e:Int):=by omega
      go_wp2_with fail
      go_meet
      exact ⟨rfl,by rw [d3],HW⟩
     ·have d3:decide (i < m∧m < e) = false:=decide_eq_false (fun h => d2 h.2)
      have D1:(i:Int) < (m:Int):=by omega
      have D2:¬ (m:Int) < (e:Int):=by omega
      try (have i5:=HI5.out;exfalso;omega)
      all_goals (
       go_wp2_with fail
       go_meet
       exact ⟨rfl,by rw [d3],HW⟩)
    ·have d3:decide (i < m∧m < e) = false:=decide_eq_false (fun h => d1 h.1)
     have D1:¬ (i:Int) < (m:Int):=by omega
     try (have i5:=HI5.out;exfalso;omega)
     all_goals (
      go_wp2_with fail
      go_meet
      exact ⟨rfl,by rw [d3],HW⟩)
   case rest =>
    obtain ⟨rfl,rfl,HW2⟩:=hcut
    clear HW
    go_upto_if 185 with fail
    go_cut [20] from 178 to 191 (fun s20 wx => s20 = .int .i64 i∧Hid (∃ ys,(PermIn a b xs ys∧Own (RS (RS RI)) lo hi wx [.slice oa xs.length cap] ys∧Chg lo hi w wx)∧SegOk c a i ys∧SegOk c i mid ys∧SegOk c mid e ys∧SegOk c e b ys∧Over c a mid b ys))
    case first =>
     by_cases hB:i < m∧m < e
     ·have d3:decide (i < m∧m < e) = true:=decide_eq_true hB
      have HR:=Lib.hid (c_rotate g i m e (.slice oa xs.length cap) xs lo hi wc HW2.out.1 (by omega) (by omega) (by omega) hsz)
      rw [d3]
      clear d3 hB
      go_wp2_with (go_at_call 285;refine HR.out.mono ?_;rintro e1 w1 ⟨rfl,ys,y1,y2,y3,y4⟩)
      go_meet
      exact ⟨rfl,Lib.hid ⟨ys,⟨y1.mono (by omega) (by omega),y3,HW2.out.2.trans y4⟩,HM.out ys y2⟩⟩
     ·have d3:decide (i < m∧m < e) = false:=decide_eq_false hB
      have HX:Hid (Ix (rotI i m e) xs xs):=Lib.hid (by
       by_cases h1:i < m
       ·rw [show e = m by omega];exact .refl (rotI_left i2)
       ·rw [show i = m by omega];exact .refl (rotI_right i3))
      rw [d3]
      clear d3 hB
      go_wp2_with fail
      go_meet
      exact ⟨rfl,Lib.hid ⟨xs,⟨PermIn.refl _ _ _,HW2.out.1,HW2.out.2⟩,HM.out xs HX.out⟩⟩
    case rest =>
     obtain ⟨rfl,HY⟩:=hcut
     clear HM HW2
     go_upto_region 41 with fail
     go_cut [20,199] from 192 to 199 (fun s20 s199 wx => s20 = .int .i64 i∧s199 = .bool (decide (a < i∧i < mid))∧Hid (∃ ys,(PermIn a b xs ys∧Own (RS (RS RI)) lo hi wx [.slice oa xs.length cap] ys∧Chg lo hi w wx)∧SegOk c a i ys∧SegOk c i mid ys∧SegOk c mid e ys∧SegOk c e b ys∧Over c a mid b ys))
     case first =>
      by_cases d1:a < i
      ·by_cases d2:i < mid
       ·have d3:decide (a < i∧i < mid) = true:=decide_eq_true ⟨d1,d2⟩
        have D1:(a:Int) < (i:Int):=by omega
        have D2:(i:Int) < (mid:Int):=by omega
        go_wp2_with fail
        go_meet
        exact ⟨rfl,by rw [d3],HY⟩
       ·have d3:decide (a < i∧i < mid) = false:=decide_eq_false (fun h => d2 h.2)
        have D1:(a:Int) < (i:Int):=by omega
        have D2:¬ (i:Int) < (mid:Int):=by omega
        try (have i5:=HI5.out;exfalso;omega)
        all_goals (
         go_wp2_with fail
         go_meet
         exact ⟨rfl,by rw [d3],HY⟩)
      ·have d3:decide (a < i∧i < mid) = false:=decide_eq_false (fun h => d1 h.1)
       have D1:¬ (a:Int) < (i:Int):=by omega
       try (have i5:=HI5.out;exfalso;omega)
       all_goals (
        go_wp2_with fail
        go_meet
        exact ⟨rfl,by rw [d3],HY⟩)
     case rest =>
      obtain ⟨rfl,rfl,HY2⟩:=hcut
      clear HY
      go_upto_if 199 with fail
      go_cut [20] from 192 to 205 (fun s20 wx => s20 = .int .i64 i∧Hid (∃ zs,(PermIn a b xs zs∧Own (RS (RS RI)) lo hi wx [.slice oa xs.length cap] zs∧Chg lo hi w wx)∧SegOk c a mid zs∧SegOk c mid e zs∧SegOk c e b zs∧Over c a mid b zs))
      case first =>
       obtain ⟨ys,HYs⟩:=HY2.out
       have HYZ:=Lib.hid HYs
       have hyl:ys.length = xs.length:=HYs.1.1.len
       clear HYs HY2
       by_cases hB:a < i∧i < mid
       ·have d3:decide (a < i∧i < mid) = true:=decide_eq_true hB
        have HR2:=Lib.hid (HIH.out a i mid (.slice oa xs.length cap) ys lo hi wc (by omega) HYZ.out.1.2.1 (fun z hz => HK.out z (HYZ.out.1.1.perm.mem_iff.1 hz)) HYZ.out.2.1 HYZ.out.2.2.1 (by omega) (by omega) (by omega) (by omega))
        rw [d3]
        clear d3 hB
        go_wp2_with (go_at_call 248;refine HR2.out.mono ?_;rintro e2 w2 ⟨rfl,zs,z1,z2,z3,z4⟩)
        go_meet
        exact ⟨rfl,Lib.hid ⟨zs,⟨HYZ.out.1.1.trans (z1.mono (Nat.le_refl _) (by omega)),z3,HYZ.out.1.2.2.trans z4⟩,z2,HYZ.out.2.2.2.1.perm z1 (.inr (Nat.le_refl _)),HYZ.out.2.2.2.2.1.perm z1 (.inr i7),HYZ.out.2.2.2.2.2.perm1 z1⟩⟩
       ·have d3:decide (a < i∧i < mid) = false:=decide_eq_false hB
        have HSa:Hid (SegOk c a mid ys):=Lib.hid (by
         by_cases h1:a < i
         ·have h:=HYZ.out.2.1;rw [show i = mid by omega] at h;exact h
         ·have h:=HYZ.out.2.2.1;rw [show i = a by omega] at h;exact h)
        rw [d3]
        clear d3 hB
        go_wp2_with fail
        go_meet
        exact ⟨rfl,Lib.hid ⟨ys,HYZ.out.1,HSa.out,HYZ.out.2.2.2⟩⟩
      case rest =>
       obtain ⟨rfl,HZ⟩:=hcut
       clear HY2
       go_upto_region 43 with fail
       go_cut [20,213] from 206 to 213 (fun s20 s213 wx => s20 = .int .i64 i∧s213 = .bool (decide (mid < e∧e < b))∧Hid (∃ zs,(PermIn a b xs zs∧Own (RS (RS RI)) lo hi wx [.slice oa xs.length cap] zs∧Chg lo hi w wx)∧SegOk c a mid zs∧SegOk c mid e zs∧SegOk c e b zs∧Over c a mid b zs))
       case first =>
        by_cases d1:mid < e
        ·by_cases d2:e < b
         ·have d3:decide (mid < e∧e < b) = true:=decide_eq_true ⟨d1,d2⟩
          have D1:(mid:Int) < (e:Int):=by omega
          have D2:(e:Int) < (b:Int):=by omega
          go_wp2_with fail
          go_meet
          exact ⟨rfl,by rw [d3],HZ⟩
         ·have d3:decide (mid < e∧e < b) = false:=decide_eq_false (fun h => d2 h.2)
          have D1:(mid:Int) < (e:Int):=by omega
          have D2:¬ (e:Int) < (b:Int):=by omega
          try (have i5:=HI5.out;exfalso;omega)
          all_goals (
           go_wp2_with fail
           go_meet
           exact ⟨rfl,by rw [d3],HZ⟩)
        ·have d3:decide (mid < e∧e < b) = false:=decide_eq_false (fun h => d1 h.1)
         have D1:¬ (mid:Int) < (e:Int):=by omega
         try (have i5:=HI5.out;exfalso;omega)
         all_goals (
          go_wp2_with fail
          go_meet
          exact ⟨rfl,by rw [d3],HZ⟩)
       case rest =>
        obtain ⟨rfl,rfl,HZ2⟩:=hcut
        clear HZ
        obtain ⟨zs,HZs⟩:=HZ2.out
        have HZZ:=Lib.hid HZs
        have hzl:zs.length = xs.length:=HZs.1.1.len
        clear HZs HZ2
        by_cases hB:mid < e∧e < b
        ·have d3:decide (mid < e∧e < b) = true:=decide_eq_true hB
         have HR3:=Lib.hid (HIH.out mid e b (.slice oa xs.length cap) zs lo hi wc (by omega) HZZ.out.1.2.1 (fun z hz => HK.out z (HZZ.out.1.1.perm.mem_iff.1 hz)) HZZ.out.2.2.1 HZZ.out.2.2.2.1 (by omega) (by omega) (by omega) (by omega))
         rw [d3]
         clear d3 hB
         go_wp2_with (go_at_call 248;refine HR3.out.mono ?_;rintro e3 w3 ⟨rfl,us,z1,z2,z3,z4⟩)
         go_end0
         exact ⟨rfl,us,HZZ.out.1.1.trans (z1.mono (by omega) (Nat.le_refl _)),(HZZ.out.2.2.2.2.perm2 z1).seg (HZZ.out.2.1.perm z1 (.inl (Nat.le_refl _))) z2,z3,HZZ.out.1.2.2.trans z4⟩
        ·have d3:decide (mid < e∧e < b) = false:=decide_eq_false hB
         have HSb:Hid (SegOk c mid b zs):=Lib.hid (by
          by_cases h1:mid < e
          ·have h:=HZZ.out.2.2.1;rw [show e = b by omega] at h;exact h
          ·have h:=HZZ.out.2.2.2.1;rw [show e = mid by omega] at h;exact h)
         rw [d3]
         clear d3 hB
         go_wp2_with fail
         go_end0
         exact ⟨rfl,zs,HZZ.out.1.1,HZZ.out.2.2.2.2.seg HZZ.out.2.1 HSb.out,HZZ.out.1.2.1,HZZ.out.1.2.2⟩
end Go.Proofs.YtgngidchldajhaaGreat

/- Lemmas (10). -/
import Derived.Deep.Cut
import Derived.Deep.CutRange
import Derived.Laws.Shifts
import Derived.Lib.AppendZeros
import Derived.WalkArith
import Derived.Test.YtofpjonggpjneaaZD0
import Derived.Test.YtofpjonggpjneaaZD1
import Derived.Test.YtofpjonggpjneaaZD5
import Derived.Test.YtofpjonggpjneaaZD6
import Derived.Test.YtofpjonggpjneaaZD7
import Derived.Test.YtofpjonggpjneaaZD9
set_option linter.unusedSimpArgs false
set_option linter.unusedVariables false
namespace Go.Proofs.Ytofpjonggpjneaa
open Go.RowKit
section
variable {α:Type} {R:Rep α} {w:World}
theorem Own.swapLo {v:Value} {xs:List α} {lo hi:Nat} (h:Own (RS R) lo hi w [v] xs) (hk:R.k = 1) (i j:Nat) (hij:i < j) (hj:j < xs.length) :
  ∃ g cap a b,v = .slice (some ⟨g,0,none⟩) xs.length cap∧xs.length ≤ cap∧cap ≤ 9223372036854775807∧g < w.heap.size ∧
   w.cell? ⟨g,i,none⟩ = some a∧w.cell? ⟨g,j,none⟩ = some b∧w.frozen? ⟨g,i,none⟩ = false∧w.frozen? ⟨g,j,none⟩ = false∧Rd R w [a] xs[i]∧Rd R w [b] xs[j] ∧
   (w.setCell ⟨g,i,none⟩ b).cell? ⟨g,j,none⟩ = some b ∧
   Own (RS R) lo hi ((w.setCell ⟨g,i,none⟩ b).setCell ⟨g,j,none⟩ a) [v] (swpL xs i j)∧Chg lo hi w ((w.setCell ⟨g,i,none⟩ b).setCell ⟨g,j,none⟩ a):=by
 obtain ⟨og,ds,F,hrow,hel,hF,hlt⟩:=h.open
 obtain ⟨g,rfl⟩:=hrow.some_of hj
 obtain ⟨cap,hv,hc1,hc2⟩:=hrow.slice
 obtain ⟨p,x,q,y,r,e,hp,hq,hxi,hxj⟩:=split2 xs i j hij hj
 rw [hxi,hxj]
 have hel0:=hel
 rw [e] at hel0
 obtain ⟨d1,d2,F1,F2,rfl,rfl,h1,⟨ca,d3,G,H,rfl,rfl,h2,h3⟩⟩:=ownL.unappend hel0
 obtain ⟨d4,d5,F4,F5,rfl,rfl,h4,⟨cb,d6,G2,H2,rfl,rfl,h5,h6⟩⟩:=ownL.unappend h3
 have la:=R.rd_len (R.own_rd h2)
 have lb:=R.rd_len (R.own_rd h5)
 rw [hk] at la lb
 match ca,la,cb,lb with
 | [a],_,[b],_ =>
  have l1:d1.length = i:=by rw [h1.len,hk,Nat.mul_one,hp]
  have l4:i + d4.length + 1 = j:=by rw [h4.len,hk,Nat.mul_one];exact hq
  have hlen:xs.length = p.length + (1 + (q.length + (1 + r.length))):=by rw [e];simp only [List.length_append,List.length_cons];omega
  have hrow':Row w v 1 xs.length (d1 ++ (a :: (d4 ++ (b :: d6)))) (some g):=by rw [← hk];exact hrow
  have ga:w.cell? ⟨g,i,none⟩ = some a:=hrow'.cells i a (by rw [← l1];simp)
  have gb:w.cell? ⟨g,j,none⟩ = some b:=hrow'.cells j b (by
   rw [List.getElem?_append_right (by omega),l1,show j - i = d4.length + 1 by omega];simp)
  obtain ⟨s1,r1⟩:=hrow'.store i b
  obtain ⟨s2,r2⟩:=s1.store j a
  have hset:((d1 ++ (a :: (d4 ++ (b :: d6)))).set i b).set j a = d1 ++ (b :: (d4 ++ (a :: d6))):=by
   rw [List.set_append_right _ _ (by omega),l1,Nat.sub_self,List.set_cons_zero,List.set_append_right _ _ (by omega),l1,show j - i = d4.length + 1 by omega,List.set_cons_succ,List.set_append_right _ _ (Nat.le_refl _),Nat.sub_self,List.set_cons_zero]
  rw [hset] at s2
  have hfr:∀ z,z ∈ F1 ++ (G ++ (F4 ++ (G2 ++ H2)))→((w.setCell ⟨g,i,none⟩ b).setCell ⟨g,j,none⟩ a).heap[z]? = w.heap[z]?:=by
   intro z hz
   have hne:z ≠ g:=by
    intro e;subst e
    exact (List.nodup_append.1 hF).2.2 z (by simp) z hz rfl
   rw [heap_setCell_other _ ⟨g,j,none⟩ z a hne,heap_setCell_other _ ⟨g,i,none⟩ z b hne]
  have hown:ownL R ((w.setCell ⟨g,i,none⟩ b).setCell ⟨g,j,none⟩ a) (d1 ++ (b :: (d4 ++ (a :: d6)))) (swpL xs i j) (F1 ++ (G2 ++ (F4 ++ (G ++ H2)))):=by
   rw [e,swpL_split p q r x y i j hp hq]
   refine ownL.append (h1.frame fun z hz => hfr z (by simp [hz])) ?_
   refine ⟨[b],d4 ++ (a :: d6),G2,F4 ++ (G ++ H2),rfl,rfl,R.own_frame h5 (fun z hz => hfr z (by simp [hz])),?_⟩
   refine ownL.append (h4.frame fun z hz => hfr z (by simp [hz])) ?_
   exact ⟨[a],d6,G,H2,rfl,rfl,R.own_frame h2 (fun z hz => hfr z (by simp [hz])),h6.frame fun z hz => hfr z (by simp [hz])⟩
  have hperm:(F1 ++ (G2 ++ (F4 ++ (G ++ H2)))).Perm (F1 ++ (G ++ (F4 ++ (G2 ++ H2)))):=by
   refine List.Perm.append_left F1 ?_
   have e1:(G2 ++ (F4 ++ (G ++ H2))).Perm (G ++ (G2 ++ (F4 ++ H2))):=by
    rw [← List.append_assoc,← List.append_assoc]
    refine (List.perm_append_comm.append_right H2).trans ?_
    rw [List.append_assoc,List.append_assoc]
   refine e1.trans (List.Perm.append_left G ?_)
   rw [← List.append_assoc,← List.append_assoc]
   exact List.perm_append_comm.append_right H2
  have hg:=hlt g (by simp)
  have hgs:=hrow.lt g rfl
  refine ⟨g,cap,a,b,hv,hc1,by unfold maxLen at hc2;omega,hgs,ga,gb,hrow'.frozen i,hrow'.frozen j,Rd.of (R.own_rd h2),Rd.of (R.own_rd h5),?_,?_,?_⟩
  ·rw [World.cell?_setCell_other _ _ _ _ (by intro e;simp only [Addr.mk.injEq] at e;omega)];exact gb
  ·refine Own.mk' (og:=some g) (ds:=d1 ++ (b :: (d4 ++ (a :: d6)))) (F:=F1 ++ (G2 ++ (F4 ++ (G ++ H2)))) (by rw [hk,swpL_length];exact s2) hown ?_ ?_
   ·exact (List.Perm.nodup_iff (hperm.append_left _)).2 hF
   ·intro z hz
    exact hlt z ((hperm.append_left _).mem_iff.1 hz)
  ·exact (Chg.of_grown r1 (fun z hz => by cases hz;exact hg)).trans (Chg.of_grown r2 (fun z hz => by cases hz;exact hg))
end
set_option maxHeartbeats 16000000 in
set_option maxRecDepth 1000000 in
theorem c_swapRange (g:Nat) (a b n:Nat) (v:Value) (xs:List (List Int)) (lo hi:Nat) (w:World) (ho:Own (RS (RS RI)) lo hi w [v] xs) (hab:a + n ≤ b) (hb:b + n ≤ xs.length) (hsz:xs.length ≤ 1000000000) :
  Calls Try.prog 218 #[v,.int .i64 a,.int .i64 b,.int .i64 n,.func (.func g) #[] #[]] w fun e w' => e = .returned (.tuple #[])∧∃ ys,PermIn a (b + n) xs ys∧Ix (swpI a b n) xs ys∧Own (RS (RS RI)) lo hi w' [v] ys∧Chg lo hi w w':=by
 obtain ⟨oa,cap,rfl,hv1,hv2⟩:=ho.val
 have mixed:Try.prog.follows Departure.mixedOrders = true:=by kernel_rfl
 have S0:Hid (Own (RS (RS RI)) lo hi w [.slice oa xs.length cap] xs):=ho
 clear ho
 go_enter Try.func218,Try.ntmps218
 go_wp2_with fail
 go_loopg [10] n (fun g1 vi wr => ∃ (i:Nat) (ys:List (List Int)),vi = .int .i64 i∧i ≤ n∧n - i ≤ g1∧Hid (PermIn a (b + n) xs ys∧Ix (swpI a b i) xs ys∧Own (RS (RS RI)) lo hi wr [.slice oa xs.length cap] ys∧Chg lo hi w wr))
 case atStart => exact ⟨0,xs,rfl,Nat.zero_le _,Nat.le_refl _,Lib.hid ⟨PermIn.refl _ _ _,.refl (swpI_zero a b),S0.out,Chg.refl _ _ _⟩⟩
 case round =>
  clear S0
  obtain ⟨i,ys,rfl,hi1,hg1,HO⟩:=hrel
  have hzl:ys.length = xs.length:=HO.out.1.len
  by_cases hlt:i < n
  ·have hltz:(i:Int) < (n:Int):=by omega
   obtain ⟨gb,cap',u1,u2,hv,_,_,hgb,k1,k2,f1,f2,r1,r2,k3,hsw,hch⟩:=HO.out.2.2.1.swapLo (R:=RS RI) rfl (a + i) (b + i) (by omega) (by omega)
   rw [hzl] at hv
   simp only [Value.slice.injEq,true_and] at hv
   obtain ⟨rfl,rfl⟩:=hv
   have ea:((a:Int) + (i:Int)).toNat = a + i:=by omega
   have pa:(0:Int) ≤ (a:Int) + (i:Int):=by omega
   have ba:(a:Int) + (i:Int) < (xs.length:Int):=by omega
   have ra:IntKind.i64.wrap ((a:Int) + (i:Int)) = (a:Int) + (i:Int):=by rw [IntKind.wrap_i64];omega
   have ec:((b:Int) + (i:Int)).toNat = b + i:=by omega
   have pc:(0:Int) ≤ (b:Int) + (i:Int):=by omega
   have bc:(b:Int) + (i:Int) < (xs.length:Int):=by omega
   have rc:IntKind.i64.wrap ((b:Int) + (i:Int)) = (b:Int) + (i:Int):=by rw [IntKind.wrap_i64];omega
   have S3:Hid (Own (RS (RS RI)) lo hi (((wr.setCell ⟨gb,a + i,none⟩ u2).setCell ⟨gb,b + i,none⟩ u1)) [.slice (some ⟨gb,0,none⟩) xs.length cap] (swpL ys (a + i) (b + i))∧Chg lo hi w ((wr.setCell ⟨gb,a + i,none⟩ u2).setCell ⟨gb,b + i,none⟩ u1)):=Lib.hid ⟨hsw,HO.out.2.2.2.trans hch⟩
   obtain ⟨o1,p1,rfl,_⟩:=r1.val
   obtain ⟨o2,p2,rfl,_⟩:=r2.val
   obtain ⟨l1,hl1⟩:∃ l,l = ys[a + i].length:=⟨_,rfl⟩
   obtain ⟨l2,hl2⟩:∃ l,l = ys[b + i].length:=⟨_,rfl⟩
   rw [← hl1] at k1 S3
   rw [← hl2] at k2 k3 S3
   clear hsw hch r1 r2 hl1 hl2
   go_wp2_with fail
   go_big_region_o
   clear k1 k2 k3 f1 f2
   go_wp2_with fail
   go_roundg (n - (i + 1))
   case measure => omega
   case rel =>
    refine ⟨i + 1,swpL ys (a + i) (b + i),by go_num,by omega,by omega,Lib.hid ⟨HO.out.1.trans (PermIn.swp ys (a + i) (b + i) (by omega) (by omega) (by omega) (by omega)),?_,S3.out.1.of_heap rfl,S3.out.2.of_heap rfl rfl rfl rfl⟩⟩
    exact HO.out.2.1.swp (by omega) (by omega) (swpI_succ hab hlt)
  ·obtain rfl:i = n:=by omega
   go_wp2_with fail
   go_end0
   exact ⟨rfl,ys,HO.out.1,HO.out.2.1,HO.out.2.2.1,HO.out.2.2.2⟩
end Go.Proofs.Ytofpjonggpjneaa
namespace Go.Proofs.Ytofpjonggpjneaa
open Go.RowKit
set_option maxHeartbeats 16000000 in
set_option maxRecDepth 1000000 in
theorem c_rotate (g:Nat) (a m b:Nat) (v:Value) (xs:List (List Int)) (lo hi:Nat) (w:World) (ho:Own (RS (RS RI)) lo hi w [v] xs) (ham:a < m) (hmb:m < b) (hb:b ≤ xs.length) (hsz:xs.length ≤ 1000000000) :
  Calls Try.prog 215 #[v,.int .i64 a,.int .i64 m,.int .i64 b,.func (.func g) #[] #[]] w fun e w' => e = .returned (.tuple #[])∧∃ ys,PermIn a b xs ys∧Ix (rotI a m b) xs ys∧Own (RS (RS RI)) lo hi w' [v] ys∧Chg lo hi w w':=by
 obtain ⟨oa,cap,rfl,hv1,hv2⟩:=ho.val
 have mixed:Try.prog.follows Departure.mixedOrders = true:=by kernel_rfl
 have S0:Hid (Own (RS (RS RI)) lo hi w [.slice oa xs.length cap] xs):=ho
 clear ho
 have wa:IntKind.i64.wrap ((m:Int) - (a:Int)) = ((m - a:Nat):Int):=by rw [IntWalk.i64_in _ (by omega)];omega
 have wb:IntKind.i64.wrap ((b:Int) - (m:Int)) = ((b - m:Nat):Int):=by rw [IntWalk.i64_in _ (by omega)];omega
 go_enter Try.func215,Try.ntmps215
 go_wp2_with fail
 go_loopg [10,11] ((m - a) + (b - m)) (fun g1 vi vj wr => ∃ (i j:Nat) (ys:List (List Int)),vi = .int .i64 i∧vj = .int .i64 j∧0 < i∧0 < j∧i ≤ m - a∧j ≤ b - m∧i + j ≤ g1∧Hid (PermIn a b xs ys∧RotS a m b i j xs ys∧Own (RS (RS RI)) lo hi wr [.slice oa xs.length cap] ys∧Chg lo hi w wr))
 case atStart => exact ⟨m - a,b - m,xs,by first|rfl|go_num|(congr 1;omega),by first|rfl|go_num|(congr 1;omega),by omega,by omega,Nat.le_refl _,Nat.le_refl _,Nat.le_refl _,Lib.hid ⟨PermIn.refl _ _ _,RotS.start (by omega) (by omega),S0.out,Chg.refl _ _ _⟩⟩
 case round =>
  clear S0 wa wb
  obtain ⟨i,j,ys,rfl,rfl,hi0,hj0,hi1,hj1,hg1,HO⟩:=hrel
  have hzl:ys.length = xs.length:=HO.out.1.len
  by_cases hlt:i = j
  ·subst hlt
   have hc:=c_swapRange g (m - i) m i (.slice oa xs.length cap) ys lo hi wr HO.out.2.2.1 (by omega) (by omega) (by omega)
   have wc:IntKind.i64.wrap ((m:Int) - (i:Int)) = ((m - i:Nat):Int):=by rw [IntWalk.i64_in _ (by omega)];omega
   have HC:=Lib.hid hc
   clear hc
   go_wp2_with (go_at_call 218;refine HC.out.mono ?_;rintro e w' ⟨rfl,zs,h1,h2,h3,h4⟩)
   go_end0
   exact ⟨rfl,zs,HO.out.1.trans (h1.mono (by omega) (by omega)),HO.out.2.1.done (by omega) h2,h3,HO.out.2.2.2.trans h4⟩
  ·have hne:¬ (i:Int) = (j:Int):=by omega
   by_cases hgt:j < i
   ·have hgtz:(j:Int) < (i:Int):=by omega
    have hc:=c_swapRange g (m - i) m j (.slice oa xs.length cap) ys lo hi wr HO.out.2.2.1 (by omega) (by omega) (by omega)
    have wc:IntKind.i64.wrap ((m:Int) - (i:Int)) = ((m - i:Nat):Int):=by rw [IntWalk.i64_in _ (by omega)];omega
    have wd:IntKind.i64.wrap ((i:Int) - (j:Int)) = ((i - j:Nat):Int):=by rw [IntWalk.i64_in _ (by omega)];omega
    have HC:=Lib.hid hc
    clear hc
    go_wp2_with (go_at_call 218;refine HC.out.mono ?_;rintro e w' ⟨rfl,zs,h1,h2,h3,h4⟩)
    have HZ:Hid (PermIn a b xs zs∧RotS a m b (i - j) j xs zs∧Own (RS (RS RI)) lo hi w' [.slice oa xs.length cap] zs∧Chg lo hi w w'):=Lib.hid ⟨HO.out.1.trans (h1.mono (by omega) (by omega)),HO.out.2.1.left hgt (by omega) h2,h3,HO.out.2.2.2.trans h4⟩
    clear h1 h2 h3 h4 HO
    go_wp2_with fail
    go_roundg (i - j + j)
    case measure => omega
    case rel => exact ⟨i - j,j,zs,by first|rfl|go_num|(congr 1;omega),rfl,by omega,by omega,by omega,by omega,Nat.le_refl _,HZ⟩
   ·have hgtz:¬ (j:Int) < (i:Int):=by omega
    have hc:=c_swapRange g (m - i) (m + j - i) i (.slice oa xs.length cap) ys lo hi wr HO.out.2.2.1 (by omega) (by omega) (by omega)
    obtain ⟨q,hq⟩:∃ q,q = m + j - i:=⟨_,rfl⟩
    obtain ⟨p,hp⟩:∃ p,p = m - i:=⟨_,rfl⟩
    obtain ⟨d,hd⟩:∃ d,d = j - i:=⟨_,rfl⟩
    have wc:IntKind.i64.wrap ((m:Int) - (i:Int)) = (p:Int):=by rw [IntWalk.i64_in _ (by omega)];omega
    have we:IntKind.i64.wrap ((m:Int) + (j:Int)) = (m:Int) + (j:Int):=by rw [IntWalk.i64_in _ (by omega)]
    have wf:IntKind.i64.wrap ((m:Int) + (j:Int) - (i:Int)) = (q:Int):=by rw [IntWalk.i64_in _ (by omega)];omega
    have wd:IntKind.i64.wrap ((j:Int) - (i:Int)) = (d:Int):=by rw [IntWalk.i64_in _ (by omega)];omega
    have hz:∀ zs,Ix (swpI (m - i) (m + j - i) i) ys zs→RotS a m b i (j - i) xs zs:=fun zs hz => HO.out.2.1.right (by omega) (by omega) hz
    have hz2:∀ zs,PermIn (m - i) (m + j - i + i) ys zs→PermIn a b xs zs:=fun zs hz => HO.out.1.trans (hz.mono (by omega) (by omega))
    rw [← hq,← hp] at hc hz hz2
    rw [← hd] at hz
    have HC:=Lib.hid hc
    have HK:=Lib.hid hz
    have HK2:=Lib.hid hz2
    have hd2:=Lib.hid hd
    clear hc hz hz2 hq hp hd
    go_wp2_with (go_at_call 218;refine HC.out.mono ?_;rintro e w' ⟨rfl,zs,h1,h2,h3,h4⟩)
    have HZ:Hid (PermIn a b xs zs∧RotS a m b i d xs zs∧Own (RS (RS RI)) lo hi w' [.slice oa xs.length cap] zs∧Chg lo hi w w'):=Lib.hid ⟨HK2.out zs h1,HK.out zs h2,h3,HO.out.2.2.2.trans h4⟩
    clear h1 h2 h3 h4 HO HC HK HK2
    go_wp2_with fail
    have hd:=hd2.out
    go_roundg (i + d)
    case measure => omega
    case rel => exact ⟨i,d,zs,rfl,rfl,by omega,by omega,by omega,by omega,Nat.le_refl _,HZ⟩
end Go.Proofs.Ytofpjonggpjneaa
namespace Go.Proofs.Ytofpjonggpjneaa
open Go.RowKit
def MrgOk (c:List Int→List Int→Int) (a b:Nat) (v:Value) (xs:List (List Int)) (lo hi:Nat) (w:World):Ending→World→Prop :=
 fun e w' => e = .returned (.tuple #[])∧∃ ys,PermIn a b xs ys∧SegOk c a b ys∧Own (RS (RS RI)) lo hi w' [v] ys∧Chg lo hi w w'
theorem i64_sub {a b d:Nat} (h:d + b = a) (hs:a ≤ 4000000000):IntKind.i64.wrap ((a:Int) - (b:Int)) = (d:Int):=by rw [IntWalk.i64_in _ (by omega)];omega
theorem i64_pred {a d:Nat} (h:d + 1 = a) (hs:a ≤ 4000000000):IntKind.i64.wrap ((a:Int) - 1) = (d:Int):=by rw [IntWalk.i64_in _ (by omega)];omega
theorem i64_add {a b d:Nat} (h:a + b = d) (hs:d ≤ 4000000000):IntKind.i64.wrap ((a:Int) + (b:Int)) = (d:Int):=by rw [IntWalk.i64_in _ (by omega)];omega
theorem i64_succ {a d:Nat} (h:a + 1 = d) (hs:d ≤ 4000000000):IntKind.i64.wrap ((a:Int) + 1) = (d:Int):=by rw [IntWalk.i64_in _ (by omega)];omega
theorem run_halfS (i j h:Nat) (e:h = (i + j) / 2) (w:World):(binOp .shr 142 (.int .u64 ((i:Int) + (j:Int))) (.int .u64 1)).run Try.prog w = .ok (.int .u64 h) w:=by
 have u70:=run_underlying Try.underlying142
 have e1:((i:Int) + (j:Int)) / 2 = (h:Int):=by omega
 have e2:Op.shift .shr .u64 ((i:Int) + (j:Int)) .u64 1 = (pure (.int .u64 (h:Int)):Sem Value):=by
  rw [shift_shr_any _ _ _ _ (by decide),← e1];rfl
 simp [binOp,u70,e2]
set_option maxHeartbeats 16000000 in
set_option maxRecDepth 1000000 in
theorem c_symMerge1 (g:Nat) (c:List Int→List Int→Int) (hc:Cmp c) (ok:List Int→Prop) (eg:∀ args w,(callFunc g args).run Try.prog w = .ok (.enter g args) w) (hcmp:CmpAsk Try.prog g c ok)
  (a m b:Nat) (v:Value) (xs:List (List Int)) (lo hi:Nat) (w:World) (ho:Own (RS (RS RI)) lo hi w [v] xs) (hok:∀ x ∈ xs,ok x) (h1:SegOk c a m xs) (h2:SegOk c m b xs) (ham:a < m) (hmb:m < b) (hb:b ≤ xs.length) (hsz:xs.length ≤ 1000000000) (hm:m = a + 1) :
  Calls Try.prog 206 #[v,.int .i64 a,.int .i64 m,.int .i64 b,.func (.func g) #[] #[]] w (MrgOk c a b v xs lo hi w):=by
 obtain ⟨oa,cap,rfl,hv1,hv2⟩:=ho.val
 have mixed:Try.prog.follows Departure.mixedOrders = true:=by kernel_rfl
 have HC:=Lib.hid hc
 have HQ:=Lib.hid hcmp
 have HK:=Lib.hid hok
 have H1:=Lib.hid h1
 have H2:=Lib.hid h2
 have S0:Hid (Own (RS (RS RI)) lo hi w [.slice oa xs.length cap] xs):=ho
 have wma:IntKind.i64.wrap ((m:Int) - (a:Int)) = 1:=i64_sub (d:=1) (by omega) (by omega)
 have hme:=Lib.hid hm
 clear hc hcmp hok h1 h2 ho hm
 have HR0:Hid (∀ k,rotI a m (a + 1) k = k):=Lib.hid fun k => by rw [← hme.out];exact rotI_left (Nat.le_of_lt ham) k
 go_enter Try.func206,Try.ntmps206
 go_wp2_with fail
 go_loopg [10,11] (b - m) (fun g1 vi vj wr => ∃ (i j:Nat),vi = .int .i64 i∧vj = .int .i64 j∧m ≤ i∧i ≤ j∧j ≤ b∧j - i ≤ g1∧Hid ((i = m ∨ LeAt c xs (i - 1) a)∧(j = b ∨ LeAt c xs a j)∧Own (RS (RS RI)) lo hi wr [.slice oa xs.length cap] xs∧Chg lo hi w wr))
 case atStart => exact ⟨m,b,rfl,rfl,Nat.le_refl _,by omega,Nat.le_refl _,Nat.le_refl _,Lib.hid ⟨.inl rfl,.inl rfl,S0.out,Chg.refl _ _ _⟩⟩
 case round =>
  clear S0
  obtain ⟨i,j,rfl,rfl,hi1,hij,hj1,hg1,HO⟩:=hrel
  by_cases hlt:i < j
  ·have hltz:(i:Int) < (j:Int):=by omega
   obtain ⟨h,hh⟩:∃ h,h = (i + j) / 2:=⟨_,rfl⟩
   have hih:i ≤ h:=by omega
   have hhj:h < j:=by omega
   have hrh:=run_halfS i j h hh
   have hh2:((i:Int) + (j:Int)) / 2 = (h:Int):=by omega
   have wij:IntKind.i64.wrap ((i:Int) + (j:Int)) = (i:Int) + (j:Int):=IntWalk.i64_in _ (by omega)
   have wh1:IntKind.i64.wrap ((h:Int) + 1) = ((h + 1:Nat):Int):=i64_succ rfl (by omega)
   clear hh
   obtain ⟨gb,cap',u1,u2,hv,_,_,hgb,k1,k2,f1,f2,r1,r2,k3,hsw,hch⟩:=HO.out.2.2.1.swap (R:=RS RI) rfl (a) (h) (by omega) (by omega)
   simp only [Value.slice.injEq,true_and] at hv
   obtain ⟨rfl,rfl⟩:=hv
   have ea:((a:Int)).toNat = a:=by omega
   have pa:(0:Int) ≤ (a:Int):=by omega
   have ba:(a:Int) < (xs.length:Int):=by omega
   have ec:((h:Int)).toNat = h:=by omega
   have pc:(0:Int) ≤ (h:Int):=by omega
   have bc:(h:Int) < (xs.length:Int):=by omega
   have hq:=HQ.out.q r2 r1 (HK.out _ (List.getElem_mem _)) (HK.out _ (List.getElem_mem _))
   obtain ⟨d,hd⟩:∃ d,d = c xs[h] xs[a]:=⟨_,rfl⟩
   rw [← hd] at hq
   obtain ⟨o1,p1,rfl,_⟩:=r1.val
   obtain ⟨o2,p2,rfl,_⟩:=r2.val
   obtain ⟨l1,hl1⟩:∃ l,l = xs[a].length:=⟨_,rfl⟩
   obtain ⟨l2,hl2⟩:∃ l,l = xs[h].length:=⟨_,rfl⟩
   rw [← hl1] at hq k1
   rw [← hl2] at hq k2
   clear hsw hch r1 r2 hl1 hl2 k3
   by_cases hlv:d < 0
   ·have hdd:decide (d < 0) = true:=decide_eq_true hlv
    have HD:Hid (LeAt c xs h a):=Lib.hid fun q1 q2 => by show c xs[h] xs[a] ≤ 0;omega
    clear hd
    go_wp2_with fail
    go_quiet ((go_at_fn g;exact hq _))
    go_wp2_with fail
    go_roundg (j - (h + 1))
    case measure => omega
    case rel => exact ⟨h + 1,j,by first|rfl|go_num,rfl,by omega,by omega,hj1,Nat.le_refl _,Lib.hid ⟨.inr (by rw [Nat.add_sub_cancel];exact HD.out),HO.out.2.1,HO.out.2.2.1.of_heap rfl,HO.out.2.2.2.of_heap rfl rfl rfl rfl⟩⟩
   ·have hdd:decide (d < 0) = false:=decide_eq_false hlv
    have HD:Hid (LeAt c xs a h):=Lib.hid fun q1 q2 => by
     have:=HC.out.le_of_not_lt (a:=xs[h]) (b:=xs[a]) (by omega)
     exact this
    clear hd
    go_wp2_with fail
    go_quiet ((go_at_fn g;exact hq _))
    go_wp2_with fail
    go_roundg (h - i)
    case measure => omega
    case rel => exact ⟨i,h,rfl,by first|rfl|go_num,hi1,hih,by omega,Nat.le_refl _,Lib.hid ⟨HO.out.1,.inr (HD.out),HO.out.2.2.1.of_heap rfl,HO.out.2.2.2.of_heap rfl rfl rfl rfl⟩⟩
  ·have hltz:¬ (i:Int) < (j:Int):=by omega
   obtain rfl:i = j:=by omega
   obtain ⟨p,hp⟩:∃ p,p + 1 = i:=⟨i - 1,by omega⟩
   have wip:IntKind.i64.wrap ((i:Int) - 1) = (p:Int):=i64_pred hp (by omega)
   have HI:=Lib.hid (And.intro HO.out.1 HO.out.2.1)
   have HW:Hid (Own (RS (RS RI)) lo hi wr [.slice oa xs.length cap] xs∧Chg lo hi w wr):=Lib.hid ⟨HO.out.2.2.1,HO.out.2.2.2⟩
   have hpe:=Lib.hid hp
   clear HO hp
   go_wp2_with fail
   have hp:=hpe.out
   go_loopg [13] (p - a) (fun g2 vk wr => ∃ (k:Nat) (ys:List (List Int)),vk = .int .i64 k∧a ≤ k∧k ≤ p∧p - k ≤ g2∧Hid (PermIn a b xs ys∧Ix (rotI a m (k + 1)) xs ys∧Own (RS (RS RI)) lo hi wr [.slice oa xs.length cap] ys∧Chg lo hi w wr))
   case atStart => exact ⟨a,xs,rfl,Nat.le_refl _,by omega,Nat.le_refl _,Lib.hid ⟨PermIn.refl _ _ _,.refl HR0.out,HW.out.1,HW.out.2⟩⟩
   case round =>
    clear HW
    obtain ⟨k,ys,rfl,hk1,hk2,hg2,HJ⟩:=hrel
    have hzl:ys.length = xs.length:=HJ.out.1.len
    by_cases hkp:k < p
    ·have hkpz:(k:Int) < (p:Int):=by omega
     obtain ⟨gb,cap',u1,u2,hv,_,_,hgb,k1,k2,f1,f2,r1,r2,k3,hsw,hch⟩:=HJ.out.2.2.1.swapLo (R:=RS RI) rfl k (k + 1) (Nat.lt_succ_self _) (by omega)
     rw [hzl] at hv
     simp only [Value.slice.injEq,true_and] at hv
     obtain ⟨rfl,rfl⟩:=hv
     have ea:((k:Int) + 1).toNat = k + 1:=by omega
     have pa:(0:Int) ≤ (k:Int) + 1:=by omega
     have ba:(k:Int) + 1 < (xs.length:Int):=by omega
     have ra:IntKind.i64.wrap ((k:Int) + 1) = (k:Int) + 1:=by rw [IntWalk.i64_in _ (by omega)]
     have ec:((k:Int)).toNat = k:=by omega
     have pc:(0:Int) ≤ (k:Int):=by omega
     have bc:(k:Int) < (xs.length:Int):=by omega
     have S3:Hid (Own (RS (RS RI)) lo hi (((wr.setCell ⟨gb,k,none⟩ u2).setCell ⟨gb,k + 1,none⟩ u1)) [.slice (some ⟨gb,0,none⟩) xs.length cap] (swpL ys k (k + 1))∧Chg lo hi w ((wr.setCell ⟨gb,k,none⟩ u2).setCell ⟨gb,k + 1,none⟩ u1)):=Lib.hid ⟨hsw,HJ.out.2.2.2.trans hch⟩
     obtain ⟨o1,p1,rfl,_⟩:=r1.val
     obtain ⟨o2,p2,rfl,_⟩:=r2.val
     obtain ⟨l1,hl1⟩:∃ l,l = ys[k].length:=⟨_,rfl⟩
     obtain ⟨l2,hl2⟩:∃ l,l = ys[k + 1].length:=⟨_,rfl⟩
     rw [← hl1] at k1 S3
     rw [← hl2] at k2 k3 S3
     clear hsw hch r1 r2 hl1 hl2 wma wip
     go_wp2_with fail
     go_big_region_o
     clear k1 k2 k3 f1 f2
     go_wp2_with fail
     go_roundg (p - (k + 1))
     case measure => omega
     case rel =>
      refine ⟨k + 1,swpL ys k (k + 1),by first|rfl|go_num,by omega,by omega,Nat.le_refl _,Lib.hid ⟨HJ.out.1.trans (PermIn.swp ys k (k + 1) (by omega) (by omega) (by omega) (by omega)),?_,S3.out.1.of_heap rfl,S3.out.2.of_heap rfl rfl rfl rfl⟩⟩
      refine HJ.out.2.1.swp (by omega) (by omega) (fun q => ?_)
      have hm:=hme.out
      unfold rotI
      (repeat' split) <;> omega
    ·have hkpz:¬ (k:Int) < (p:Int):=by omega
     obtain rfl:k = p:=by omega
     go_wp2_with fail
     go_end0
     have hm:=hme.out
     subst hm
     have hI:=HI.out
     subst hp
     exact ⟨rfl,ys,HJ.out.1,one_first HC.out H2.out hb (by omega) (by omega) hI.1 hI.2 HJ.out.2.1,HJ.out.2.2.1,HJ.out.2.2.2⟩
set_option maxHeartbeats 16000000 in
set_option maxRecDepth 1000000 in
theorem c_symMerge2 (g:Nat) (c:List Int→List Int→Int) (hc:Cmp c) (ok:List Int→Prop) (eg:∀ args w,(callFunc g args).run Try.prog w = .ok (.enter g args) w) (hcmp:CmpAsk Try.prog g c ok)
  (a m b:Nat) (v:Value) (xs:List (List Int)) (lo hi:Nat) (w:World) (ho:Own (RS (RS RI)) lo hi w [v] xs) (hok:∀ x ∈ xs,ok x) (h1:SegOk c a m xs) (h2:SegOk c m b xs) (ham:a < m) (hmb:m < b) (hb:b ≤ xs.length) (hsz:xs.length ≤ 1000000000) (hm:b = m + 1) (hn:¬ m = a + 1) :
  Calls Try.prog 206 #[v,.int .i64 a,.int .i64 m,.int .i64 b,.func (.func g) #[] #[]] w (MrgOk c a b v xs lo hi w):=by
 obtain ⟨oa,cap,rfl,hv1,hv2⟩:=ho.val
 have mixed:Try.prog.follows Departure.mixedOrders = true:=by kernel_rfl
 have HC:=Lib.hid hc
 have HQ:=Lib.hid hcmp
 have HK:=Lib.hid hok
 have H1:=Lib.hid h1
 have H2:=Lib.hid h2
 have S0:Hid (Own (RS (RS RI)) lo hi w [.slice oa xs.length cap] xs):=ho
 obtain ⟨x,hx⟩:∃ x,x + a = m:=⟨m - a,by omega⟩
 have wma:IntKind.i64.wrap ((m:Int) - (a:Int)) = (x:Int):=i64_sub hx (by omega)
 have hx1:¬ (x:Int) = 1:=by omega
 have hx2:((x:Int) == 1) = false:=by simp only [beq_eq_false_iff_ne,ne_eq];omega
 have wbm:IntKind.i64.wrap ((b:Int) - (m:Int)) = 1:=i64_sub (d:=1) (by omega) (by omega)
 have hme:=Lib.hid hm
 clear hc hcmp hok h1 h2 ho hm hx hn
 go_enter Try.func206,Try.ntmps206
 go_wp2_with fail
 go_loopg [14,15] (m - a) (fun g1 vi vj wr => ∃ (i j:Nat),vi = .int .i64 i∧vj = .int .i64 j∧a ≤ i∧i ≤ j∧j ≤ m∧j - i ≤ g1∧Hid ((i = a ∨ LeAt c xs (i - 1) m)∧(j = m ∨ LeAt c xs m j)∧Own (RS (RS RI)) lo hi wr [.slice oa xs.length cap] xs∧Chg lo hi w wr))
 case atStart => exact ⟨a,m,rfl,rfl,Nat.le_refl _,by omega,Nat.le_refl _,Nat.le_refl _,Lib.hid ⟨.inl rfl,.inl rfl,S0.out,Chg.refl _ _ _⟩⟩
 case round =>
  clear S0
  obtain ⟨i,j,rfl,rfl,hi1,hij,hj1,hg1,HO⟩:=hrel
  by_cases hlt:i < j
  ·have hltz:(i:Int) < (j:Int):=by omega
   obtain ⟨h,hh⟩:∃ h,h = (i + j) / 2:=⟨_,rfl⟩
   have hih:i ≤ h:=by omega
   have hhj:h < j:=by omega
   have hrh:=run_halfS i j h hh
   have hh2:((i:Int) + (j:Int)) / 2 = (h:Int):=by omega
   have wij:IntKind.i64.wrap ((i:Int) + (j:Int)) = (i:Int) + (j:Int):=IntWalk.i64_in _ (by omega)
   have wh1:IntKind.i64.wrap ((h:Int) + 1) = ((h + 1:Nat):Int):=i64_succ rfl (by omega)
   clear hh
   obtain ⟨gb,cap',u1,u2,hv,_,_,hgb,k1,k2,f1,f2,r1,r2,k3,hsw,hch⟩:=HO.out.2.2.1.swap (R:=RS RI) rfl (h) (m) (by omega) (by omega)
   simp only [Value.slice.injEq,true_and] at hv
   obtain ⟨rfl,rfl⟩:=hv
   have ea:((h:Int)).toNat = h:=by omega
   have pa:(0:Int) ≤ (h:Int):=by omega
   have ba:(h:Int) < (xs.length:Int):=by omega
   have ec:((m:Int)).toNat = m:=by omega
   have pc:(0:Int) ≤ (m:Int):=by omega
   have bc:(m:Int) < (xs.length:Int):=by omega
   have hq:=HQ.out.q r2 r1 (HK.out _ (List.getElem_mem _)) (HK.out _ (List.getElem_mem _))
   obtain ⟨d,hd⟩:∃ d,d = c xs[m] xs[h]:=⟨_,rfl⟩
   rw [← hd] at hq
   obtain ⟨o1,p1,rfl,_⟩:=r1.val
   obtain ⟨o2,p2,rfl,_⟩:=r2.val
   obtain ⟨l1,hl1⟩:∃ l,l = xs[h].length:=⟨_,rfl⟩
   obtain ⟨l2,hl2⟩:∃ l,l = xs[m].length:=⟨_,rfl⟩
   rw [← hl1] at hq k1
   rw [← hl2] at hq k2
   clear hsw hch r1 r2 hl1 hl2 k3
   by_cases hlv:d < 0
   ·have hdd:decide (d < 0) = true:=decide_eq_true hlv
    have HD:Hid (LeAt c xs m h):=Lib.hid fun q1 q2 => by show c xs[m] xs[h] ≤ 0;omega
    clear hd
    go_wp2_with fail
    go_quiet ((go_at_fn g;exact hq _))
    go_wp2_with fail
    go_roundg (h - i)
    case measure => omega
    case rel => exact ⟨i,h,rfl,by first|rfl|go_num,hi1,hih,by omega,Nat.le_refl _,Lib.hid ⟨HO.out.1,.inr (HD.out),HO.out.2.2.1.of_heap rfl,HO.out.2.2.2.of_heap rfl rfl rfl rfl⟩⟩
   ·have hdd:decide (d < 0) = false:=decide_eq_false hlv
    have HD:Hid (LeAt c xs h m):=Lib.hid fun q1 q2 => by
     have:=HC.out.le_of_not_lt (a:=xs[m]) (b:=xs[h]) (by omega)
     exact this
    clear hd
    go_wp2_with fail
    go_quiet ((go_at_fn g;exact hq _))
    go_wp2_with fail
    go_roundg (j - (h + 1))
    case measure => omega
    case rel => exact ⟨h + 1,j,by first|rfl|go_num,rfl,by omega,by omega,hj1,Nat.le_refl _,Lib.hid ⟨.inr (by rw [Nat.add_sub_cancel];exact HD.out),HO.out.2.1,HO.out.2.2.1.of_heap rfl,HO.out.2.2.2.of_heap rfl rfl rfl rfl⟩⟩
  ·have hltz:¬ (i:Int) < (j:Int):=by omega
   obtain rfl:i = j:=by omega
   have HI:=Lib.hid (And.intro HO.out.1 HO.out.2.1)
   have HW:Hid (Own (RS (RS RI)) lo hi wr [.slice oa xs.length cap] xs∧Chg lo hi w wr):=Lib.hid ⟨HO.out.2.2.1,HO.out.2.2.2⟩
   clear HO
   go_wp2_with fail
   go_loopg [17] (m - i) (fun g2 vk wr => ∃ (k:Nat) (ys:List (List Int)),vk = .int .i64 k∧i ≤ k∧k ≤ m∧k - i ≤ g2∧Hid (PermIn a b xs ys∧Ix (rotI k m b) xs ys∧Own (RS (RS RI)) lo hi wr [.slice oa xs.length cap] ys∧Chg lo hi w wr))
   case atStart => exact ⟨m,xs,rfl,by omega,Nat.le_refl _,Nat.le_refl _,Lib.hid ⟨PermIn.refl _ _ _,.refl (fun k => rotI_right (by omega) k),HW.out.1,HW.out.2⟩⟩
   case round =>
    clear HW
    obtain ⟨k,ys,rfl,hk1,hk2,hg2,HJ⟩:=hrel
    have hzl:ys.length = xs.length:=HJ.out.1.len
    by_cases hkp:i < k
    ·obtain ⟨q,hqk⟩:∃ q,q + 1 = k:=⟨k - 1,by omega⟩
     subst hqk
     have hkpz:(i:Int) < (q:Int) + 1:=by omega
     obtain ⟨gb,cap',u1,u2,hv,_,_,hgb,k1,k2,f1,f2,r1,r2,k3,hsw,hch⟩:=HJ.out.2.2.1.swap (R:=RS RI) rfl q (q + 1) (Nat.lt_succ_self _) (by omega)
     rw [hzl] at hv
     simp only [Value.slice.injEq,true_and] at hv
     obtain ⟨rfl,rfl⟩:=hv
     have ea:((q:Int) + 1).toNat = q + 1:=by omega
     have pa:(0:Int) ≤ (q:Int) + 1:=by omega
     have ba:(q:Int) + 1 < (xs.length:Int):=by omega
     have ra:IntKind.i64.wrap ((q:Int) + 1) = (q:Int) + 1:=by rw [IntWalk.i64_in _ (by omega)]
     have ec:((q:Int)).toNat = q:=by omega
     have pc:(0:Int) ≤ (q:Int):=by omega
     have bc:(q:Int) < (xs.length:Int):=by omega
     have rc:IntKind.i64.wrap ((q:Int)) = (q:Int):=by rw [IntWalk.i64_in _ (by omega)]
     have S3:Hid (Own (RS (RS RI)) lo hi (((wr.setCell ⟨gb,q + 1,none⟩ u1).setCell ⟨gb,q,none⟩ u2)) [.slice (some ⟨gb,0,none⟩) xs.length cap] (swpL ys q (q + 1))∧Chg lo hi w ((wr.setCell ⟨gb,q + 1,none⟩ u1).setCell ⟨gb,q,none⟩ u2)):=Lib.hid ⟨hsw,HJ.out.2.2.2.trans hch⟩
     obtain ⟨o1,p1,rfl,_⟩:=r1.val
     obtain ⟨o2,p2,rfl,_⟩:=r2.val
     obtain ⟨l1,hl1⟩:∃ l,l = ys[q].length:=⟨_,rfl⟩
     obtain ⟨l2,hl2⟩:∃ l,l = ys[q + 1].length:=⟨_,rfl⟩
     rw [← hl1] at k1 k3 S3
     rw [← hl2] at k2 S3
     clear hsw hch r1 r2 hl1 hl2 wma wbm
     go_wp2_with fail
     go_big_region_o
     clear k1 k2 k3 f1 f2
     go_wp2_with fail
     go_roundg (q - i)
     case measure => omega
     case rel =>
      refine ⟨q,swpL ys q (q + 1),by first|rfl|go_num|(congr 1;omega),by omega,by omega,Nat.le_refl _,Lib.hid ⟨HJ.out.1.trans (PermIn.swp ys q (q + 1) (by omega) (by omega) (by omega) (by omega)),?_,S3.out.1.of_heap rfl,S3.out.2.of_heap rfl rfl rfl rfl⟩⟩
      refine HJ.out.2.1.swp (by omega) (by omega) (fun t => ?_)
      have hm:=hme.out
      unfold rotI
      (repeat' split) <;> omega
    ·have hkpz:¬ (i:Int) < (k:Int):=by omega
     obtain rfl:k = i:=by omega
     go_wp2_with fail
     go_end0
     have hm:=hme.out
     subst hm
     have hI:=HI.out
     exact ⟨rfl,ys,HJ.out.1,one_last HC.out H1.out (by omega) hi1 (by omega) hI.1 hI.2 HJ.out.2.1,HJ.out.2.2.1,HJ.out.2.2.2⟩
end Go.Proofs.Ytofpjonggpjneaa
namespace Go.Proofs.Ytofpjonggpjneaa
open Go.RowKit
def MrgIH (N g:Nat) (c:List Int→List Int→Int) (ok:List Int→Prop):Prop:=∀ (a m b:Nat) (v:Value) (xs:List (List Int)) (lo hi:Nat) (w:World),b - a < N→Own (RS (RS RI)) lo hi w [v] xs→(∀ x ∈ xs,ok x)→SegOk c a m xs→SegOk c m b xs→a < m→m < b→b ≤ xs.length→xs.length ≤ 1000000000 →
 Calls Try.prog 206 #[v,.int .i64 a,.int .i64 m,.int .i64 b,.func (.func g) #[] #[]] w (MrgOk c a b v xs lo hi w)
structure SymB (a m b mid n lo hi:Nat):Prop where
 alo:a ≤ lo
 lohi:lo ≤ hi
 him:hi ≤ m
 hn:hi + m ≤ n
 nlo:n ≤ lo + b
 n1:lo = a ∨ n - lo = b
 n2:hi = m ∨ n - hi = m
 mn:n = mid + m
end Go.Proofs.Ytofpjonggpjneaa
namespace Go.Proofs.Ytofpjonggpjneaa
open Go.RowKit
set_option maxHeartbeats 16000000 in
set_option maxRecDepth 1000000 in
theorem c_symMerge3a (g:Nat) (c:List Int→List Int→Int) (hc:Cmp c) (ok:List Int→Prop) (eg:∀ args w,(callFunc g args).run Try.prog w = .ok (.enter g args) w) (hcmp:CmpAsk Try.prog g c ok)
  (a m b:Nat) (v:Value) (xs:List (List Int)) (lo hi:Nat) (w:World) (ho:Own (RS (RS RI)) lo hi w [v] xs) (hok:∀ x ∈ xs,ok x) (h1:SegOk c a m xs) (h2:SegOk c m b xs) (ham:a < m) (hmb:m < b) (hb:b ≤ xs.length) (hsz:xs.length ≤ 1000000000) (N:Nat) (hN:b - a ≤ N) (IH:MrgIH N g c ok) (hma:¬ m = a + 1) (hbm:¬ b = m + 1) (hcnd:(a + b) / 2 < m) :
  Calls Try.prog 206 #[v,.int .i64 a,.int .i64 m,.int .i64 b,.func (.func g) #[] #[]] w (MrgOk c a b v xs lo hi w):=by
 obtain ⟨oa,cap,rfl,hv1,hv2⟩:=ho.val
 have mixed:Try.prog.follows Departure.mixedOrders = true:=by kernel_rfl
 have HC:=Lib.hid hc
 have HQ:=Lib.hid hcmp
 have HK:=Lib.hid hok
 have H1:=Lib.hid h1
 have H2:=Lib.hid h2
 have S0:Hid (Own (RS (RS RI)) lo hi w [.slice oa xs.length cap] xs):=ho
 obtain ⟨x,hx⟩:∃ x,x + a = m:=⟨m - a,by omega⟩
 obtain ⟨y,hy⟩:∃ y,y + m = b:=⟨b - m,by omega⟩
 obtain ⟨mid,hmid⟩:∃ mid,mid = (a + b) / 2:=⟨_,rfl⟩
 obtain ⟨n,hn⟩:∃ n,n = mid + m:=⟨_,rfl⟩
 obtain ⟨p,hp⟩:∃ p,p + 1 = n:=⟨n - 1,by omega⟩
 have wma:IntKind.i64.wrap ((m:Int) - (a:Int)) = (x:Int):=i64_sub hx (by omega)
 have hx1:¬ (x:Int) = 1:=by omega
 have hx2:((x:Int) == 1) = false:=by simp only [beq_eq_false_iff_ne,ne_eq];omega
 have wbm:IntKind.i64.wrap ((b:Int) - (m:Int)) = (y:Int):=i64_sub hy (by omega)
 have hy1:¬ (y:Int) = 1:=by omega
 have hy2:((y:Int) == 1) = false:=by simp only [beq_eq_false_iff_ne,ne_eq];omega
 have hrh:=run_halfS a b mid hmid
 have hab2:((a:Int) + (b:Int)) / 2 = (mid:Int):=by omega
 have wab:IntKind.i64.wrap ((a:Int) + (b:Int)) = (a:Int) + (b:Int):=IntWalk.i64_in _ (by omega)
 have wmm:IntKind.i64.wrap ((mid:Int) + (m:Int)) = (n:Int):=i64_add hn.symm (by omega)
 have wp:IntKind.i64.wrap ((n:Int) - 1) = (p:Int):=i64_pred hp (by omega)
 have hma2:a < mid:=by omega
 have hmb2:mid < b:=by omega
 have hna:n ≤ 3000000000:=by omega
 have hHN:=Lib.hid hn
 have hHP:=Lib.hid hp
 have hmn:m < n:=by omega
 have HIH:=Lib.hid IH
 have HB0:Hid (mid < m→SymB a m b mid n (n - b) mid):=Lib.hid fun h => ⟨by omega,by omega,by omega,by omega,by omega,by omega,by omega,hn⟩
 have HB1:Hid (¬ mid < m→SymB a m b mid n a m):=Lib.hid fun h => ⟨by omega,by omega,by omega,by omega,by omega,by omega,by omega,hn⟩
 have hnb:mid < m→b ≤ n:=by omega
 have hnb2:=Lib.hid hnb
 have hmm:mid < m:=by rw [hmid];exact hcnd
 clear hc hcmp hok h1 h2 ho hx hy hmid hn hp IH hma hbm hnb hcnd
 have hmmz:(mid:Int) < (m:Int):=by omega
 obtain ⟨l0,hl0⟩:∃ l0,l0 + b = n:=⟨n - b,by have:=hnb2.out hmm;omega⟩
 have wl0:IntKind.i64.wrap ((n:Int) - (b:Int)) = (l0:Int):=i64_sub hl0 (by omega)
 have hSB:SymB a m b mid n l0 mid:=by have:=HB0.out hmm;rw [show n - b = l0 by omega] at this;exact this
 clear hl0
 have sb1:=hSB.alo
 have sb2:=hSB.lohi
 have sb3:=hSB.him
 have sb4:=hSB.hn
 have sb5:=hSB.nlo
 have HSB:=Lib.hid hSB
 clear hSB HB0 HB1 hnb2
 go_enter Try.func206,Try.ntmps206
 go_wp2_with fail
 go_loopg [20,21] (mid - l0) (fun g1 vi vj wr => ∃ (i j:Nat),vi = .int .i64 i∧vj = .int .i64 j∧l0 ≤ i∧i ≤ j∧j ≤ mid∧j - i ≤ g1∧Hid ((i = l0 ∨ LeAt c xs (i - 1) (n - i))∧(j = mid ∨ LeAt c xs (n - j - 1) j)∧Own (RS (RS RI)) lo hi wr [.slice oa xs.length cap] xs∧Chg lo hi w wr))
 case atStart => exact ⟨l0,mid,rfl,rfl,Nat.le_refl _,by omega,Nat.le_refl _,Nat.le_refl _,Lib.hid ⟨.inl rfl,.inl rfl,S0.out,Chg.refl _ _ _⟩⟩
 case round =>
  clear S0
  obtain ⟨i,j,rfl,rfl,hi1,hij,hj1,hg1,HO⟩:=hrel
  by_cases hlt:i < j
  ·have hltz:(i:Int) < (j:Int):=by omega
   obtain ⟨h,hh⟩:∃ h,h = (i + j) / 2:=⟨_,rfl⟩
   have hih:i ≤ h:=by omega
   have hhj:h < j:=by omega
   have hrh:=run_halfS i j h hh
   have hh2:((i:Int) + (j:Int)) / 2 = (h:Int):=by omega
   have wij:IntKind.i64.wrap ((i:Int) + (j:Int)) = (i:Int) + (j:Int):=IntWalk.i64_in _ (by omega)
   have wh1:IntKind.i64.wrap ((h:Int) + 1) = ((h + 1:Nat):Int):=i64_succ rfl (by omega)
   have hpo:=hHP.out
   obtain ⟨q,hq0⟩:∃ q,q + h = p:=⟨p - h,by omega⟩
   have wq:IntKind.i64.wrap ((p:Int) - (h:Int)) = (q:Int):=i64_sub hq0 (by omega)
   have hhq:h < q:=by omega
   have hqb:q < b:=by omega
   have q1:n - (h + 1) = q:=by omega
   have q2:n - h - 1 = q:=by omega
   have Q1:=Lib.hid q1
   have Q2:=Lib.hid q2
   clear hh hq0 q1 q2 hpo
   obtain ⟨gb,cap',u1,u2,hv,_,_,hgb,k1,k2,f1,f2,r1,r2,k3,hsw,hch⟩:=HO.out.2.2.1.swap (R:=RS RI) rfl h q hhq (by omega)
   simp only [Value.slice.injEq,true_and] at hv
   obtain ⟨rfl,rfl⟩:=hv
   have ea:((h:Int)).toNat = h:=by omega
   have pa:(0:Int) ≤ (h:Int):=by omega
   have ba:(h:Int) < (xs.length:Int):=by omega
   have ec:((q:Int)).toNat = q:=by omega
   have pc:(0:Int) ≤ (q:Int):=by omega
   have bc:(q:Int) < (xs.length:Int):=by omega
   have hq:=HQ.out.q r2 r1 (HK.out _ (List.getElem_mem _)) (HK.out _ (List.getElem_mem _))
   obtain ⟨d,hd⟩:∃ d,d = c xs[q] xs[h]:=⟨_,rfl⟩
   rw [← hd] at hq
   obtain ⟨o1,p1,rfl,_⟩:=r1.val
   obtain ⟨o2,p2,rfl,_⟩:=r2.val
   obtain ⟨l1,hl1⟩:∃ l,l = xs[h].length:=⟨_,rfl⟩
   obtain ⟨l2,hl2⟩:∃ l,l = xs[q].length:=⟨_,rfl⟩
   rw [← hl1] at hq k1
   rw [← hl2] at hq k2
   clear hsw hch r1 r2 hl1 hl2 k3
   by_cases hlv:d < 0
   ·have hdd:decide (d < 0) = true:=decide_eq_true hlv
    have HD:Hid (LeAt c xs q h):=Lib.hid fun q1 q2 => by show c xs[q] xs[h] ≤ 0;omega
    clear hd
    go_wp2_with fail
    go_quiet ((go_at_fn g;exact hq _))
    go_wp2_with fail
    go_roundg (h - i)
    case measure => omega
    case rel => exact ⟨i,h,rfl,by first|rfl|go_num,hi1,hih,by omega,Nat.le_refl _,Lib.hid ⟨HO.out.1,.inr (by rw [Q2.out];exact HD.out),HO.out.2.2.1.of_heap rfl,HO.out.2.2.2.of_heap rfl rfl rfl rfl⟩⟩
   ·have hdd:decide (d < 0) = false:=decide_eq_false hlv
    have HD:Hid (LeAt c xs h q):=Lib.hid fun q1 q2 => by
     have:=HC.out.le_of_not_lt (a:=xs[q]) (b:=xs[h]) (by omega)
     exact this
    clear hd
    go_wp2_with fail
    go_quiet ((go_at_fn g;exact hq _))
    go_wp2_with fail
    go_roundg (j - (h + 1))
    case measure => omega
    case rel => exact ⟨h + 1,j,by first|rfl|go_num,rfl,by omega,by omega,hj1,Nat.le_refl _,Lib.hid ⟨.inr (by rw [Q1.out,Nat.add_sub_cancel];exact HD.out),HO.out.2.1,HO.out.2.2.1.of_heap rfl,HO.out.2.2.2.of_heap rfl rfl rfl rfl⟩⟩
  ·have hltz:¬ (i:Int) < (j:Int):=by omega
   obtain rfl:i = j:=by omega
   have hno:=hHN.out
   obtain ⟨e,he⟩:∃ e,e + i = n:=⟨n - i,by omega⟩
   have we:IntKind.i64.wrap ((n:Int) - (i:Int)) = (e:Int):=i64_sub he (by omega)
   have i1:a ≤ i:=by omega
   have i2:i ≤ m:=by omega
   have i3:m ≤ e:=by omega
   have i4:e ≤ b:=by omega
   have i5:mid = i + (e - m):=by omega
   have i6:i ≤ mid:=by omega
   have i7:mid ≤ e:=by omega
   have HM:Hid (∀ ys,Ix (rotI i m e) xs ys→SegOk c a i ys∧SegOk c i mid ys∧SegOk c mid e ys∧SegOk c e b ys∧Over c a mid b ys):=Lib.hid fun ys hr => by
    refine sym_split HC.out H1.out H2.out hb i1 i2 i3 i4 i5 ?_ ?_ hr
    ·have k1:=HO.out.1
     have k2:=HSB.out.n1
     rw [show n - i = e by omega] at k1
     rcases k1 with k1|k1
     ·subst k1
      rcases k2 with k2|k2
      ·exact .inl k2
      ·exact .inr (.inl (by omega))
     ·exact .inr (.inr k1)
    ·have k1:=HO.out.2.1
     have k2:=HSB.out.n2
     rw [show n - i - 1 = e - 1 by omega] at k1
     rcases k1 with k1|k1
     ·subst k1
      rcases k2 with k2|k2
      ·exact .inl k2
      ·exact .inr (.inl (by omega))
     ·exact .inr (.inr k1)
   have HW:Hid (Own (RS (RS RI)) lo hi wr [.slice oa xs.length cap] xs∧Chg lo hi w wr):=Lib.hid ⟨HO.out.2.2.1,HO.out.2.2.2⟩
   have HI5:=Lib.hid i5
   clear HO hno he i5
   go_upto_region 39 with fail
   go_cut [20,185] from 178 to 185 (fun s20 s185 wx => s20 = .int .i64 i∧s185 = .bool (decide (i < m∧m < e))∧Hid (Own (RS (RS RI)) lo hi wx [.slice oa xs.length cap] xs∧Chg lo hi w wx))
   case first =>
    by_cases d1:i < m
    ·by_cases d2:m < e
     ·have d3:decide (i < m∧m < e) = true:=decide_eq_true ⟨d1,d2⟩
      have D1:(i:Int) < (m:Int):=by omega
      have D2:(m:Int) < (e:Int):=by omega
      go_wp2_with fail
      go_meet
      exact ⟨rfl,by rw [d3],HW⟩
     ·have d3:decide (i < m∧m < e) = false:=decide_eq_false (fun h => d2 h.2)
      have D1:(i:Int) < (m:Int):=by omega
      have D2:¬ (m:Int) < (e:Int):=by omega
      try (have i5:=HI5.out;exfalso;omega)
      all_goals (
       go_wp2_with fail
       go_meet
       exact ⟨rfl,by rw [d3],HW⟩)
    ·have d3:decide (i < m∧m < e) = false:=decide_eq_false (fun h => d1 h.1)
     have D1:¬ (i:Int) < (m:Int):=by omega
     try (have i5:=HI5.out;exfalso;omega)
     all_goals (
      go_wp2_with fail
      go_meet
      exact ⟨rfl,by rw [d3],HW⟩)
   case rest =>
    obtain ⟨rfl,rfl,HW2⟩:=hcut
    clear HW
    go_upto_if 185 with fail
    go_cut [20] from 178 to 191 (fun s20 wx => s20 = .int .i64 i∧Hid (∃ ys,(PermIn a b xs ys∧Own (RS (RS RI)) lo hi wx [.slice oa xs.length cap] ys∧Chg lo hi w wx)∧SegOk c a i ys∧SegOk c i mid ys∧SegOk c mid e ys∧SegOk c e b ys∧Over c a mid b ys))
    case first =>
     by_cases hB:i < m∧m < e
     ·have d3:decide (i < m∧m < e) = true:=decide_eq_true hB
      have HR:=Lib.hid (c_rotate g i m e (.slice oa xs.length cap) xs lo hi wc HW2.out.1 (by omega) (by omega) (by omega) hsz)
      rw [d3]
      clear d3 hB
      go_wp2_with (go_at_call 215;refine HR.out.mono ?_;rintro e1 w1 ⟨rfl,ys,y1,y2,y3,y4⟩)
      go_meet
      exact ⟨rfl,Lib.hid ⟨ys,⟨y1.mono (by omega) (by omega),y3,HW2.out.2.trans y4⟩,HM.out ys y2⟩⟩
     ·have d3:decide (i < m∧m < e) = false:=decide_eq_false hB
      have HX:Hid (Ix (rotI i m e) xs xs):=Lib.hid (by
       by_cases h1:i < m
       ·rw [show e = m by omega];exact .refl (rotI_left i2)
       ·rw [show i = m by omega];exact .refl (rotI_right i3))
      rw [d3]
      clear d3 hB
      go_wp2_with fail
      go_meet
      exact ⟨rfl,Lib.hid ⟨xs,⟨PermIn.refl _ _ _,HW2.out.1,HW2.out.2⟩,HM.out xs HX.out⟩⟩
    case rest =>
     obtain ⟨rfl,HY⟩:=hcut
     clear HM HW2
     go_upto_region 41 with fail
     go_cut [20,199] from 192 to 199 (fun s20 s199 wx => s20 = .int .i64 i∧s199 = .bool (decide (a < i∧i < mid))∧Hid (∃ ys,(PermIn a b xs ys∧Own (RS (RS RI)) lo hi wx [.slice oa xs.length cap] ys∧Chg lo hi w wx)∧SegOk c a i ys∧SegOk c i mid ys∧SegOk c mid e ys∧SegOk c e b ys∧Over c a mid b ys))
     case first =>
      by_cases d1:a < i
      ·by_cases d2:i < mid
       ·have d3:decide (a < i∧i < mid) = true:=decide_eq_true ⟨d1,d2⟩
        have D1:(a:Int) < (i:Int):=by omega
        have D2:(i:Int) < (mid:Int):=by omega
        go_wp2_with fail
        go_meet
        exact ⟨rfl,by rw [d3],HY⟩
       ·have d3:decide (a < i∧i < mid) = false:=decide_eq_false (fun h => d2 h.2)
        have D1:(a:Int) < (i:Int):=by omega
        have D2:¬ (i:Int) < (mid:Int):=by omega
        try (have i5:=HI5.out;exfalso;omega)
        all_goals (
         go_wp2_with fail
         go_meet
         exact ⟨rfl,by rw [d3],HY⟩)
      ·have d3:decide (a < i∧i < mid) = false:=decide_eq_false (fun h => d1 h.1)
       have D1:¬ (a:Int) < (i:Int):=by omega
       try (have i5:=HI5.out;exfalso;omega)
       all_goals (
        go_wp2_with fail
        go_meet
        exact ⟨rfl,by rw [d3],HY⟩)
     case rest =>
      obtain ⟨rfl,rfl,HY2⟩:=hcut
      clear HY
      go_upto_if 199 with fail
      go_cut [20] from 192 to 205 (fun s20 wx => s20 = .int .i64 i∧Hid (∃ zs,(PermIn a b xs zs∧Own (RS (RS RI)) lo hi wx [.slice oa xs.length cap] zs∧Chg lo hi w wx)∧SegOk c a mid zs∧SegOk c mid e zs∧SegOk c e b zs∧Over c a mid b zs))
      case first =>
       obtain ⟨ys,HYs⟩:=HY2.out
       have HYZ:=Lib.hid HYs
       have hyl:ys.length = xs.length:=HYs.1.1.len
       clear HYs HY2
       by_cases hB:a < i∧i < mid
       ·have d3:decide (a < i∧i < mid) = true:=decide_eq_true hB
        have HR2:=Lib.hid (HIH.out a i mid (.slice oa xs.length cap) ys lo hi wc (by omega) HYZ.out.1.2.1 (fun z hz => HK.out z (HYZ.out.1.1.perm.mem_iff.1 hz)) HYZ.out.2.1 HYZ.out.2.2.1 (by omega) (by omega) (by omega) (by omega))
        rw [d3]
        clear d3 hB
        go_wp2_with (go_at_call 206;refine HR2.out.mono ?_;rintro e2 w2 ⟨rfl,zs,z1,z2,z3,z4⟩)
        go_meet
        exact ⟨rfl,Lib.hid ⟨zs,⟨HYZ.out.1.1.trans (z1.mono (Nat.le_refl _) (by omega)),z3,HYZ.out.1.2.2.trans z4⟩,z2,HYZ.out.2.2.2.1.perm z1 (.inr (Nat.le_refl _)),HYZ.out.2.2.2.2.1.perm z1 (.inr i7),HYZ.out.2.2.2.2.2.perm1 z1⟩⟩
       ·have d3:decide (a < i∧i < mid) = false:=decide_eq_false hB
        have HSa:Hid (SegOk c a mid ys):=Lib.hid (by
         by_cases h1:a < i
         ·have h:=HYZ.out.2.1;rw [show i = mid by omega] at h;exact h
         ·have h:=HYZ.out.2.2.1;rw [show i = a by omega] at h;exact h)
        rw [d3]
        clear d3 hB
        go_wp2_with fail
        go_meet
        exact ⟨rfl,Lib.hid ⟨ys,HYZ.out.1,HSa.out,HYZ.out.2.2.2⟩⟩
      case rest =>
       obtain ⟨rfl,HZ⟩:=hcut
       clear HY2
       go_upto_region 43 with fail
       go_cut [20,213] from 206 to 213 (fun s20 s213 wx => s20 = .int .i64 i∧s213 = .bool (decide (mid < e∧e < b))∧Hid (∃ zs,(PermIn a b xs zs∧Own (RS (RS RI)) lo hi wx [.slice oa xs.length cap] zs∧Chg lo hi w wx)∧SegOk c a mid zs∧SegOk c mid e zs∧SegOk c e b zs∧Over c a mid b zs))
       case first =>
        by_cases d1:mid < e
        ·by_cases d2:e < b
         ·have d3:decide (mid < e∧e < b) = true:=decide_eq_true ⟨d1,d2⟩
          have D1:(mid:Int) < (e:Int):=by omega
          have D2:(e:Int) < (b:Int):=by omega
          go_wp2_with fail
          go_meet
          exact ⟨rfl,by rw [d3],HZ⟩
         ·have d3:decide (mid < e∧e < b) = false:=decide_eq_false (fun h => d2 h.2)
          have D1:(mid:Int) < (e:Int):=by omega
          have D2:¬ (e:Int) < (b:Int):=by omega
          try (have i5:=HI5.out;exfalso;omega)
          all_goals (
           go_wp2_with fail
           go_meet
           exact ⟨rfl,by rw [d3],HZ⟩)
        ·have d3:decide (mid < e∧e < b) = false:=decide_eq_false (fun h => d1 h.1)
         have D1:¬ (mid:Int) < (e:Int):=by omega
         try (have i5:=HI5.out;exfalso;omega)
         all_goals (
          go_wp2_with fail
          go_meet
          exact ⟨rfl,by rw [d3],HZ⟩)
       case rest =>
        obtain ⟨rfl,rfl,HZ2⟩:=hcut
        clear HZ
        obtain ⟨zs,HZs⟩:=HZ2.out
        have HZZ:=Lib.hid HZs
        have hzl:zs.length = xs.length:=HZs.1.1.len
        clear HZs HZ2
        by_cases hB:mid < e∧e < b
        ·have d3:decide (mid < e∧e < b) = true:=decide_eq_true hB
         have HR3:=Lib.hid (HIH.out mid e b (.slice oa xs.length cap) zs lo hi wc (by omega) HZZ.out.1.2.1 (fun z hz => HK.out z (HZZ.out.1.1.perm.mem_iff.1 hz)) HZZ.out.2.2.1 HZZ.out.2.2.2.1 (by omega) (by omega) (by omega) (by omega))
         rw [d3]
         clear d3 hB
         go_wp2_with (go_at_call 206;refine HR3.out.mono ?_;rintro e3 w3 ⟨rfl,us,z1,z2,z3,z4⟩)
         go_end0
         exact ⟨rfl,us,HZZ.out.1.1.trans (z1.mono (by omega) (Nat.le_refl _)),(HZZ.out.2.2.2.2.perm2 z1).seg (HZZ.out.2.1.perm z1 (.inl (Nat.le_refl _))) z2,z3,HZZ.out.1.2.2.trans z4⟩
        ·have d3:decide (mid < e∧e < b) = false:=decide_eq_false hB
         have HSb:Hid (SegOk c mid b zs):=Lib.hid (by
          by_cases h1:mid < e
          ·have h:=HZZ.out.2.2.1;rw [show e = b by omega] at h;exact h
          ·have h:=HZZ.out.2.2.2.1;rw [show e = mid by omega] at h;exact h)
         rw [d3]
         clear d3 hB
         go_wp2_with fail
         go_end0
         exact ⟨rfl,zs,HZZ.out.1.1,HZZ.out.2.2.2.2.seg HZZ.out.2.1 HSb.out,HZZ.out.1.2.1,HZZ.out.1.2.2⟩
end Go.Proofs.Ytofpjonggpjneaa
namespace Go.Proofs.Ytofpjonggpjneaa
open Go.RowKit
set_option maxHeartbeats 16000000 in
set_option maxRecDepth 1000000 in
theorem c_symMerge3b (g:Nat) (c:List Int→List Int→Int) (hc:Cmp c) (ok:List Int→Prop) (eg:∀ args w,(callFunc g args).run Try.prog w = .ok (.enter g args) w) (hcmp:CmpAsk Try.prog g c ok)
  (a m b:Nat) (v:Value) (xs:List (List Int)) (lo hi:Nat) (w:World) (ho:Own (RS (RS RI)) lo hi w [v] xs) (hok:∀ x ∈ xs,ok x) (h1:SegOk c a m xs) (h2:SegOk c m b xs) (ham:a < m) (hmb:m < b) (hb:b ≤ xs.length) (hsz:xs.length ≤ 1000000000) (N:Nat) (hN:b - a ≤ N) (IH:MrgIH N g c ok) (hma:¬ m = a + 1) (hbm:¬ b = m + 1) (hcnd:¬ (a + b) / 2 < m) :
  Calls Try.prog 206 #[v,.int .i64 a,.int .i64 m,.int .i64 b,.func (.func g) #[] #[]] w (MrgOk c a b v xs lo hi w):=by
 obtain ⟨oa,cap,rfl,hv1,hv2⟩:=ho.val
 have mixed:Try.prog.follows Departure.mixedOrders = true:=by kernel_rfl
 have HC:=Lib.hid hc
 have HQ:=Lib.hid hcmp
 have HK:=Lib.hid hok
 have H1:=Lib.hid h1
 have H2:=Lib.hid h2
 have S0:Hid (Own (RS (RS RI)) lo hi w [.slice oa xs.length cap] xs):=ho
 obtain ⟨x,hx⟩:∃ x,x + a = m:=⟨m - a,by omega⟩
 obtain ⟨y,hy⟩:∃ y,y + m = b:=⟨b - m,by omega⟩
 obtain ⟨mid,hmid⟩:∃ mid,mid = (a + b) / 2:=⟨_,rfl⟩
 obtain ⟨n,hn⟩:∃ n,n = mid + m:=⟨_,rfl⟩
 obtain ⟨p,hp⟩:∃ p,p + 1 = n:=⟨n - 1,by omega⟩
 have wma:IntKind.i64.wrap ((m:Int) - (a:Int)) = (x:Int):=i64_sub hx (by omega)
 have hx1:¬ (x:Int) = 1:=by omega
 have hx2:((x:Int) == 1) = false:=by simp only [beq_eq_false_iff_ne,ne_eq];omega
 have wbm:IntKind.i64.wrap ((b:Int) - (m:Int)) = (y:Int):=i64_sub hy (by omega)
 have hy1:¬ (y:Int) = 1:=by omega
 have hy2:((y:Int) == 1) = false:=by simp only [beq_eq_false_iff_ne,ne_eq];omega
 have hrh:=run_halfS a b mid hmid
 have hab2:((a:Int) + (b:Int)) / 2 = (mid:Int):=by omega
 have wab:IntKind.i64.wrap ((a:Int) + (b:Int)) = (a:Int) + (b:Int):=IntWalk.i64_in _ (by omega)
 have wmm:IntKind.i64.wrap ((mid:Int) + (m:Int)) = (n:Int):=i64_add hn.symm (by omega)
 have wp:IntKind.i64.wrap ((n:Int) - 1) = (p:Int):=i64_pred hp (by omega)
 have hma2:a < mid:=by omega
 have hmb2:mid < b:=by omega
 have hna:n ≤ 3000000000:=by omega
 have hHN:=Lib.hid hn
 have hHP:=Lib.hid hp
 have hmn:m < n:=by omega
 have HIH:=Lib.hid IH
 have HB0:Hid (mid < m→SymB a m b mid n (n - b) mid):=Lib.hid fun h => ⟨by omega,by omega,by omega,by omega,by omega,by omega,by omega,hn⟩
 have HB1:Hid (¬ mid < m→SymB a m b mid n a m):=Lib.hid fun h => ⟨by omega,by omega,by omega,by omega,by omega,by omega,by omega,hn⟩
 have hnb:mid < m→b ≤ n:=by omega
 have hnb2:=Lib.hid hnb
 have hmm:¬ mid < m:=by rw [hmid];exact hcnd
 clear hc hcmp hok h1 h2 ho hx hy hmid hn hp IH hma hbm hnb hcnd
 have hmmz:¬ (mid:Int) < (m:Int):=by omega
 have hSB:SymB a m b mid n a m:=HB1.out hmm
 have sb1:=hSB.alo
 have sb2:=hSB.lohi
 have sb3:=hSB.him
 have sb4:=hSB.hn
 have sb5:=hSB.nlo
 have HSB:=Lib.hid hSB
 clear hSB HB0 HB1 hnb2
 go_enter Try.func206,Try.ntmps206
 go_wp2_with fail
 go_loopg [20,21] (m - a) (fun g1 vi vj wr => ∃ (i j:Nat),vi = .int .i64 i∧vj = .int .i64 j∧a ≤ i∧i ≤ j∧j ≤ m∧j - i ≤ g1∧Hid ((i = a ∨ LeAt c xs (i - 1) (n - i))∧(j = m ∨ LeAt c xs (n - j - 1) j)∧Own (RS (RS RI)) lo hi wr [.slice oa xs.length cap] xs∧Chg lo hi w wr))
 case atStart => exact ⟨a,m,rfl,rfl,Nat.le_refl _,by omega,Nat.le_refl _,Nat.le_refl _,Lib.hid ⟨.inl rfl,.inl rfl,S0.out,Chg.refl _ _ _⟩⟩
 case round =>
  clear S0
  obtain ⟨i,j,rfl,rfl,hi1,hij,hj1,hg1,HO⟩:=hrel
  by_cases hlt:i < j
  ·have hltz:(i:Int) < (j:Int):=by omega
   obtain ⟨h,hh⟩:∃ h,h = (i + j) / 2:=⟨_,rfl⟩
   have hih:i ≤ h:=by omega
   have hhj:h < j:=by omega
   have hrh:=run_halfS i j h hh
   have hh2:((i:Int) + (j:Int)) / 2 = (h:Int):=by omega
   have wij:IntKind.i64.wrap ((i:Int) + (j:Int)) = (i:Int) + (j:Int):=IntWalk.i64_in _ (by omega)
   have wh1:IntKind.i64.wrap ((h:Int) + 1) = ((h + 1:Nat):Int):=i64_succ rfl (by omega)
   have hpo:=hHP.out
   obtain ⟨q,hq0⟩:∃ q,q + h = p:=⟨p - h,by omega⟩
   have wq:IntKind.i64.wrap ((p:Int) - (h:Int)) = (q:Int):=i64_sub hq0 (by omega)
   have hhq:h < q:=by omega
   have hqb:q < b:=by omega
   have q1:n - (h + 1) = q:=by omega
   have q2:n - h - 1 = q:=by omega
   have Q1:=Lib.hid q1
   have Q2:=Lib.hid q2
   clear hh hq0 q1 q2 hpo
   obtain ⟨gb,cap',u1,u2,hv,_,_,hgb,k1,k2,f1,f2,r1,r2,k3,hsw,hch⟩:=HO.out.2.2.1.swap (R:=RS RI) rfl h q hhq (by omega)
   simp only [Value.slice.injEq,true_and] at hv
   obtain ⟨rfl,rfl⟩:=hv
   have ea:((h:Int)).toNat = h:=by omega
   have pa:(0:Int) ≤ (h:Int):=by omega
   have ba:(h:Int) < (xs.length:Int):=by omega
   have ec:((q:Int)).toNat = q:=by omega
   have pc:(0:Int) ≤ (q:Int):=by omega
   have bc:(q:Int) < (xs.length:Int):=by omega
   have hq:=HQ.out.q r2 r1 (HK.out _ (List.getElem_mem _)) (HK.out _ (List.getElem_mem _))
   obtain ⟨d,hd⟩:∃ d,d = c xs[q] xs[h]:=⟨_,rfl⟩
   rw [← hd] at hq
   obtain ⟨o1,p1,rfl,_⟩:=r1.val
   obtain ⟨o2,p2,rfl,_⟩:=r2.val
   obtain ⟨l1,hl1⟩:∃ l,l = xs[h].length:=⟨_,rfl⟩
   obtain ⟨l2,hl2⟩:∃ l,l = xs[q].length:=⟨_,rfl⟩
   rw [← hl1] at hq k1
   rw [← hl2] at hq k2
   clear hsw hch r1 r2 hl1 hl2 k3
   by_cases hlv:d < 0
   ·have hdd:decide (d < 0) = true:=decide_eq_true hlv
    have HD:Hid (LeAt c xs q h):=Lib.hid fun q1 q2 => by show c xs[q] xs[h] ≤ 0;omega
    clear hd
    go_wp2_with fail
    go_quiet ((go_at_fn g;exact hq _))
    go_wp2_with fail
    go_roundg (h - i)
    case measure => omega
    case rel => exact ⟨i,h,rfl,by first|rfl|go_num,hi1,hih,by omega,Nat.le_refl _,Lib.hid ⟨HO.out.1,.inr (by rw [Q2.out];exact HD.out),HO.out.2.2.1.of_heap rfl,HO.out.2.2.2.of_heap rfl rfl rfl rfl⟩⟩
   ·have hdd:decide (d < 0) = false:=decide_eq_false hlv
    have HD:Hid (LeAt c xs h q):=Lib.hid fun q1 q2 => by
     have:=HC.out.le_of_not_lt (a:=xs[q]) (b:=xs[h]) (by omega)
     exact this
    clear hd
    go_wp2_with fail
    go_quiet ((go_at_fn g;exact hq _))
    go_wp2_with fail
    go_roundg (j - (h + 1))
    case measure => omega
    case rel => exact ⟨h + 1,j,by first|rfl|go_num,rfl,by omega,by omega,hj1,Nat.le_refl _,Lib.hid ⟨.inr (by rw [Q1.out,Nat.add_sub_cancel];exact HD.out),HO.out.2.1,HO.out.2.2.1.of_heap rfl,HO.out.2.2.2.of_heap rfl rfl rfl rfl⟩⟩
  ·have hltz:¬ (i:Int) < (j:Int):=by omega
   obtain rfl:i = j:=by omega
   have hno:=hHN.out
   obtain ⟨e,he⟩:∃ e,e + i = n:=⟨n - i,by omega⟩
   have we:IntKind.i64.wrap ((n:Int) - (i:Int)) = (e:Int):=i64_sub he (by omega)
   have i1:a ≤ i:=by omega
   have i2:i ≤ m:=by omega
   have i3:m ≤ e:=by omega
   have i4:e ≤ b:=by omega
   have i5:mid = i + (e - m):=by omega
   have i6:i ≤ mid:=by omega
   have i7:mid ≤ e:=by omega
   have HM:Hid (∀ ys,Ix (rotI i m e) xs ys→SegOk c a i ys∧SegOk c i mid ys∧SegOk c mid e ys∧SegOk c e b ys∧Over c a mid b ys):=Lib.hid fun ys hr => by
    refine sym_split HC.out H1.out H2.out hb i1 i2 i3 i4 i5 ?_ ?_ hr
    ·have k1:=HO.out.1
     have k2:=HSB.out.n1
     rw [show n - i = e by omega] at k1
     rcases k1 with k1|k1
     ·subst k1
      rcases k2 with k2|k2
      ·exact .inl k2
      ·exact .inr (.inl (by omega))
     ·exact .inr (.inr k1)
    ·have k1:=HO.out.2.1
     have k2:=HSB.out.n2
     rw [show n - i - 1 = e - 1 by omega] at k1
     rcases k1 with k1|k1
     ·subst k1
      rcases k2 with k2|k2
      ·exact .inl k2
      ·exact .inr (.inl (by omega))
     ·exact .inr (.inr k1)
   have HW:Hid (Own (RS (RS RI)) lo hi wr [.slice oa xs.length cap] xs∧Chg lo hi w wr):=Lib.hid ⟨HO.out.2.2.1,HO.out.2.2.2⟩
   have HI5:=Lib.hid i5
   clear HO hno he i5
   go_upto_region 39 with fail
   go_cut [20,185] from 178 to 185 (fun s20 s185 wx => s20 = .int .i64 i∧s185 = .bool (decide (i < m∧m < e))∧Hid (Own (RS (RS RI)) lo hi wx [.slice oa xs.length cap] xs∧Chg lo hi w wx))
   case first =>
    by_cases d1:i < m
    ·by_cases d2:m < e
     ·have d3:decide (i < m∧m < e) = true:=decide_eq_true ⟨d1,d2⟩
      have D1:(i:Int) < (m:Int):=by omega
      have D2:(m:Int) < (e:Int):=by omega
      go_wp2_with fail
      go_meet
      exact ⟨rfl,by rw [d3],HW⟩
     ·have d3:decide (i < m∧m < e) = false:=decide_eq_false (fun h => d2 h.2)
      have D1:(i:Int) < (m:Int):=by omega
      have D2:¬ (m:Int) < (e:Int):=by omega
      try (have i5:=HI5.out;exfalso;omega)
      all_goals (
       go_wp2_with fail
       go_meet
       exact ⟨rfl,by rw [d3],HW⟩)
    ·have d3:decide (i < m∧m < e) = false:=decide_eq_false (fun h => d1 h.1)
     have D1:¬ (i:Int) < (m:Int):=by omega
     try (have i5:=HI5.out;exfalso;omega)
     all_goals (
      go_wp2_with fail
      go_meet
      exact ⟨rfl,by rw [d3],HW⟩)
   case rest =>
    obtain ⟨rfl,rfl,HW2⟩:=hcut
    clear HW
    go_upto_if 185 with fail
    go_cut [20] from 178 to 191 (fun s20 wx => s20 = .int .i64 i∧Hid (∃ ys,(PermIn a b xs ys∧Own (RS (RS RI)) lo hi wx [.slice oa xs.length cap] ys∧Chg lo hi w wx)∧SegOk c a i ys∧SegOk c i mid ys∧SegOk c mid e ys∧SegOk c e b ys∧Over c a mid b ys))
    case first =>
     by_cases hB:i < m∧m < e
     ·have d3:decide (i < m∧m < e) = true:=decide_eq_true hB
      have HR:=Lib.hid (c_rotate g i m e (.slice oa xs.length cap) xs lo hi wc HW2.out.1 (by omega) (by omega) (by omega) hsz)
      rw [d3]
      clear d3 hB
      go_wp2_with (go_at_call 215;refine HR.out.mono ?_;rintro e1 w1 ⟨rfl,ys,y1,y2,y3,y4⟩)
      go_meet
      exact ⟨rfl,Lib.hid ⟨ys,⟨y1.mono (by omega) (by omega),y3,HW2.out.2.trans y4⟩,HM.out ys y2⟩⟩
     ·have d3:decide (i < m∧m < e) = false:=decide_eq_false hB
      have HX:Hid (Ix (rotI i m e) xs xs):=Lib.hid (by
       by_cases h1:i < m
       ·rw [show e = m by omega];exact .refl (rotI_left i2)
       ·rw [show i = m by omega];exact .refl (rotI_right i3))
      rw [d3]
      clear d3 hB
      go_wp2_with fail
      go_meet
      exact ⟨rfl,Lib.hid ⟨xs,⟨PermIn.refl _ _ _,HW2.out.1,HW2.out.2⟩,HM.out xs HX.out⟩⟩
    case rest =>
     obtain ⟨rfl,HY⟩:=hcut
     clear HM HW2
     go_upto_region 41 with fail
     go_cut [20,199] from 192 to 199 (fun s20 s199 wx => s20 = .int .i64 i∧s199 = .bool (decide (a < i∧i < mid))∧Hid (∃ ys,(PermIn a b xs ys∧Own (RS (RS RI)) lo hi wx [.slice oa xs.length cap] ys∧Chg lo hi w wx)∧SegOk c a i ys∧SegOk c i mid ys∧SegOk c mid e ys∧SegOk c e b ys∧Over c a mid b ys))
     case first =>
      by_cases d1:a < i
      ·by_cases d2:i < mid
       ·have d3:decide (a < i∧i < mid) = true:=decide_eq_true ⟨d1,d2⟩
        have D1:(a:Int) < (i:Int):=by omega
        have D2:(i:Int) < (mid:Int):=by omega
        go_wp2_with fail
        go_meet
        exact ⟨rfl,by rw [d3],HY⟩
       ·have d3:decide (a < i∧i < mid) = false:=decide_eq_false (fun h => d2 h.2)
        have D1:(a:Int) < (i:Int):=by omega
        have D2:¬ (i:Int) < (mid:Int):=by omega
        try (have i5:=HI5.out;exfalso;omega)
        all_goals (
         go_wp2_with fail
         go_meet
         exact ⟨rfl,by rw [d3],HY⟩)
      ·have d3:decide (a < i∧i < mid) = false:=decide_eq_false (fun h => d1 h.1)
       have D1:¬ (a:Int) < (i:Int):=by omega
       try (have i5:=HI5.out;exfalso;omega)
       all_goals (
        go_wp2_with fail
        go_meet
        exact ⟨rfl,by rw [d3],HY⟩)
     case rest =>
      obtain ⟨rfl,rfl,HY2⟩:=hcut
      clear HY
      go_upto_if 199 with fail
      go_cut [20] from 192 to 205 (fun s20 wx => s20 = .int .i64 i∧Hid (∃ zs,(PermIn a b xs zs∧Own (RS (RS RI)) lo hi wx [.slice oa xs.length cap] zs∧Chg lo hi w wx)∧SegOk c a mid zs∧SegOk c mid e zs∧SegOk c e b zs∧Over c a mid b zs))
      case first =>
       obtain ⟨ys,HYs⟩:=HY2.out
       have HYZ:=Lib.hid HYs
       have hyl:ys.length = xs.length:=HYs.1.1.len
       clear HYs HY2
       by_cases hB:a < i∧i < mid
       ·have d3:decide (a < i∧i < mid) = true:=decide_eq_true hB
        have HR2:=Lib.hid (HIH.out a i mid (.slice oa xs.length cap) ys lo hi wc (by omega) HYZ.out.1.2.1 (fun z hz => HK.out z (HYZ.out.1.1.perm.mem_iff.1 hz)) HYZ.out.2.1 HYZ.out.2.2.1 (by omega) (by omega) (by omega) (by omega))
        rw [d3]
        clear d3 hB
        go_wp2_with (go_at_call 206;refine HR2.out.mono ?_;rintro e2 w2 ⟨rfl,zs,z1,z2,z3,z4⟩)
        go_meet
        exact ⟨rfl,Lib.hid ⟨zs,⟨HYZ.out.1.1.trans (z1.mono (Nat.le_refl _) (by omega)),z3,HYZ.out.1.2.2.trans z4⟩,z2,HYZ.out.2.2.2.1.perm z1 (.inr (Nat.le_refl _)),HYZ.out.2.2.2.2.1.perm z1 (.inr i7),HYZ.out.2.2.2.2.2.perm1 z1⟩⟩
       ·have d3:decide (a < i∧i < mid) = false:=decide_eq_false hB
        have HSa:Hid (SegOk c a mid ys):=Lib.hid (by
         by_cases h1:a < i
         ·have h:=HYZ.out.2.1;rw [show i = mid by omega] at h;exact h
         ·have h:=HYZ.out.2.2.1;rw [show i = a by omega] at h;exact h)
        rw [d3]
        clear d3 hB
        go_wp2_with fail
        go_meet
        exact ⟨rfl,Lib.hid ⟨ys,HYZ.out.1,HSa.out,HYZ.out.2.2.2⟩⟩
      case rest =>
       obtain ⟨rfl,HZ⟩:=hcut
       clear HY2
       go_upto_region 43 with fail
       go_cut [20,213] from 206 to 213 (fun s20 s213 wx => s20 = .int .i64 i∧s213 = .bool (decide (mid < e∧e < b))∧Hid (∃ zs,(PermIn a b xs zs∧Own (RS (RS RI)) lo hi wx [.slice oa xs.length cap] zs∧Chg lo hi w wx)∧SegOk c a mid zs∧SegOk c mid e zs∧SegOk c e b zs∧Over c a mid b zs))
       case first =>
        by_cases d1:mid < e
        ·by_cases d2:e < b
         ·have d3:decide (mid < e∧e < b) = true:=decide_eq_true ⟨d1,d2⟩
          have D1:(mid:Int) < (e:Int):=by omega
          have D2:(e:Int) < (b:Int):=by omega
          go_wp2_with fail
          go_meet
          exact ⟨rfl,by rw [d3],HZ⟩
         ·have d3:decide (mid < e∧e < b) = false:=decide_eq_false (fun h => d2 h.2)
          have D1:(mid:Int) < (e:Int):=by omega
          have D2:¬ (e:Int) < (b:Int):=by omega
          try (have i5:=HI5.out;exfalso;omega)
          all_goals (
           go_wp2_with fail
           go_meet
           exact ⟨rfl,by rw [d3],HZ⟩)
        ·have d3:decide (mid < e∧e < b) = false:=decide_eq_false (fun h => d1 h.1)
         have D1:¬ (mid:Int) < (e:Int):=by omega
         try (have i5:=HI5.out;exfalso;omega)
         all_goals (
          go_wp2_with fail
          go_meet
          exact ⟨rfl,by rw [d3],HZ⟩)
       case rest =>
        obtain ⟨rfl,rfl,HZ2⟩:=hcut
        clear HZ
        obtain ⟨zs,HZs⟩:=HZ2.out
        have HZZ:=Lib.hid HZs
        have hzl:zs.length = xs.length:=HZs.1.1.len
        clear HZs HZ2
        by_cases hB:mid < e∧e < b
        ·have d3:decide (mid < e∧e < b) = true:=decide_eq_true hB
         have HR3:=Lib.hid (HIH.out mid e b (.slice oa xs.length cap) zs lo hi wc (by omega) HZZ.out.1.2.1 (fun z hz => HK.out z (HZZ.out.1.1.perm.mem_iff.1 hz)) HZZ.out.2.2.1 HZZ.out.2.2.2.1 (by omega) (by omega) (by omega) (by omega))
         rw [d3]
         clear d3 hB
         go_wp2_with (go_at_call 206;refine HR3.out.mono ?_;rintro e3 w3 ⟨rfl,us,z1,z2,z3,z4⟩)
         go_end0
         exact ⟨rfl,us,HZZ.out.1.1.trans (z1.mono (by omega) (Nat.le_refl _)),(HZZ.out.2.2.2.2.perm2 z1).seg (HZZ.out.2.1.perm z1 (.inl (Nat.le_refl _))) z2,z3,HZZ.out.1.2.2.trans z4⟩
        ·have d3:decide (mid < e∧e < b) = false:=decide_eq_false hB
         have HSb:Hid (SegOk c mid b zs):=Lib.hid (by
          by_cases h1:mid < e
          ·have h:=HZZ.out.2.2.1;rw [show e = b by omega] at h;exact h
          ·have h:=HZZ.out.2.2.2.1;rw [show e = mid by omega] at h;exact h)
         rw [d3]
         clear d3 hB
         go_wp2_with fail
         go_end0
         exact ⟨rfl,zs,HZZ.out.1.1,HZZ.out.2.2.2.2.seg HZZ.out.2.1 HSb.out,HZZ.out.1.2.1,HZZ.out.1.2.2⟩
end Go.Proofs.Ytofpjonggpjneaa
namespace Go.Proofs.Ytofpjonggpjneaa
open Go.RowKit
theorem c_symMerge (g:Nat) (c:List Int→List Int→Int) (hc:Cmp c) (ok:List Int→Prop) (eg:∀ args w,(callFunc g args).run Try.prog w = .ok (.enter g args) w) (hcmp:CmpAsk Try.prog g c ok):∀ N,MrgIH N g c ok
 | 0 => fun _ _ _ _ _ _ _ _ h => absurd h (Nat.not_lt_zero _)
 | N + 1 => fun a m b v xs lo hi w hN ho hok h1 h2 ham hmb hb hsz => by
  by_cases e1:m = a + 1
  ·exact c_symMerge1 g c hc ok eg hcmp a m b v xs lo hi w ho hok h1 h2 ham hmb hb hsz e1
  by_cases e2:b = m + 1
  ·exact c_symMerge2 g c hc ok eg hcmp a m b v xs lo hi w ho hok h1 h2 ham hmb hb hsz e2 e1
  by_cases e3:(a + b) / 2 < m
  ·exact c_symMerge3a g c hc ok eg hcmp a m b v xs lo hi w ho hok h1 h2 ham hmb hb hsz N (by omega) (c_symMerge g c hc ok eg hcmp N) e1 e2 e3
  ·exact c_symMerge3b g c hc ok eg hcmp a m b v xs lo hi w ho hok h1 h2 ham hmb hb hsz N (by omega) (c_symMerge g c hc ok eg hcmp N) e1 e2 e3
end Go.Proofs.Ytofpjonggpjneaa
namespace Go.Proofs.Ytofpjonggpjneaa
open Go.RowKit
section
variable {α:Type} {c:α→α→Int} {xs ys zs:List α}
def Mul (s a:Nat):Prop:=∃ k,a = k * s
theorem Mul.zero (s:Nat):Mul s 0:=⟨0,by simp⟩
theorem Mul.add {s a:Nat} (h:Mul s a):Mul s (a + s):=by obtain ⟨k,rfl⟩:=h;exact ⟨k + 1,by rw [Nat.succ_mul]⟩
theorem Mul.half {s t a:Nat} (ht:t = 2 * s) (h:Mul t a):Mul s a:=by obtain ⟨k,rfl⟩:=h;exact ⟨k * 2,by rw [ht,Nat.mul_assoc]⟩
theorem Mul.gap {t x a:Nat} (h:Mul t x) (k:Mul t a) (hlt:x < a):x + t ≤ a:=by
 obtain ⟨i,rfl⟩:=h
 obtain ⟨j,rfl⟩:=k
 have hij:i < j:=Nat.lt_of_not_le fun h => by have:=Nat.mul_le_mul_right t h;omega
 have:=Nat.mul_le_mul_right t (show i + 1 ≤ j from hij)
 rw [Nat.succ_mul] at this
 exact this
def Blk (c:α→α→Int) (s n:Nat) (xs:List α):Prop:=∀ x,Mul s x→SegOk c x (min (x + s) n) xs
def InB (c:α→α→Int) (s a:Nat) (xs:List α):Prop:=∀ x,Mul s x→x < a→SegOk c x (x + s) xs
theorem InB.zero (s:Nat):InB c s 0 xs:=fun _ _ h => absurd h (Nat.not_lt_zero _)
theorem InB.step {s a:Nat} (h:InB c s a xs) (ha:Mul s a) (hp:PermIn a (a + s) xs ys) (hs:SegOk c a (a + s) ys):InB c s (a + s) ys:=by
 intro x hx hlt
 by_cases e:x < a
 ·exact (h x hx e).perm hp (.inl (hx.gap ha e))
 ·by_cases e2:x = a
  ·subst e2;exact hs
  ·have:=ha.gap hx (by omega);omega
theorem InB.last {s a n:Nat} (h:InB c s a xs) (ha:Mul s a) (han:a ≤ n) (hn:n < a + s) (hp:PermIn a n xs ys) (hs:SegOk c a n ys):Blk c s n ys:=by
 intro x hx
 by_cases e:x < a
 ·have:=hx.gap ha e
  rw [Nat.min_eq_left (by omega)]
  exact (h x hx e).perm hp (.inl this)
 ·by_cases e2:x = a
  ·subst e2;rw [Nat.min_eq_right (by omega)];exact hs
  ·have:=ha.gap hx (by omega)
   intro p q hp hq h1 h2 h3
   omega
def Ph (c:α→α→Int) (s t a n:Nat) (xs:List α):Prop:=InB c t a xs∧∀ x,Mul s x→a ≤ x→SegOk c x (min (x + s) n) xs
theorem Ph.start {s t n:Nat} (h:Blk c s n xs):Ph c s t 0 n xs:=⟨.zero t,fun x hx _ => h x hx⟩
theorem Ph.one {s t a n:Nat} (ht:t = 2 * s) (h:Ph c s t a n xs) (ha:Mul t a) (hm:a + s ≤ n):SegOk c a (a + s) xs:=by
 have:=h.2 a (ha.half ht) (Nat.le_refl _)
 rwa [Nat.min_eq_left hm] at this
theorem Ph.two {s t a n:Nat} (ht:t = 2 * s) (h:Ph c s t a n xs) (ha:Mul t a) (b:Nat) (hb:b ≤ n) (hb2:b ≤ a + s + s):SegOk c (a + s) b xs :=
 (h.2 (a + s) (ha.half ht).add (by omega)).sub (Nat.le_refl _) (by omega)
theorem Ph.step {s t a n:Nat} (h:Ph c s t a n xs) (ha:Mul t a) (hp:PermIn a (a + t) xs ys) (hs:SegOk c a (a + t) ys):Ph c s t (a + t) n ys :=
 ⟨h.1.step ha hp hs,fun x hx hle => (h.2 x hx (by omega)).perm hp (.inr hle)⟩
theorem Ph.last2 {s t a n:Nat} (h:Ph c s t a n xs) (ha:Mul t a) (han:a ≤ n) (hn:n < a + t) (hp:PermIn a n xs ys) (hs:SegOk c a n ys):Blk c t n ys:=h.1.last ha han hn hp hs
theorem Ph.last1 {s t a n:Nat} (ht:t = 2 * s) (h:Ph c s t a n xs) (ha:Mul t a) (han:a ≤ n) (hn:n < a + t) (hm:n ≤ a + s):Blk c t n xs :=
 h.1.last ha han hn (PermIn.refl _ _ _) (by have:=h.2 a (ha.half ht) (Nat.le_refl _);rwa [Nat.min_eq_right hm] at this)
end
set_option maxRecDepth 100000 in
set_option maxHeartbeats 16000000 in
theorem c_stableCmpB (g:Nat) (c:List Int→List Int→Int) (hc:Cmp c) (ok:List Int→Prop) (eg:∀ args w,(callFunc g args).run Try.prog w = .ok (.enter g args) w) (hcmp:CmpAsk Try.prog g c ok)
  (v:Value) (xs:List (List Int)) (n:Nat) (hn:n = xs.length) (lo hi:Nat) (w:World) (ho:Own (RS (RS RI)) lo hi w [v] xs) (hok:∀ x ∈ xs,ok x) (hsz:xs.length ≤ 1000000000) :
  Calls Try.prog 189 #[v,.int .i64 n,.func (.func g) #[] #[]] w (Sorts c v xs lo hi w):=by
 have HIS:Hid (∀ (a b:Nat) (ys:List (List Int)) (w:World),Own (RS (RS RI)) lo hi w [v] ys→(∀ x ∈ ys,ok x)→a ≤ b→b ≤ ys.length→ys.length ≤ 1000000000→Calls Try.prog 195 #[v,.int .i64 a,.int .i64 b,.func (.func g) #[] #[]] w fun e w' => e = .returned (.tuple #[])∧∃ zs,PermIn a b ys zs∧SegOk c a b zs∧Own (RS (RS RI)) lo hi w' [v] zs∧Chg lo hi w w') :=
  Lib.hid fun a b ys w h1 h2 h3 h4 h5 => c_insertionSort g c hc ok eg hcmp a b v ys lo hi w h1 h2 h3 h4 h5
 have HSM:=Lib.hid (c_symMerge g c hc ok eg hcmp)
 have HC:=Lib.hid hc
 have HK:=Lib.hid hok
 have S0:=Lib.hid ho
 have HN:=Lib.hid hn
 have hnz:n ≤ 1000000000:=by omega
 obtain ⟨oa,cap,rfl,hv1,hv2⟩:=ho.val
 obtain ⟨L,hL⟩:∃ L,L = xs.length:=⟨_,rfl⟩
 rw [← hL] at S0 HIS ⊢
 clear hcmp hok ho eg hc hn hv1 hv2 hsz hL
 go_enter Try.func189,Try.ntmps189
 go_wp2_with fail
 go_loopg [7,8] n (fun g1 va vb wr => ∃ (a b:Nat) (ys:List (List Int)),va = .int .i64 a∧vb = .int .i64 b∧a ≤ n∧n - a ≤ g1∧Hid (b = a + 20∧Mul 20 a∧PermIn 0 n xs ys∧InB c 20 a ys∧Own (RS (RS RI)) lo hi wr [.slice oa L cap] ys∧Chg lo hi w wr))
 case atStart => exact ⟨0,20,xs,rfl,rfl,Nat.zero_le _,by omega,Lib.hid ⟨rfl,.zero 20,PermIn.refl _ _ _,.zero 20,S0.out,Chg.refl _ _ _⟩⟩
 case round =>
  clear S0
  obtain ⟨a,b,ys,rfl,rfl,han,hg1,HO⟩:=hrel
  have hyl:ys.length = n:=by rw [HO.out.2.2.1.len];exact HN.out.symm
  have HYK:Hid (∀ x ∈ ys,ok x):=Lib.hid fun x hx => HK.out x (HO.out.2.2.1.perm.mem_iff.1 hx)
  by_cases hlt:b ≤ n
  ·have hltz:(b:Int) ≤ (n:Int):=by omega
   have hba:=HO.out.1
   obtain ⟨b2,hb2⟩:∃ b2,b2 = b + 20:=⟨_,rfl⟩
   have wb:IntKind.i64.wrap ((b:Int) + 20) = (b2:Int):=by rw [IntWalk.i64_in _ (by omega)];omega
   have HI:=Lib.hid (HIS.out a b ys wr HO.out.2.2.2.2.1 HYK.out (by omega) (by omega) (by omega))
   have hb3:=Lib.hid hb2
   clear hb2 hba
   go_wp2_with (go_at_call 195;refine HI.out.mono ?_;rintro e w' ⟨rfl,zs,z1,z2,z3,z4⟩)
   have HZ:Hid (b2 = b + 20∧Mul 20 b∧PermIn 0 n xs zs∧InB c 20 b zs∧Own (RS (RS RI)) lo hi w' [.slice oa L cap] zs∧Chg lo hi w w'):=Lib.hid (by
    have hba:=HO.out.1
    refine ⟨hb3.out,by rw [hba];exact HO.out.2.1.add,HO.out.2.2.1.trans (z1.mono (Nat.zero_le _) hlt),?_,z3,HO.out.2.2.2.2.2.trans z4⟩
    rw [hba]
    rw [hba] at z1 z2
    exact HO.out.2.2.2.1.step HO.out.2.1 z1 z2)
   have hba:=HO.out.1
   clear z1 z2 z3 z4 HI HO hb3 wb
   go_wp2_with fail
   go_roundg (n - b)
   case measure => omega
   case rel => exact ⟨b,b2,zs,rfl,rfl,hlt,Nat.le_refl _,HZ⟩
  ·have hltz:¬ (b:Int) ≤ (n:Int):=by omega
   have hba:=HO.out.1
   have HI:=Lib.hid (HIS.out a n ys wr HO.out.2.2.2.2.1 HYK.out han (by omega) (by omega))
   clear hba
   go_wp2_with (go_at_call 195;refine HI.out.mono ?_;rintro e w1 ⟨rfl,zs,z1,z2,z3,z4⟩)
   have HZ:Hid (PermIn 0 n xs zs∧Blk c 20 n zs∧Own (RS (RS RI)) lo hi w1 [.slice oa L cap] zs∧Chg lo hi w w1):=Lib.hid
    ⟨HO.out.2.2.1.trans (z1.mono (Nat.zero_le _) (Nat.le_refl _)),HO.out.2.2.2.1.last HO.out.2.1 han (by have:=HO.out.1;omega) z1 z2,z3,HO.out.2.2.2.2.2.trans z4⟩
   clear z1 z2 z3 z4 HI HO HYK hyl
   go_loopg [6] n (fun g2 vs wr => ∃ (s:Nat) (us:List (List Int)),vs = .int .i64 s∧20 ≤ s∧s ≤ 2 * n + 20∧n - s ≤ g2∧Hid (PermIn 0 n xs us∧Blk c s n us∧Own (RS (RS RI)) lo hi wr [.slice oa L cap] us∧Chg lo hi w wr))
   case atStart => exact ⟨20,zs,rfl,Nat.le_refl _,by omega,by omega,HZ⟩
   case round =>
    clear HZ
    obtain ⟨s,us,rfl,hs20,hs2,hg2,HU⟩:=hrel
    by_cases hsn:s < n
    ·have hsnz:(s:Int) < (n:Int):=by omega
     obtain ⟨t,ht⟩:∃ t,t = 2 * s:=⟨_,rfl⟩
     have wt:IntKind.i64.wrap (2 * (s:Int)) = (t:Int):=by rw [IntWalk.i64_in _ (by omega)];omega
     have wt2:IntKind.i64.wrap ((s:Int) * 2) = (t:Int):=by rw [IntWalk.i64_in _ (by omega)];omega
     have ht2:t ≤ 2 * n:=by omega
     have hst:s < t:=by omega
     have HT:=Lib.hid ht
     clear ht
     go_wp2_with fail
     go_loopg [7,8] n (fun g3 va vb wr => ∃ (a b:Nat) (ys:List (List Int)),va = .int .i64 a∧vb = .int .i64 b∧a ≤ n∧n - a ≤ g3∧Hid (b = a + t∧Mul t a∧PermIn 0 n xs ys∧Ph c s t a n ys∧Own (RS (RS RI)) lo hi wr [.slice oa L cap] ys∧Chg lo hi w wr))
     case atStart => exact ⟨0,t,us,rfl,by first|rfl|go_num,Nat.zero_le _,by omega,Lib.hid ⟨by omega,.zero t,HU.out.1,.start HU.out.2.1,HU.out.2.2.1,HU.out.2.2.2⟩⟩
     case round =>
      clear HU
      obtain ⟨a,b,ys,rfl,rfl,han,hg3,HO⟩:=hrel
      have hyl:ys.length = n:=by rw [HO.out.2.2.1.len];exact HN.out.symm
      have HYK:Hid (∀ x ∈ ys,ok x):=Lib.hid fun x hx => HK.out x (HO.out.2.2.1.perm.mem_iff.1 hx)
      obtain ⟨m,hm⟩:∃ m,a + s = m:=⟨_,rfl⟩
      have wm:IntKind.i64.wrap ((a:Int) + (s:Int)) = (m:Int):=i64_add hm (by omega)
      by_cases hlt:b ≤ n
      ·have hltz:(b:Int) ≤ (n:Int):=by omega
       have hba:=HO.out.1
       have hto:=HT.out
       obtain ⟨b2,hb2⟩:∃ b2,b + t = b2:=⟨_,rfl⟩
       have wb:IntKind.i64.wrap ((b:Int) + (t:Int)) = (b2:Int):=i64_add hb2 (by omega)
       have HI:=Lib.hid (HSM.out (b - a + 1) a m b (.slice oa L cap) ys lo hi wr (by omega) HO.out.2.2.2.2.1 HYK.out (by rw [← hm];exact HO.out.2.2.2.1.one hto HO.out.2.1 (by omega)) (by rw [← hm];exact HO.out.2.2.2.1.two hto HO.out.2.1 b hlt (by omega)) (by omega) (by omega) (by omega) (by omega))
       have hb3:=Lib.hid hb2
       clear hb2 hba hto hm
       go_wp2_with (go_at_call 206;refine HI.out.mono ?_;rintro e w' ⟨rfl,zs,z1,z2,z3,z4⟩)
       have HZ:Hid (b2 = b + t∧Mul t b∧PermIn 0 n xs zs∧Ph c s t b n zs∧Own (RS (RS RI)) lo hi w' [.slice oa L cap] zs∧Chg lo hi w w'):=Lib.hid (by
        have hba:=HO.out.1
        refine ⟨hb3.out.symm,by rw [hba];exact HO.out.2.1.add,HO.out.2.2.1.trans (z1.mono (Nat.zero_le _) hlt),?_,z3,HO.out.2.2.2.2.2.trans z4⟩
        rw [hba]
        rw [hba] at z1 z2
        exact HO.out.2.2.2.1.step HO.out.2.1 z1 z2)
       have hba:=HO.out.1
       clear z1 z2 z3 z4 HI HO hb3 wm
       go_wp2_with fail
       go_roundg (n - b)
       case measure => omega
       case rel => exact ⟨b,b2,zs,rfl,by first|rfl|go_num,hlt,Nat.le_refl _,HZ⟩
      ·have hltz:¬ (b:Int) ≤ (n:Int):=by omega
       by_cases hmn:m < n
       ·have hmnz:(m:Int) < (n:Int):=by omega
        have hba:=HO.out.1
        have hto:=HT.out
        have HI:=Lib.hid (HSM.out (n - a + 1) a m n (.slice oa L cap) ys lo hi wr (by omega) HO.out.2.2.2.2.1 HYK.out (by rw [← hm];exact HO.out.2.2.2.1.one hto HO.out.2.1 (by omega)) (by rw [← hm];exact HO.out.2.2.2.1.two hto HO.out.2.1 n (Nat.le_refl _) (by omega)) (by omega) (by omega) (by omega) (by omega))
        clear hba hto hm
        go_wp2_with (go_at_call 206;refine HI.out.mono ?_;rintro e w' ⟨rfl,zs,z1,z2,z3,z4⟩)
        have HZ:Hid (PermIn 0 n xs zs∧Blk c t n zs∧Own (RS (RS RI)) lo hi w' [.slice oa L cap] zs∧Chg lo hi w w'):=Lib.hid
         ⟨HO.out.2.2.1.trans (z1.mono (Nat.zero_le _) (Nat.le_refl _)),HO.out.2.2.2.1.last2 HO.out.2.1 han (by have:=HO.out.1;omega) z1 z2,z3,HO.out.2.2.2.2.2.trans z4⟩
        clear z1 z2 z3 z4 HI HO wm
        go_wp2_with fail
        go_roundg (n - t)
        case measure => omega
        case rel => exact ⟨t,zs,by first|rfl|go_num,by omega,by omega,Nat.le_refl _,HZ⟩
       ·have hmnz:¬ (m:Int) < (n:Int):=by omega
        have HZ:Hid (PermIn 0 n xs ys∧Blk c t n ys∧Own (RS (RS RI)) lo hi wr [.slice oa L cap] ys∧Chg lo hi w wr):=Lib.hid
         ⟨HO.out.2.2.1,HO.out.2.2.2.1.last1 HT.out HO.out.2.1 han (by have:=HO.out.1;omega) (by omega),HO.out.2.2.2.2.1,HO.out.2.2.2.2.2⟩
        clear HO hm
        go_wp2_with fail
        go_roundg (n - t)
        case measure => omega
        case rel => exact ⟨t,ys,by first|rfl|go_num,by omega,by omega,Nat.le_refl _,HZ⟩
    ·have hsnz:¬ (s:Int) < (n:Int):=by omega
     go_wp2_with fail
     go_end0
     refine ⟨rfl,?_,HU.out.2.2.2⟩
     have hseg:SegOk c 0 n us:=by
      have:=HU.out.2.1 0 (.zero s)
      rwa [Nat.min_eq_right (by omega)] at this
     have hul:us.length = n:=by rw [HU.out.1.len];exact HN.out.symm
     rw [← sortC_unique HC.out HU.out.1.perm (hseg.pairwise (by omega))]
     exact HU.out.2.2.1
set_option maxRecDepth 100000 in
set_option maxHeartbeats 1000000 in
theorem c_SortStableB (g:Nat) (c:List Int→List Int→Int) (hc:Cmp c) (ok:List Int→Prop) (eg:∀ args w,(callFunc g args).run Try.prog w = .ok (.enter g args) w) (hcmp:CmpAsk Try.prog g c ok)
  (v:Value) (xs:List (List Int)) (lo hi:Nat) (w:World) (ho:Own (RS (RS RI)) lo hi w [v] xs) (hok:∀ x ∈ xs,ok x) (hsz:xs.length ≤ 1000000000) :
  Calls Try.prog 173 #[v,.func (.func g) #[] #[]] w (Sorts c v xs lo hi w):=by
 have hp:=c_stableCmpB g c hc ok eg hcmp v xs xs.length rfl lo hi w ho hok hsz
 obtain ⟨oa,cap,rfl,hv1,hv2⟩:=ho.val
 clear hcmp hok ho eg hc
 go_enter Try.func173,Try.ntmps173
 go_wp2_with (go_at_call 189;refine hp.mono ?_;rintro e w' ⟨rfl,h1,h2⟩)
 go_end0
 exact ⟨rfl,h1,h2⟩
end Go.Proofs.Ytofpjonggpjneaa
namespace Go.Proofs.Ytofpjonggpjneaa
open Go.RowKit
def RetOC {α:Type} (R:Rep α) (w:World) (x:α) (code:Int):Ending→World→Prop :=
 fun e w' => ∃ u,e = .returned (.tuple #[u,.int .i64 code])∧Own R w.heap.size w'.heap.size w' [u] x∧Below w.heap.size w w'
end Go.Proofs.Ytofpjonggpjneaa
namespace Go.Proofs.Ytofpjonggpjneaa
open Go.RowKit
theorem Rd.two {α:Type} {R:Rep α} {w W:World} {u1 u2:Value} {x y:List α} {E:TypeId} (h1:Rd (RS R) w [u1] x) (h2:Rd (RS R) w [u2] y) (e:W.heap = (w.alloc (.cells #[u1,u2] E)).heap) :
  Rd (RS (RS R)) W [.slice (some ⟨w.heap.size,0,none⟩) 2 2] [x,y]:=by
 refine Rd.of_heap (w:=w.alloc (.cells #[u1,u2] E)) ?_ e
 have hb:Below w.heap.size w (w.alloc (.cells #[u1,u2] E)):=(Below.refl _ _).alloc (Nat.le_refl _) _
 refine ⟨some ⟨w.heap.size,0,none⟩,2,[u1,u2],rfl,Nat.le_refl _,by decide,by simp,⟨[u1],[u2],rfl,h1.below hb (Nat.le_refl _),⟨[u2],[],rfl,h2.below hb (Nat.le_refl _),rfl⟩⟩,.inr ⟨w.heap.size,0,rfl,by simp,fun j u hj => ?_⟩⟩
 rw [Nat.zero_add,World.cell?_alloc_at _ _ _ _ rfl]
 simpa using hj
end Go.Proofs.Ytofpjonggpjneaa

/- Lemmas (23). -/
import Derived.BigQuiet
import Derived.Test.YtofpjonggpjneaaZG0
import Derived.Test.YtofpjonggpjneaaZG1
import Derived.Test.YtofpjonggpjneaaZG2
import Derived.Test.YtofpjonggpjneaaZG3
import Derived.Test.YtofpjonggpjneaaZG4
import Derived.Test.YtofpjonggpjneaaZG16
import Derived.Test.YtofpjonggpjneaaZG17
import Derived.Test.YtofpjonggpjneaaZG21
import Derived.Test.YtofpjonggpjneaaZG22
set_option linter.unusedSimpArgs false
set_option linter.unusedVariables false
namespace Go.Proofs.Ytofpjonggpjneaa
open Go.RowKit
theorem c_symMerge (g:Nat) (c:List Int→List Int→Int) (hc:Cmp c) (ok:List Int→Prop) (eg:∀ args w,(callFunc g args).run Try.prog w = .ok (.enter g args) w) (hcmp:CmpAsk Try.prog g c ok):∀ N,MrgIH N g c ok
 | 0 => fun _ _ _ _ _ _ _ _ h => absurd h (Nat.not_lt_zero _)
 | N + 1 => fun a m b v xs lo hi w hN ho hok h1 h2 ham hmb hb hsz => by
  by_cases e1:m = a + 1
  ·exact c_symMerge1 g c hc ok eg hcmp a m b v xs lo hi w ho hok h1 h2 ham hmb hb hsz e1
  by_cases e2:b = m + 1
  ·exact c_symMerge2 g c hc ok eg hcmp a m b v xs lo hi w ho hok h1 h2 ham hmb hb hsz e2 e1
  by_cases e3:(a + b) / 2 < m
  ·exact c_symMerge3a g c hc ok eg hcmp a m b v xs lo hi w ho hok h1 h2 ham hmb hb hsz N (by omega) (c_symMerge g c hc ok eg hcmp N) e1 e2 e3
  ·exact c_symMerge3b g c hc ok eg hcmp a m b v xs lo hi w ho hok h1 h2 ham hmb hb hsz N (by omega) (c_symMerge g c hc ok eg hcmp N) e1 e2 e3
end Go.Proofs.Ytofpjonggpjneaa
namespace Go.Proofs.Ytofpjonggpjneaa
open Go.RowKit
section
variable {α:Type} {c:α→α→Int} {xs ys zs:List α}
def Mul (s a:Nat):Prop:=∃ k,a = k * s
theorem Mul.zero (s:Nat):Mul s 0:=⟨0,by simp⟩
theorem Mul.add {s a:Nat} (h:Mul s a):Mul s (a + s):=by obtain ⟨k,rfl⟩:=h;exact ⟨k + 1,by rw [Nat.succ_mul]⟩
theorem Mul.half {s t a:Nat} (ht:t = 2 * s) (h:Mul t a):Mul s a:=by obtain ⟨k,rfl⟩:=h;exact ⟨k * 2,by rw [ht,Nat.mul_assoc]⟩
theorem Mul.gap {t x a:Nat} (h:Mul t x) (k:Mul t a) (hlt:x < a):x + t ≤ a:=by
 obtain ⟨i,rfl⟩:=h
 obtain ⟨j,rfl⟩:=k
 have hij:i < j:=Nat.lt_of_not_le fun h => by have:=Nat.mul_le_mul_right t h;omega
 have:=Nat.mul_le_mul_right t (show i + 1 ≤ j from hij)
 rw [Nat.succ_mul] at this
 exact this
def Blk (c:α→α→Int) (s n:Nat) (xs:List α):Prop:=∀ x,Mul s x→SegOk c x (min (x + s) n) xs
def InB (c:α→α→Int) (s a:Nat) (xs:List α):Prop:=∀ x,Mul s x→x < a→SegOk c x (x + s) xs
theorem InB.zero (s:Nat):InB c s 0 xs:=fun _ _ h => absurd h (Nat.not_lt_zero _)
theorem InB.step {s a:Nat} (h:InB c s a xs) (ha:Mul s a) (hp:PermIn a (a + s) xs ys) (hs:SegOk c a (a + s) ys):InB c s (a + s) ys:=by
 intro x hx hlt
 by_cases e:x < a
 ·exact (h x hx e).perm hp (.inl (hx.gap ha e))
 ·by_cases e2:x = a
  ·subst e2;exact hs
  ·have:=ha.gap hx (by omega);omega
theorem InB.last {s a n:Nat} (h:InB c s a xs) (ha:Mul s a) (han:a ≤ n) (hn:n < a + s) (hp:PermIn a n xs ys) (hs:SegOk c a n ys):Blk c s n ys:=by
 intro x hx
 by_cases e:x < a
 ·have:=hx.gap ha e
  rw [Nat.min_eq_left (by omega)]
  exact (h x hx e).perm hp (.inl this)
 ·by_cases e2:x = a
  ·subst e2;rw [Nat.min_eq_right (by omega)];exact hs
  ·have:=ha.gap hx (by omega)
   intro p q hp hq h1 h2 h3
   omega
def Ph (c:α→α→Int) (s t a n:Nat) (xs:List α):Prop:=InB c t a xs∧∀ x,Mul s x→a ≤ x→SegOk c x (min (x + s) n) xs
theorem Ph.start {s t n:Nat} (h:Blk c s n xs):Ph c s t 0 n xs:=⟨.zero t,fun x hx _ => h x hx⟩
theorem Ph.one {s t a n:Nat} (ht:t = 2 * s) (h:Ph c s t a n xs) (ha:Mul t a) (hm:a + s ≤ n):SegOk c a (a + s) xs:=by
 have:=h.2 a (ha.half ht) (Nat.le_refl _)
 rwa [Nat.min_eq_left hm] at this
theorem Ph.two {s t a n:Nat} (ht:t = 2 * s) (h:Ph c s t a n xs) (ha:Mul t a) (b:Nat) (hb:b ≤ n) (hb2:b ≤ a + s + s):SegOk c (a + s) b xs :=
 (h.2 (a + s) (ha.half ht).add (by omega)).sub (Nat.le_refl _) (by omega)
theorem Ph.step {s t a n:Nat} (h:Ph c s t a n xs) (ha:Mul t a) (hp:PermIn a (a + t) xs ys) (hs:SegOk c a (a + t) ys):Ph c s t (a + t) n ys :=
 ⟨h.1.step ha hp hs,fun x hx hle => (h.2 x hx (by omega)).perm hp (.inr hle)⟩
theorem Ph.last2 {s t a n:Nat} (h:Ph c s t a n xs) (ha:Mul t a) (han:a ≤ n) (hn:n < a + t) (hp:PermIn a n xs ys) (hs:SegOk c a n ys):Blk c t n ys:=h.1.last ha han hn hp hs
theorem Ph.last1 {s t a n:Nat} (ht:t = 2 * s) (h:Ph c s t a n xs) (ha:Mul t a) (han:a ≤ n) (hn:n < a + t) (hm:n ≤ a + s):Blk c t n xs :=
 h.1.last ha han hn (PermIn.refl _ _ _) (by have:=h.2 a (ha.half ht) (Nat.le_refl _);rwa [Nat.min_eq_right hm] at this)
end
set_option maxRecDepth 100000 in
set_option maxHeartbeats 16000000 in
theorem c_stableCmpB (g:Nat) (c:List Int→List Int→Int) (hc:Cmp c) (ok:List Int→Prop) (eg:∀ args w,(callFunc g args).run Try.prog w = .ok (.enter g args) w) (hcmp:CmpAsk Try.prog g c ok)
  (v:Value) (xs:List (List Int)) (n:Nat) (hn:n = xs.length) (lo hi:Nat) (w:World) (ho:Own (RS (RS RI)) lo hi w [v] xs) (hok:∀ x ∈ xs,ok x) (hsz:xs.length ≤ 1000000000) :
  Calls Try.prog 189 #[v,.int .i64 n,.func (.func g) #[] #[]] w (Sorts c v xs lo hi w):=by
 have HIS:Hid (∀ (a b:Nat) (ys:List (List Int)) (w:World),Own (RS (RS RI)) lo hi w [v] ys→(∀ x ∈ ys,ok x)→a ≤ b→b ≤ ys.length→ys.length ≤ 1000000000→Calls Try.prog 195 #[v,.int .i64 a,.int .i64 b,.func (.func g) #[] #[]] w fun e w' => e = .returned (.tuple #[])∧∃ zs,PermIn a b ys zs∧SegOk c a b zs∧Own (RS (RS RI)) lo hi w' [v] zs∧Chg lo hi w w') :=
  Lib.hid fun a b ys w h1 h2 h3 h4 h5 => c_insertionSort g c hc ok eg hcmp a b v ys lo hi w h1 h2 h3 h4 h5
 have HSM:=Lib.hid (c_symMerge g c hc ok eg hcmp)
 have HC:=Lib.hid hc
 have HK:=Lib.hid hok
 have S0:=Lib.hid ho
 have HN:=Lib.hid hn
 have hnz:n ≤ 1000000000:=by omega
 obtain ⟨oa,cap,rfl,hv1,hv2⟩:=ho.val
 obtain ⟨L,hL⟩:∃ L,L = xs.length:=⟨_,rfl⟩
 rw [← hL] at S0 HIS ⊢
 clear hcmp hok ho eg hc hn hv1 hv2 hsz hL
 go_enter Try.func189,Try.ntmps189
 go_wp2_with fail
 go_loopg [7,8] n (fun g1 va vb wr => ∃ (a b:Nat) (ys:List (List Int)),va = .int .i64 a∧vb = .int .i64 b∧a ≤ n∧n - a ≤ g1∧Hid (b = a + 20∧Mul 20 a∧PermIn 0 n xs ys∧InB c 20 a ys∧Own (RS (RS RI)) lo hi wr [.slice oa L cap] ys∧Chg lo hi w wr))
 case atStart => exact ⟨0,20,xs,rfl,rfl,Nat.zero_le _,by omega,Lib.hid ⟨rfl,.zero 20,PermIn.refl _ _ _,.zero 20,S0.out,Chg.refl _ _ _⟩⟩
 case round =>
  clear S0
  obtain ⟨a,b,ys,rfl,rfl,han,hg1,HO⟩:=hrel
  have hyl:ys.length = n:=by rw [HO.out.2.2.1.len];exact HN.out.symm
  have HYK:Hid (∀ x ∈ ys,ok x):=Lib.hid fun x hx => HK.out x (HO.out.2.2.1.perm.mem_iff.1 hx)
  by_cases hlt:b ≤ n
  ·have hltz:(b:Int) ≤ (n:Int):=by omega
   have hba:=HO.out.1
   obtain ⟨b2,hb2⟩:∃ b2,b2 = b + 20:=⟨_,rfl⟩
   have wb:IntKind.i64.wrap ((b:Int) + 20) = (b2:Int):=by rw [IntWalk.i64_in _ (by omega)];omega
   have HI:=Lib.hid (HIS.out a b ys wr HO.out.2.2.2.2.1 HYK.out (by omega) (by omega) (by omega))
   have hb3:=Lib.hid hb2
   clear hb2 hba
   go_wp2_with (go_at_call 195;refine HI.out.mono ?_;rintro e w' ⟨rfl,zs,z1,z2,z3,z4⟩)
   have HZ:Hid (b2 = b + 20∧Mul 20 b∧PermIn 0 n xs zs∧InB c 20 b zs∧Own (RS (RS RI)) lo hi w' [.slice oa L cap] zs∧Chg lo hi w w'):=Lib.hid (by
    have hba:=HO.out.1
    refine ⟨hb3.out,by rw [hba];exact HO.out.2.1.add,HO.out.2.2.1.trans (z1.mono (Nat.zero_le _) hlt),?_,z3,HO.out.2.2.2.2.2.trans z4⟩
    rw [hba]
    rw [hba] at z1 z2
    exact HO.out.2.2.2.1.step HO.out.2.1 z1 z2)
   have hba:=HO.out.1
   clear z1 z2 z3 z4 HI HO hb3 wb
   go_wp2_with fail
   go_roundg (n - b)
   case measure => omega
   case rel => exact ⟨b,b2,zs,rfl,rfl,hlt,Nat.le_refl _,HZ⟩
  ·have hltz:¬ (b:Int) ≤ (n:Int):=by omega
   have hba:=HO.out.1
   have HI:=Lib.hid (HIS.out a n ys wr HO.out.2.2.2.2.1 HYK.out han (by omega) (by omega))
   clear hba
   go_wp2_with (go_at_call 195;refine HI.out.mono ?_;rintro e w1 ⟨rfl,zs,z1,z2,z3,z4⟩)
   have HZ:Hid (PermIn 0 n xs zs∧Blk c 20 n zs∧Own (RS (RS RI)) lo hi w1 [.slice oa L cap] zs∧Chg lo hi w w1):=Lib.hid
    ⟨HO.out.2.2.1.trans (z1.mono (Nat.zero_le _) (Nat.le_refl _)),HO.out.2.2.2.1.last HO.out.2.1 han (by have:=HO.out.1;omega) z1 z2,z3,HO.out.2.2.2.2.2.trans z4⟩
   clear z1 z2 z3 z4 HI HO HYK hyl
   go_loopg [6] n (fun g2 vs wr => ∃ (s:Nat) (us:List (List Int)),vs = .int .i64 s∧20 ≤ s∧s ≤ 2 * n + 20∧n - s ≤ g2∧Hid (PermIn 0 n xs us∧Blk c s n us∧Own (RS (RS RI)) lo hi wr [.slice oa L cap] us∧Chg lo hi w wr))
   case atStart => exact ⟨20,zs,rfl,Nat.le_refl _,by omega,by omega,HZ⟩
   case round =>
    clear HZ
    obtain ⟨s,us,rfl,hs20,hs2,hg2,HU⟩:=hrel
    by_cases hsn:s < n
    ·have hsnz:(s:Int) < (n:Int):=by omega
     obtain ⟨t,ht⟩:∃ t,t = 2 * s:=⟨_,rfl⟩
     have wt:IntKind.i64.wrap (2 * (s:Int)) = (t:Int):=by rw [IntWalk.i64_in _ (by omega)];omega
     have wt2:IntKind.i64.wrap ((s:Int) * 2) = (t:Int):=by rw [IntWalk.i64_in _ (by omega)];omega
     have ht2:t ≤ 2 * n:=by omega
     have hst:s < t:=by omega
     have HT:=Lib.hid ht
     clear ht
     go_wp2_with fail
     go_loopg [7,8] n (fun g3 va vb wr => ∃ (a b:Nat) (ys:List (List Int)),va = .int .i64 a∧vb = .int .i64 b∧a ≤ n∧n - a ≤ g3∧Hid (b = a + t∧Mul t a∧PermIn 0 n xs ys∧Ph c s t a n ys∧Own (RS (RS RI)) lo hi wr [.slice oa L cap] ys∧Chg lo hi w wr))
     case atStart => exact ⟨0,t,us,rfl,by first|rfl|go_num,Nat.zero_le _,by omega,Lib.hid ⟨by omega,.zero t,HU.out.1,.start HU.out.2.1,HU.out.2.2.1,HU.out.2.2.2⟩⟩
     case round =>
      clear HU
      obtain ⟨a,b,ys,rfl,rfl,han,hg3,HO⟩:=hrel
      have hyl:ys.length = n:=by rw [HO.out.2.2.1.len];exact HN.out.symm
      have HYK:Hid (∀ x ∈ ys,ok x):=Lib.hid fun x hx => HK.out x (HO.out.2.2.1.perm.mem_iff.1 hx)
      obtain ⟨m,hm⟩:∃ m,a + s = m:=⟨_,rfl⟩
      have wm:IntKind.i64.wrap ((a:Int) + (s:Int)) = (m:Int):=i64_add hm (by omega)
      by_cases hlt:b ≤ n
      ·have hltz:(b:Int) ≤ (n:Int):=by omega
       have hba:=HO.out.1
       have hto:=HT.out
       obtain ⟨b2,hb2⟩:∃ b2,b + t = b2:=⟨_,rfl⟩
       have wb:IntKind.i64.wrap ((b:Int) + (t:Int)) = (b2:Int):=i64_add hb2 (by omega)
       have HI:=Lib.hid (HSM.out (b - a + 1) a m b (.slice oa L cap) ys lo hi wr (by omega) HO.out.2.2.2.2.1 HYK.out (by rw [← hm];exact HO.out.2.2.2.1.one hto HO.out.2.1 (by omega)) (by rw [← hm];exact HO.out.2.2.2.1.two hto HO.out.2.1 b hlt (by omega)) (by omega) (by omega) (by omega) (by omega))
       have hb3:=Lib.hid hb2
       clear hb2 hba hto hm
       go_wp2_with (go_at_call 206;refine HI.out.mono ?_;rintro e w' ⟨rfl,zs,z1,z2,z3,z4⟩)
       have HZ:Hid (b2 = b + t∧Mul t b∧PermIn 0 n xs zs∧Ph c s t b n zs∧Own (RS (RS RI)) lo hi w' [.slice oa L cap] zs∧Chg lo hi w w'):=Lib.hid (by
        have hba:=HO.out.1
        refine ⟨hb3.out.symm,by rw [hba];exact HO.out.2.1.add,HO.out.2.2.1.trans (z1.mono (Nat.zero_le _) hlt),?_,z3,HO.out.2.2.2.2.2.trans z4⟩
        rw [hba]
        rw [hba] at z1 z2
        exact HO.out.2.2.2.1.step HO.out.2.1 z1 z2)
       have hba:=HO.out.1
       clear z1 z2 z3 z4 HI HO hb3 wm
       go_wp2_with fail
       go_roundg (n - b)
       case measure => omega
       case rel => exact ⟨b,b2,zs,rfl,by first|rfl|go_num,hlt,Nat.le_refl _,HZ⟩
      ·have hltz:¬ (b:Int) ≤ (n:Int):=by omega
       by_cases hmn:m < n
       ·have hmnz:(m:Int) < (n:Int):=by omega
        have hba:=HO.out.1
        have hto:=HT.out
        have HI:=Lib.hid (HSM.out (n - a + 1) a m n (.slice oa L cap) ys lo hi wr (by omega) HO.out.2.2.2.2.1 HYK.out (by rw [← hm];exact HO.out.2.2.2.1.one hto HO.out.2.1 (by omega)) (by rw [← hm];exact HO.out.2.2.2.1.two hto HO.out.2.1 n (Nat.le_refl _) (by omega)) (by omega) (by omega) (by omega) (by omega))
        clear hba hto hm
        go_wp2_with (go_at_call 206;refine HI.out.mono ?_;rintro e w' ⟨rfl,zs,z1,z2,z3,z4⟩)
        have HZ:Hid (PermIn 0 n xs zs∧Blk c t n zs∧Own (RS (RS RI)) lo hi w' [.slice oa L cap] zs∧Chg lo hi w w'):=Lib.hid
         ⟨HO.out.2.2.1.trans (z1.mono (Nat.zero_le _) (Nat.le_refl _)),HO.out.2.2.2.1.last2 HO.out.2.1 han (by have:=HO.out.1;omega) z1 z2,z3,HO.out.2.2.2.2.2.trans z4⟩
        clear z1 z2 z3 z4 HI HO wm
        go_wp2_with fail
        go_roundg (n - t)
        case measure => omega
        case rel => exact ⟨t,zs,by first|rfl|go_num,by omega,by omega,Nat.le_refl _,HZ⟩
       ·have hmnz:¬ (m:Int) < (n:Int):=by omega
        have HZ:Hid (PermIn 0 n xs ys∧Blk c t n ys∧Own (RS (RS RI)) lo hi wr [.slice oa L cap] ys∧Chg lo hi w wr):=Lib.hid
         ⟨HO.out.2.2.1,HO.out.2.2.2.1.last1 HT.out HO.out.2.1 han (by have:=HO.out.1;omega) (by omega),HO.out.2.2.2.2.1,HO.out.2.2.2.2.2⟩
        clear HO hm
        go_wp2_with fail
        go_roundg (n - t)
        case measure => omega
        case rel => exact ⟨t,ys,by first|rfl|go_num,by omega,by omega,Nat.le_refl _,HZ⟩
    ·have hsnz:¬ (s:Int) < (n:Int):=by omega
     go_wp2_with fail
     go_end0
     refine ⟨rfl,?_,HU.out.2.2.2⟩
     have hseg:SegOk c 0 n us:=by
      have:=HU.out.2.1 0 (.zero s)
      rwa [Nat.min_eq_right (by omega)] at this
     have hul:us.length = n:=by rw [HU.out.1.len];exact HN.out.symm
     rw [← sortC_unique HC.out HU.out.1.perm (hseg.pairwise (by omega))]
     exact HU.out.2.2.1
set_option maxRecDepth 100000 in
set_option maxHeartbeats 1000000 in
theorem c_SortStableB (g:Nat) (c:List Int→List Int→Int) (hc:Cmp c) (ok:List Int→Prop) (eg:∀ args w,(callFunc g args).run Try.prog w = .ok (.enter g args) w) (hcmp:CmpAsk Try.prog g c ok)
  (v:Value) (xs:List (List Int)) (lo hi:Nat) (w:World) (ho:Own (RS (RS RI)) lo hi w [v] xs) (hok:∀ x ∈ xs,ok x) (hsz:xs.length ≤ 1000000000) :
  Calls Try.prog 173 #[v,.func (.func g) #[] #[]] w (Sorts c v xs lo hi w):=by
 have hp:=c_stableCmpB g c hc ok eg hcmp v xs xs.length rfl lo hi w ho hok hsz
 obtain ⟨oa,cap,rfl,hv1,hv2⟩:=ho.val
 clear hcmp hok ho eg hc
 go_enter Try.func173,Try.ntmps173
 go_wp2_with (go_at_call 189;refine hp.mono ?_;rintro e w' ⟨rfl,h1,h2⟩)
 go_end0
 exact ⟨rfl,h1,h2⟩
end Go.Proofs.Ytofpjonggpjneaa
namespace Go.Proofs.Ytofpjonggpjneaa
open Go.RowKit
set_option maxRecDepth 100000 in
set_option maxHeartbeats 1000000 in
theorem c_impl_forestOfB (v:Value) (bs:List (List Int)) (w:World) (h:Rd (RS (RS RI)) w [v] bs) (hsz:bs.length ≤ 1000000000) (hsl:∀ b ∈ bs,b.length ≤ 1000000000) :
  Calls Try.prog 126 #[v] w (RetO (RS (RS RI)) w (forest bs)):=by
 have hc:=c_impl_cloneRows v bs w h (by omega) hsl
 have EG:=Lib.hid (enters (P:=Try.prog) (f:=107) Try.func107 (by kernel_rfl) rfl)
 have HA:Hid (CmpAsk Try.prog 107 cmpT (fun _ => True)):=Lib.hid (fun w h1 h2 x y r1 r2 _ _ => c_impl_compareTrees h1 h2 x y w r1 r2)
 clear h hsl
 go_enter Try.func126,Try.ntmps126
 go_wp2_with (go_at_call 172;refine hc.mono ?_;rintro e w1 ⟨u,rfl,o1,b1⟩;obtain ⟨ou,cu,rfl,lu1,lu2⟩:=o1.val)
 have hs:=c_SortStableB 107 cmpT cmpT_cmp (fun _ => True) EG.out HA.out _ bs w.heap.size w1.heap.size w1 o1 (fun _ _ => trivial) (by omega)
 have hb1:=b1.size
 clear o1 hc
 go_wp2_with (go_at_call 173;refine hs.mono ?_;rintro e w3 ⟨rfl,o3,ch3⟩)
 go_ret
 have hb3:Below w.heap.size w w3:=b1.trans (ch3.below (Nat.le_refl _) hb1)
 exact ⟨_,rfl,o3.mono (Nat.le_refl _) ch3.size,hb3⟩
theorem a_forestOfB (f:List (List Int)) (hl:f.length ≤ 1000000000) (hs:sumLen f ≤ 1000000000):AFn Try.prog 126 [eLL f] (· = [.own 1 ((forest f).map eL) true]) :=
 afn_LLL_oo (enters_of Try.func126 rfl rfl) (fun u w h => c_impl_forestOfB u f w h hl (fun b hb => Nat.le_trans (sumLen_mem hb) hs))
set_option maxHeartbeats 4000000 in
theorem a_countedB (ts:List (List Int)) (hl:ts.length ≤ 100000) (hs:sumLen ts ≤ 1000000):AFn Try.prog 114 [eLL ts] (· = [.own 2 ((cntOf ts).map eCt) true]):=by
 have hfo:=a_forestOfB ts (by omega) (by omega)
 refine AFn.of_runs (cfg_ok 45) Try.func114 rfl rfl rfl (by simp only [List.length_cons,List.length_nil];decide) ?_
 have hres:Try.f114.results.toList = [.tmp 2]:=rfl
 have hrts:Try.f114.resultTypes.toList = [40]:=rfl
 simp only [argRegs,argAV1,eL,eI,eLL,eB,Nat.zero_add,Nat.reduceAdd]
 intro M
 refine RunK.of ?_
 repeat' (first|with_reducible (first|refine Q1 ?_|refine Q2 ?_|refine Q3 ?_|refine Q4 ?_|refine Q5 ?_|refine Q6 ?_|refine Q7 ?_|refine Q8 ?_|refine Q9 ?_|refine Qa ?_|refine Qb ?_|refine Qc ?_|refine Qd ?_|refine Qe ?_|refine Qf ?_)|((with_reducible refine Qo ?_ ?_);focus rfl)|((with_reducible first|refine QT 12 (l:=?_) ?_ ?_|refine QF 12 (l:=?_) ?_ ?_);rotate_left 1;focus (simp only [Zu,Nat.reduceSub,Nat.reduceBEq];with_reducible rfl))|((with_reducible first|refine QS (cfg_ok 45) Tab.none (s':=?_) ?_ ?_|refine QC (b:=?_) ?_ ?_);rotate_left 1;focus ((with_reducible refine QW ?_);simp only [Zg,seval,if_true,if_false,reduceCtorEq,Nat.reduceEqDiff];with_reducible rfl)))
 refine RunK.regTag (cfg_ok 45) (Tab.none.at' 126 hfo) 2 9 (k:=1) (xs:=(forest ts).map eL) (s1:=?_) ?_ ?_ ?_
 rotate_left 1
 focus (simp only [Zg,seval,if_true,if_false,reduceCtorEq,Nat.reduceEqDiff,eL,eLL];with_reducible rfl)
 focus rfl
 intro xs' F ht hnd hF
 obtain ⟨ps,e1,e2,e3⟩:=tag_rows ht
 subst e2
 have hpl:ps.length = ts.length:=by
  have:=congrArg List.length e1
  rw [List.length_map] at this
  rw [← this]
  exact (show (sortC cmpT ts).Perm ts from sortC_perm ts).length_eq
 refine ROps.opsT (cfg_ok 45) (T:=Tab.none) (s':=?_) ?_ ?_
 rotate_left 1
 focus (simp only [Zg,seval,if_true,if_false,reduceCtorEq,Nat.reduceEqDiff,List.length_map];with_reducible rfl)
 repeat' (first|with_reducible (first|refine Q1 ?_|refine Q2 ?_|refine Q3 ?_|refine Q4 ?_|refine Q5 ?_|refine Q6 ?_|refine Q7 ?_|refine Q8 ?_|refine Q9 ?_|refine Qa ?_|refine Qb ?_|refine Qc ?_|refine Qd ?_|refine Qe ?_|refine Qf ?_)|((with_reducible refine Qo ?_ ?_);focus rfl)|((with_reducible first|refine QT 12 (l:=?_) ?_ ?_|refine QF 12 (l:=?_) ?_ ?_);rotate_left 1;focus (simp only [Zu,Nat.reduceSub,Nat.reduceBEq];with_reducible rfl))|((with_reducible first|refine QS (cfg_ok 45) Tab.none (s':=?_) ?_ ?_|refine QC (b:=?_) ?_ ?_);rotate_left 1;focus ((with_reducible refine QW ?_);simp only [Zg,seval,if_true,if_false,reduceCtorEq,Nat.reduceEqDiff];with_reducible rfl)))
 obtain ⟨R,hR⟩:∃ R,R = fun i => runsF (fun p:List Int × List Nat => p.1) (ps.take i):=⟨_,rfl⟩
 have hRb:∀ i,i ≤ ps.length→(R i).length ≤ 100000∧∀ z ∈ R i,1 ≤ z.2∧z.2 ≤ 100000:=fun i hi => by
  rw [hR]
  obtain ⟨h1,h2⟩:=runsF_sub (fun p:List Int × List Nat => p.1) _ (ps.take i) rfl
  have h3:=h1.length_le
  rw [List.length_map,List.length_take] at h3
  rw [List.length_take] at h2
  exact ⟨by show (runsF _ _).length ≤ 100000;omega,fun z hz => by have:=h2 z hz;omega⟩
 refine RunK.loop (β:=Nat) (γ:=Unit) (fun i => ⟨[(3,.c (.own 3 (R i).length)),(9,.c (.own 9 ps.length)),(10,.c (.val (.int ps.length))),(11,.c (.val (.int i)))],[(3,.row 2 ((R i).map eCtT) false),(9,.row 1 (ps.map eLT) false)]⟩) (fun i => i ≤ ps.length) (fun i => ps.length - i)
  (fun _ => ⟨[(3,.c (.own 3 (R ps.length).length))],[(3,.row 2 ((R ps.length).map eCtT) false)]⟩) (fun _ => True) 0 (Nat.zero_le _) ?_ ?_ ?_
 ·have e0:R 0 = []:=by rw [hR];rfl
  have hfl:(forest ts).length = ps.length:=by rw [hpl];exact (show (sortC cmpT ts).Perm ts from sortC_perm ts).length_eq
  rw [e0,hfl]
  (repeat' (first|with_reducible refine Qn|((with_reducible refine Qr ?_ ?_);focus (first|with_reducible rfl|(simp only [Zz,Nat.reduceBEq,List.map_nil,List.length_map,Int.natCast_zero];done)|rfl))|((with_reducible refine Qj (o':=?_) ?_ ?_ ?_);rotate_left 1;focus rfl)|((with_reducible refine Qw ?_ ?_);(focus (first|with_reducible rfl|(simp only [Zv,List.map_nil,List.length_map,Int.natCast_zero];done)));focus (first|exact id|exact (fun h => nomatch h)|exact (fun _ => rfl)))))
 ·intro i hi
  have hi:i ≤ ps.length:=hi
  have hw:=w64_succ (n:=i) (by omega)
  obtain ⟨hb1,hb2⟩:=hRb i hi
  by_cases h:i < ps.length
  ·have i1:((i:Int) < (ps.length:Int)) = True:=eq_true (by omega)
   have i2:((0:Int) ≤ (i:Int)) = True:=eq_true (by omega)
   obtain ⟨p,hp⟩:∃ p,p = ps[i]:=⟨_,rfl⟩
   have hg:(ps.map eLT)[i]? = some [.tag p.2 (.sl 1 (p.1.map eI))]:=by rw [map_get h,hp];rfl
   have hst:R (i + 1) = stepC (fun p:List Int × List Nat => p.1) (R i) p:=by
    rw [hR]
    show runsF _ (ps.take (i + 1)) = stepC _ (runsF _ (ps.take i)) p
    rw [List.take_succ_eq_append_getElem h,runsF_snoc,hp]
   have q1:=big_le (n:=(R i).length + 1) (by omega)
   have q2:=big_mul (n:=(R i).length + 1) (c:=32) (by omega) (by omega)
   by_cases h0:R i = []
   ·rw [h0,stepC_nil] at hst
    have j1:(((0:Nat):Int) > 0) = False:=eq_false (by omega)
    rw [h0] at q1 q2 ⊢
    simp only [List.length_nil] at q1 q2
    repeat' (first|with_reducible (first|refine Q1 ?_|refine Q2 ?_|refine Q3 ?_|refine Q4 ?_|refine Q5 ?_|refine Q6 ?_|refine Q7 ?_|refine Q8 ?_|refine Q9 ?_|refine Qa ?_|refine Qb ?_|refine Qc ?_|refine Qd ?_|refine Qe ?_|refine Qf ?_)|((with_reducible refine Qo ?_ ?_);focus rfl)|((with_reducible first|refine QT 12 (l:=?_) ?_ ?_|refine QF 12 (l:=?_) ?_ ?_);rotate_left 1;focus (simp only [Zu,Nat.reduceSub,Nat.reduceBEq];with_reducible rfl))|((with_reducible first|refine QS (cfg_ok 45) TEq (s':=?_) ?_ ?_|refine QC (b:=?_) ?_ ?_);rotate_left 1;focus ((with_reducible refine QW ?_);simp only [Zg,seval,if_true,if_false,reduceCtorEq,Nat.reduceEqDiff,TEq,i1,i2,hg,hw,j1,q1,q2,Int.toNat_natCast,List.length_map,List.length_nil];with_reducible rfl)))
    refine roundK.on (i + 1) ⟨h,by omega⟩ ?_
    rw [hst]
    (repeat' (first|with_reducible refine Qn|((with_reducible refine Qr ?_ ?_);focus (first|with_reducible rfl|(simp only [Zz,Nat.reduceBEq,eCtT,List.map_nil];done)|rfl))|((with_reducible refine Qj (o':=?_) ?_ ?_ ?_);rotate_left 1;focus rfl)|((with_reducible refine Qw ?_ ?_);(focus (first|with_reducible rfl|(simp only [Zv,eCtT,List.map_nil];done)));focus (first|exact id|exact (fun h => nomatch h)|exact (fun _ => rfl)))))
   ·obtain ⟨out,z,ez⟩:=snoc_of h0
    have hzb:=hb2 z (by rw [ez];simp)
    rw [ez] at hst hb1 q1 q2 ⊢
    simp only [List.length_append,List.length_singleton] at hb1 q1 q2
    have hlz:(out ++ [z]).length = out.length + 1:=by simp
    have j1:((((out.length + 1:Nat)):Int) > 0) = True:=eq_true (by omega)
    have hw1:w64 (((out.length + 1:Nat):Int) - 1) = ((out.length:Nat):Int):=by rw [w64_eq (by omega)];omega
    have i3:((0:Int) ≤ ((out.length:Nat):Int)) = True:=eq_true (by omega)
    have i4:(((out.length:Nat):Int) < ((out.length + 1:Nat):Int)) = True:=eq_true (by omega)
    have hgz:((out ++ [z]).map eCtT)[out.length]? = some [.tag z.1.2 (.sl 1 (z.1.1.map eI)),.int z.2]:=by
     rw [List.map_append,List.getElem?_append_right (by simp)];simp [eCtT]
    by_cases he:z.1.1 = p.1
    ·rw [stepC_eq _ out z p he] at hst
     have hd:decide (z.1.1 = p.1) = true:=decide_eq_true he
     have hwz:=w64_eq (n:=z.2 + 1) (by omega)
     repeat' (first|with_reducible (first|refine Q1 ?_|refine Q2 ?_|refine Q3 ?_|refine Q4 ?_|refine Q5 ?_|refine Q6 ?_|refine Q7 ?_|refine Q8 ?_|refine Q9 ?_|refine Qa ?_|refine Qb ?_|refine Qc ?_|refine Qd ?_|refine Qe ?_|refine Qf ?_)|((with_reducible refine Qo ?_ ?_);focus rfl)|((with_reducible first|refine QT 12 (l:=?_) ?_ ?_|refine QF 12 (l:=?_) ?_ ?_);rotate_left 1;focus (simp only [Zu,Nat.reduceSub,Nat.reduceBEq];with_reducible rfl))|((with_reducible first|refine QS (cfg_ok 45) TEq (s':=?_) ?_ ?_|refine QC (b:=?_) ?_ ?_);rotate_left 1;focus ((with_reducible refine QW ?_);simp only [Zg,seval,if_true,if_false,reduceCtorEq,Nat.reduceEqDiff,TEq,TEq,i1,i2,i3,i4,hg,hgz,hlz,hw,hw1,hwz,hd,j1,Int.toNat_natCast,List.length_map];with_reducible rfl)))
     have hse:((out ++ [z]).map eCtT).set out.length [.tag z.1.2 (.sl 1 (z.1.1.map eI)),.int (z.2 + 1)] = (out ++ [(z.1,z.2 + 1)]).map eCtT:=by
      rw [List.map_append,List.set_append_right _ _ (by simp)];simp [eCtT]
     refine roundK.on (i + 1) ⟨h,by omega⟩ ?_
     rw [hst,hse]
     (repeat' (first|with_reducible refine Qn|((with_reducible refine Qr ?_ ?_);focus (first|with_reducible rfl|(simp only [Zz,Nat.reduceBEq,eCtT];done)|rfl))|((with_reducible refine Qj (o':=?_) ?_ ?_ ?_);rotate_left 1;focus rfl)|((with_reducible refine Qw ?_ ?_);(focus (first|with_reducible rfl|(simp only [Zv,eCtT];done)));focus (first|exact id|exact (fun h => nomatch h)|exact (fun _ => rfl)))))
    ·rw [stepC_ne _ out z p he] at hst
     have hd:decide (z.1.1 = p.1) = false:=decide_eq_false he
     repeat' (first|with_reducible (first|refine Q1 ?_|refine Q2 ?_|refine Q3 ?_|refine Q4 ?_|refine Q5 ?_|refine Q6 ?_|refine Q7 ?_|refine Q8 ?_|refine Q9 ?_|refine Qa ?_|refine Qb ?_|refine Qc ?_|refine Qd ?_|refine Qe ?_|refine Qf ?_)|((with_reducible refine Qo ?_ ?_);focus rfl)|((with_reducible first|refine QT 12 (l:=?_) ?_ ?_|refine QF 12 (l:=?_) ?_ ?_);rotate_left 1;focus (simp only [Zu,Nat.reduceSub,Nat.reduceBEq];with_reducible rfl))|((with_reducible first|refine QS (cfg_ok 45) TEq (s':=?_) ?_ ?_|refine QC (b:=?_) ?_ ?_);rotate_left 1;focus ((with_reducible refine QW ?_);simp only [Zg,seval,if_true,if_false,reduceCtorEq,Nat.reduceEqDiff,TEq,TEq,i1,i2,i3,i4,hg,hgz,hlz,hw,hw1,hd,j1,q1,q2,Int.toNat_natCast,List.length_map];with_reducible rfl)))
     refine roundK.on (i + 1) ⟨h,by omega⟩ ?_
     rw [hst]
     (repeat' (first|with_reducible refine Qn|((with_reducible refine Qr ?_ ?_);focus (first|with_reducible rfl|(simp only [Zz,Nat.reduceBEq,eCtT];done)|rfl))|((with_reducible refine Qj (o':=?_) ?_ ?_ ?_);rotate_left 1;focus rfl)|((with_reducible refine Qw ?_ ?_);(focus (first|with_reducible rfl|(simp only [Zv,eCtT];done)));focus (first|exact id|exact (fun h => nomatch h)|exact (fun _ => rfl)))))
  ·have i1:((i:Int) < (ps.length:Int)) = False:=eq_false (by omega)
   obtain rfl:i = ps.length:=by omega
   repeat' (first|with_reducible (first|refine Q1 ?_|refine Q2 ?_|refine Q3 ?_|refine Q4 ?_|refine Q5 ?_|refine Q6 ?_|refine Q7 ?_|refine Q8 ?_|refine Q9 ?_|refine Qa ?_|refine Qb ?_|refine Qc ?_|refine Qd ?_|refine Qe ?_|refine Qf ?_)|((with_reducible refine Qo ?_ ?_);focus rfl)|((with_reducible first|refine QT 12 (l:=?_) ?_ ?_|refine QF 12 (l:=?_) ?_ ?_);rotate_left 1;focus (simp only [Zu,Nat.reduceSub,Nat.reduceBEq];with_reducible rfl))|((with_reducible first|refine QS (cfg_ok 45) Tab.none (s':=?_) ?_ ?_|refine QC (b:=?_) ?_ ?_);rotate_left 1;focus ((with_reducible refine QW ?_);simp only [Zg,seval,if_true,if_false,reduceCtorEq,Nat.reduceEqDiff,i1];with_reducible rfl)))
   refine roundK.out () trivial ?_
   (repeat' (first|with_reducible refine Qn|((with_reducible refine Qr ?_ ?_);focus (first|with_reducible rfl|(simp only [Zz,Nat.reduceBEq];done)|rfl))|((with_reducible refine Qj (o':=?_) ?_ ?_ ?_);rotate_left 1;focus rfl)|((with_reducible refine Qw ?_ ?_);(focus (first|with_reducible rfl|(simp only [Zv];done)));focus (first|exact id|exact (fun h => nomatch h)|exact (fun _ => rfl)))))
 ·rintro _ _
  repeat' (first|with_reducible (first|refine Q1 ?_|refine Q2 ?_|refine Q3 ?_|refine Q4 ?_|refine Q5 ?_|refine Q6 ?_|refine Q7 ?_|refine Q8 ?_|refine Q9 ?_|refine Qa ?_|refine Qb ?_|refine Qc ?_|refine Qd ?_|refine Qe ?_|refine Qf ?_)|((with_reducible refine Qo ?_ ?_);focus rfl)|((with_reducible first|refine QT 12 (l:=?_) ?_ ?_|refine QF 12 (l:=?_) ?_ ?_);rotate_left 1;focus (simp only [Zu,Nat.reduceSub,Nat.reduceBEq];with_reducible rfl))|((with_reducible first|refine QS (cfg_ok 45) Tab.none (s':=?_) ?_ ?_|refine QC (b:=?_) ?_ ?_);rotate_left 1;focus ((with_reducible refine QW ?_);simp only [Zg,seval,if_true,if_false,reduceCtorEq,Nat.reduceEqDiff];with_reducible rfl)))
  have hRe:(R ps.length).map (fun z => (z.1.1,z.2)) = cntOf ts:=by
   rw [hR]
   show (runsF _ (ps.take ps.length)).map _ = _
   rw [List.take_length,runsF_map _ _ ps rfl,← e1];rfl
  refine Ends.un (by simp) hres hrts (r:=?_) (r':=.own 2 ((cntOf ts).map eCt) true) (l:=[]) (ks:=?_) ?_ ?_ (by simp) ?_ rfl
  rotate_left 2
  focus (simp only [aresults,ares,Zg,seval,if_true,if_false,reduceCtorEq,Nat.reduceEqDiff];with_reducible rfl)
  focus simp
  rw [← hRe]
  have hsub:((R ps.length).map (·.1)).Sublist ps:=by
   have:=(runsF_sub (fun p:List Int × List Nat => p.1) _ (ps.take ps.length) rfl).1
   rw [hR]
   show (List.map _ (runsF (fun p:List Int × List Nat => p.1) (ps.take ps.length))).Sublist ps
   rw [List.take_length] at this ⊢
   exact this
  have hsub2:((R ps.length).map (·.1.2)).Sublist (ps.map (·.2)):=by
   have:=hsub.map (·.2)
   rwa [List.map_map] at this
  refine ⟨((R ps.length).map (·.1.2)).flatten,?_,fun b hb => hF b ?_,.inl ⟨2,_,_,rfl,rfl,tag_mk2 _⟩⟩
  ·rw [e3] at hnd
   exact hnd.sublist (sub_flat2 hsub2)
  ·rw [e3]
   exact (sub_flat2 hsub2).subset hb
end Go.Proofs.Ytofpjonggpjneaa
namespace Go.Proofs.Ytofpjonggpjneaa
def mP (n:Int):Int:=n % 10007
section
variable {κ:Type} (c:κ→κ→Int)
def coef (L:List (Int × κ)) (x:κ):Int :=
 match L with
 | [] => 0
 | q :: L => (if c q.2 x = 0 then q.1 else 0) + coef L x
def NfS (L:List (Int × κ)):Prop:=L.Pairwise (fun p q => c p.2 q.2 < 0)∧∀ q ∈ L,1 ≤ q.1∧q.1 < 10007
end
section
variable {κ:Type} {c:κ→κ→Int} (hc:Cmp c)
theorem coef_cons (q:Int × κ) (L:List (Int × κ)) (x:κ):coef c (q :: L) x = (if c q.2 x = 0 then q.1 else 0) + coef c L x:=rfl
theorem coef_zero {L:List (Int × κ)} {x:κ} (h:∀ q ∈ L,c q.2 x ≠ 0):coef c L x = 0:=by
 induction L with
 | nil => rfl
 | cons q L ih => rw [coef_cons,if_neg (h q (by simp)),ih (fun p hp => h p (by simp [hp]))];rfl
include hc
theorem Cmp.lt_ne {a b:κ} (h:c a b < 0):c b a ≠ 0:=by
 intro e
 have:=hc.zero b a e
 subst this
 rw [hc.refl] at h;omega
theorem Cmp.lt_tr {a b d:κ} (h1:c a b < 0) (h2:c b d < 0):c a d < 0:=by
 rcases Int.lt_trichotomy (c a d) 0 with h|h|h
 ·exact h
 ·have:=hc.zero a d h
  subst this
  have:=(hc.anti a b).1 h1
  omega
 ·have:=hc.trans a b d (by omega) (by omega)
  omega
theorem NfS.ext:∀ {L M:List (Int × κ)},NfS c L→NfS c M→(∀ x,mP (coef c L x) = mP (coef c M x))→L = M
 | [],[],_,_,_ => rfl
 | [],(b,z) :: M,_,⟨h2,h3⟩,he => by
  exfalso
  rw [List.pairwise_cons] at h2
  have h0:coef c M z = 0:=coef_zero (fun q hq => hc.lt_ne (h2.1 q hq))
  have:=he z
  rw [coef_cons,if_pos (hc.refl z),h0] at this
  have hb:=h3 (b,z) (by simp)
  simp at hb
  simp [coef,mP] at this
  omega
 | (a,y) :: L,[],⟨h2,h3⟩,_,he => by
  exfalso
  rw [List.pairwise_cons] at h2
  have h0:coef c L y = 0:=coef_zero (fun q hq => hc.lt_ne (h2.1 q hq))
  have:=he y
  rw [coef_cons,if_pos (hc.refl y),h0] at this
  have hb:=h3 (a,y) (by simp)
  simp at hb
  simp [coef,mP] at this
  omega
 | (a,y) :: L,(b,z) :: M,⟨h1,h1'⟩,⟨h2,h2'⟩,he => by
  have w1:=h1;have w2:=h2
  rw [List.pairwise_cons] at h1 h2
  have ha:=h1' (a,y) (by simp)
  have hb:=h2' (b,z) (by simp)
  simp only at ha hb
  have hy0:coef c L y = 0:=coef_zero (fun q hq => hc.lt_ne (h1.1 q hq))
  have hz0:coef c M z = 0:=coef_zero (fun q hq => hc.lt_ne (h2.1 q hq))
  rcases Int.lt_trichotomy (c y z) 0 with h|h|h
  ·exfalso
   have h4:coef c ((b,z) :: M) y = 0:=coef_zero (fun q hq => by
    rcases List.mem_cons.1 hq with rfl|hq
    ·exact hc.lt_ne h
    ·exact hc.lt_ne (hc.lt_tr h (h2.1 q hq)))
   have:=he y
   rw [h4,coef_cons,if_pos (hc.refl y),hy0] at this
   simp [mP] at this
   omega
  ·obtain rfl:=hc.zero y z h
   have hab:a = b:=by
    have:=he y
    rw [coef_cons,coef_cons,if_pos (hc.refl y),if_pos (hc.refl y),hy0,hz0] at this
    simp [mP] at this
    omega
   subst hab
   have:=NfS.ext (L:=L) (M:=M) ⟨h1.2,fun q hq => h1' q (by simp [hq])⟩ ⟨h2.2,fun q hq => h2' q (by simp [hq])⟩ (fun x => by
    have:=he x
    rw [coef_cons,coef_cons] at this
    unfold mP at this ⊢
    omega)
   rw [this]
  ·exfalso
   have h:=(hc.anti z y).2 h
   have h4:coef c ((a,y) :: L) z = 0:=coef_zero (fun q hq => by
    rcases List.mem_cons.1 hq with rfl|hq
    ·exact hc.lt_ne h
    ·exact hc.lt_ne (hc.lt_tr h (h1.1 q hq)))
   have:=he z
   rw [h4,coef_cons,if_pos (hc.refl z),hz0] at this
   simp [mP] at this
   omega
omit hc
include hc
end
end Go.Proofs.Ytofpjonggpjneaa
namespace Go.Proofs.Ytofpjonggpjneaa
end Go.Proofs.Ytofpjonggpjneaa
namespace Go.Proofs.Ytofpjonggpjneaa
section
variable {α:Type} {c:α→α→Int} (hc:Cmp c)
include hc
end
end Go.Proofs.Ytofpjonggpjneaa
namespace Go.Proofs.Ytofpjonggpjneaa
def canT (t:List Int):Bool:=lev8 t && decide (canon t = t)
def okT (f:List (List Int)) (i:Nat):Bool:=canT (f.getD i []) && (decide (i = 0) || decide (cmpT (f.getD (i - 1) []) (f.getD i []) ≤ 0))
def forB (f:List (List Int)):Bool:=decide (sumLen f ≤ 8) && (List.range f.length).all (okT f)
theorem all_range {n:Nat} {p:Nat→Bool}:(List.range n).all p = true ↔ ∀ i < n,p i = true:=by
 rw [List.all_eq_true]
 exact ⟨fun h i hi => h i (List.mem_range.2 hi),fun h i hi => h i (List.mem_range.1 hi)⟩
theorem all_range_no {n i:Nat} {p:Nat→Bool} (hi:i < n) (h:p i = false):(List.range n).all p = false:=by
 rcases hq:(List.range n).all p with _|_
 ·rfl
 ·rw [all_range.1 hq i hi] at h;cases h
theorem adj_pairwise {α:Type} {r:α→α→Prop} (ht:∀ a b d,r a b→r b d→r a d):∀ {l:List α},(∀ i (h:i + 1 < l.length),r l[i] l[i + 1])→l.Pairwise r
 | [],_ => List.Pairwise.nil
 | [a],_ => List.pairwise_singleton _ _
 | a :: b :: l,h => by
  have ih:=adj_pairwise ht (l:=b :: l) (fun i hi => h (i + 1) (by simp at hi ⊢;omega))
  refine List.pairwise_cons.2 ⟨fun x hx => ?_,ih⟩
  have h0:r a b:=h 0 (by simp)
  rcases List.mem_cons.1 hx with rfl|hx
  ·exact h0
  ·exact ht a b x h0 ((List.pairwise_cons.1 ih).1 x hx)
theorem getD_at {α:Type} {l:List α} {d:α} {i:Nat} (h:i < l.length):l.getD i d = l[i]:=by
 rw [List.getD_eq_getElem?_getD,List.getElem?_eq_getElem h];rfl
theorem forB_spec {f:List (List Int)} (h:forB f = true):sumLen f ≤ 8∧(∀ t ∈ f,canT t = true)∧f.Pairwise fun a b => cmpT a b ≤ 0:=by
 unfold forB at h
 rw [Bool.and_eq_true,all_range] at h
 refine ⟨of_decide_eq_true h.1,fun t ht => ?_,adj_pairwise (fun a b d => cmpT_cmp.trans a b d) (fun i hi => ?_)⟩
 ·obtain ⟨i,hi,rfl⟩:=List.getElem_of_mem ht
  have:=h.2 i hi
  unfold okT at this
  rw [Bool.and_eq_true,getD_at hi] at this
  exact this.1
 ·have:=h.2 (i + 1) hi
  unfold okT at this
  rw [Bool.and_eq_true,Bool.or_eq_true,getD_at hi,Nat.add_sub_cancel,getD_at (show i < f.length by omega)] at this
  rcases this.2 with h1|h1
  ·have:=of_decide_eq_true h1;omega
  ·exact of_decide_eq_true h1
end Go.Proofs.Ytofpjonggpjneaa
namespace Go.Proofs.Ytofpjonggpjneaa
open Go.RowKit
theorem forB_lev {f:List (List Int)} (h:forB f = true):∀ b ∈ f,LevP b:=fun b hb => by
 have:=(forB_spec h).2.1 b hb
 unfold canT at this
 rw [Bool.and_eq_true] at this
 exact lev8_lev this.1
theorem forB_can {f:List (List Int)} (h:forB f = true):∀ b ∈ f,canon b = b:=fun b hb => by
 have:=(forB_spec h).2.1 b hb
 unfold canT at this
 rw [Bool.and_eq_true] at this
 exact of_decide_eq_true this.2
end Go.Proofs.Ytofpjonggpjneaa
namespace Go.Proofs.Ytofpjonggpjneaa
open Go.RowKit
theorem a_impl_IsTree (t:List Int):AFn Try.prog 24 [eL t] (· = [.val (.bool (canT t))]):=by
 have h1:=a_impl_IsLevels t
 unfold canT
 cases h8:lev8 t
 ·rw [h8] at h1
  rw [Bool.false_and]
  refine AFn.of_runs (cfg_ok 11) Try.func24 rfl rfl rfl (by simp only [List.length_cons,List.length_nil];decide) ?_
  have hres:Try.f24.results.toList = [.tmp 2]:=rfl
  have hrts:Try.f24.resultTypes.toList = [4]:=rfl
  simp only [argRegs,argAV1,eL,eI,eLL,eB,Nat.zero_add,Nat.reduceAdd]
  intro M
  refine RunK.of ?_
  repeat' (first|with_reducible (first|refine Q1 ?_|refine Q2 ?_|refine Q3 ?_|refine Q4 ?_|refine Q5 ?_|refine Q6 ?_|refine Q7 ?_|refine Q8 ?_|refine Q9 ?_|refine Qa ?_|refine Qb ?_|refine Qc ?_|refine Qd ?_|refine Qe ?_|refine Qf ?_)|((with_reducible refine Qo ?_ ?_);focus rfl)|((with_reducible first|refine QT 3 (l:=?_) ?_ ?_|refine QF 3 (l:=?_) ?_ ?_);rotate_left 1;focus (simp only [Zu,Nat.reduceSub,Nat.reduceBEq];with_reducible rfl))|((with_reducible first|refine QS (cfg_ok 11) (Tab.none.at' 49 h1) (s':=?_) ?_ ?_|refine QC (b:=?_) ?_ ?_);rotate_left 1;focus ((with_reducible refine QW ?_);simp only [Zg,seval,if_true,if_false,reduceCtorEq,Nat.reduceEqDiff,eL];with_reducible rfl)))
  (refine Ends.mk (by simp) (rs:=?_) (ks:=?_) hres hrts ?_ ?_ ?_;rotate_left 2;(focus (simp only [Ze,Zg,seval,if_true,if_false,reduceCtorEq,Nat.reduceEqDiff];with_reducible rfl));(focus simp);focus (first|with_reducible rfl|(simp only [Zv];done)))
 ·rw [h8] at h1
  rw [Bool.true_and]
  have h2:=a_canonical t (lev8_lev h8) (lev8_len h8)
  have h3:=a_slicesEqual (canon t) t
  refine AFn.of_runs (cfg_ok 11) Try.func24 rfl rfl rfl (by simp only [List.length_cons,List.length_nil];decide) ?_
  have hres:Try.f24.results.toList = [.tmp 2]:=rfl
  have hrts:Try.f24.resultTypes.toList = [4]:=rfl
  simp only [argRegs,argAV1,eL,eI,eLL,eB,Nat.zero_add,Nat.reduceAdd]
  intro M
  refine RunK.of ?_
  repeat' (first|with_reducible (first|refine Q1 ?_|refine Q2 ?_|refine Q3 ?_|refine Q4 ?_|refine Q5 ?_|refine Q6 ?_|refine Q7 ?_|refine Q8 ?_|refine Q9 ?_|refine Qa ?_|refine Qb ?_|refine Qc ?_|refine Qd ?_|refine Qe ?_|refine Qf ?_)|((with_reducible refine Qo ?_ ?_);focus rfl)|((with_reducible first|refine QT 3 (l:=?_) ?_ ?_|refine QF 3 (l:=?_) ?_ ?_);rotate_left 1;focus (simp only [Zu,Nat.reduceSub,Nat.reduceBEq];with_reducible rfl))|((with_reducible first|refine QS (cfg_ok 11) (((Tab.none.at' 49 h1).at' 105 h2).at' 104 h3) (s':=?_) ?_ ?_|refine QC (b:=?_) ?_ ?_);rotate_left 1;focus ((with_reducible refine QW ?_);simp only [Zg,seval,if_true,if_false,reduceCtorEq,Nat.reduceEqDiff,eL];with_reducible rfl)))
  (refine Ends.mk (by simp) (rs:=?_) (ks:=?_) hres hrts ?_ ?_ ?_;rotate_left 2;(focus (simp only [Ze,Zg,seval,if_true,if_false,reduceCtorEq,Nat.reduceEqDiff];with_reducible rfl));(focus simp);focus (first|with_reducible rfl|(simp only [Zv];done)))
theorem a_spec_IsTree (t:List Int) (hsz:t.length ≤ 1048576):AFn Try.prog 178 [eL t] (· = [.val (.bool (canT t))]):=by
 have h1:=a_spec_l03Is t hsz
 unfold canT
 cases h8:lev8 t
 ·rw [h8] at h1
  rw [Bool.false_and]
  refine AFn.of_runs (cfg_ok 11) Try.func178 rfl rfl rfl (by simp only [List.length_cons,List.length_nil];decide) ?_
  have hres:Try.f178.results.toList = [.tmp 2]:=rfl
  have hrts:Try.f178.resultTypes.toList = [4]:=rfl
  simp only [argRegs,argAV1,eL,eI,eLL,eB,Nat.zero_add,Nat.reduceAdd]
  intro M
  refine RunK.of ?_
  repeat' (first|with_reducible (first|refine Q1 ?_|refine Q2 ?_|refine Q3 ?_|refine Q4 ?_|refine Q5 ?_|refine Q6 ?_|refine Q7 ?_|refine Q8 ?_|refine Q9 ?_|refine Qa ?_|refine Qb ?_|refine Qc ?_|refine Qd ?_|refine Qe ?_|refine Qf ?_)|((with_reducible refine Qo ?_ ?_);focus rfl)|((with_reducible first|refine QT 3 (l:=?_) ?_ ?_|refine QF 3 (l:=?_) ?_ ?_);rotate_left 1;focus (simp only [Zu,Nat.reduceSub,Nat.reduceBEq];with_reducible rfl))|((with_reducible first|refine QS (cfg_ok 11) (Tab.none.at' 110 h1) (s':=?_) ?_ ?_|refine QC (b:=?_) ?_ ?_);rotate_left 1;focus ((with_reducible refine QW ?_);simp only [Zg,seval,if_true,if_false,reduceCtorEq,Nat.reduceEqDiff,eL];with_reducible rfl)))
  (refine Ends.mk (by simp) (rs:=?_) (ks:=?_) hres hrts ?_ ?_ ?_;rotate_left 2;(focus (simp only [Ze,Zg,seval,if_true,if_false,reduceCtorEq,Nat.reduceEqDiff];with_reducible rfl));(focus simp);focus (first|with_reducible rfl|(simp only [Zv];done)))
 ·rw [h8] at h1
  rw [Bool.true_and]
  have h2:=a_l03Canon t (lev8_lev h8) (lev8_len h8)
  have h3:=a_l01Same (canon t) t
  refine AFn.of_runs (cfg_ok 11) Try.func178 rfl rfl rfl (by simp only [List.length_cons,List.length_nil];decide) ?_
  have hres:Try.f178.results.toList = [.tmp 2]:=rfl
  have hrts:Try.f178.resultTypes.toList = [4]:=rfl
  simp only [argRegs,argAV1,eL,eI,eLL,eB,Nat.zero_add,Nat.reduceAdd]
  intro M
  refine RunK.of ?_
  repeat' (first|with_reducible (first|refine Q1 ?_|refine Q2 ?_|refine Q3 ?_|refine Q4 ?_|refine Q5 ?_|refine Q6 ?_|refine Q7 ?_|refine Q8 ?_|refine Q9 ?_|refine Qa ?_|refine Qb ?_|refine Qc ?_|refine Qd ?_|refine Qe ?_|refine Qf ?_)|((with_reducible refine Qo ?_ ?_);focus rfl)|((with_reducible first|refine QT 3 (l:=?_) ?_ ?_|refine QF 3 (l:=?_) ?_ ?_);rotate_left 1;focus (simp only [Zu,Nat.reduceSub,Nat.reduceBEq];with_reducible rfl))|((with_reducible first|refine QS (cfg_ok 11) (((Tab.none.at' 110 h1).at' 112 h2).at' 182 h3) (s':=?_) ?_ ?_|refine QC (b:=?_) ?_ ?_);rotate_left 1;focus ((with_reducible refine QW ?_);simp only [Zg,seval,if_true,if_false,reduceCtorEq,Nat.reduceEqDiff,eL];with_reducible rfl)))
  (refine Ends.mk (by simp) (rs:=?_) (ks:=?_) hres hrts ?_ ?_ ?_;rotate_left 2;(focus (simp only [Ze,Zg,seval,if_true,if_false,reduceCtorEq,Nat.reduceEqDiff];with_reducible rfl));(focus simp);focus (first|with_reducible rfl|(simp only [Zv];done)))
noncomputable def TFor:Tab Try.prog :=
 ((Tab.none.add 24 (tab1 codL fun t => some [.val (.bool (canT t))]) (tab1_ok fun t rs h => by cases h;exact a_impl_IsTree t)).add
   107 (tab2 codL codL fun xs ys => some [.val (.int (cmpT xs ys))]) (tab2_ok fun xs ys rs h => by cases h;exact a_compareTrees xs ys)).add
   128 (tab1 codLL fun f => some [.val (.int (nodesB f))]) (tab1_ok fun f rs h => by cases h;exact a_nodesIn f)
noncomputable def TForS:Tab Try.prog :=
 ((Tab.none.add 178 (tab1 codL fun t => if t.length ≤ 1048576 then some [.val (.bool (canT t))] else none) (tab1_ok fun t rs h => by split at h;cases h;exact a_spec_IsTree t ‹_›;cases h)).add
   124 (tab2 codL codL fun xs ys => some [.val (.bool (decide (cmpT xs ys < 0)))]) (tab2_ok fun xs ys rs h => by cases h;exact a_l03Before xs ys)).add
   137 (tab1 codLL fun f => some [.val (.int (nodesB f))]) (tab1_ok fun f rs h => by cases h;exact a_l03Nodes f)
theorem all_range_succ {n:Nat} {p:Nat→Bool} (h:(List.range n).all p = true) (h2:p n = true):(List.range (n + 1)).all p = true :=
 all_range.2 (fun i hi => by
  by_cases e:i = n
  ·rw [e];exact h2
  ·exact all_range.1 h i (by omega))
set_option maxHeartbeats 4000000 in
theorem a_impl_IsForest (f:List (List Int)) (hsz:sumLen f ≤ 1000000000) (hln:f.length ≤ 1000000000):AFn Try.prog 52 [eLL f] (· = [.val (.bool (forB f))]):=by
 have hn:nodesB f = sumLen f:=nodesB_eq f (by omega)
 refine AFn.of_runs (cfg_ok 33) Try.func52 rfl rfl rfl (by simp only [List.length_cons,List.length_nil];decide) ?_
 have hres:Try.f52.results.toList = [.tmp 2]:=rfl
 have hrts:Try.f52.resultTypes.toList = [4]:=rfl
 simp only [argRegs,argAV1,eL,eI,eLL,eB,Nat.zero_add,Nat.reduceAdd]
 intro M
 refine RunK.of ?_
 by_cases h8:sumLen f ≤ 8
 ·have i8:((sumLen f:Int) > 8) = False:=eq_false (by omega)
  repeat' (first|with_reducible (first|refine Q1 ?_|refine Q2 ?_|refine Q3 ?_|refine Q4 ?_|refine Q5 ?_|refine Q6 ?_|refine Q7 ?_|refine Q8 ?_|refine Q9 ?_|refine Qa ?_|refine Qb ?_|refine Qc ?_|refine Qd ?_|refine Qe ?_|refine Qf ?_)|((with_reducible refine Qo ?_ ?_);focus rfl)|((with_reducible first|refine QT 11 (l:=?_) ?_ ?_|refine QF 11 (l:=?_) ?_ ?_);rotate_left 1;focus (simp only [Zu,Nat.reduceSub,Nat.reduceBEq];with_reducible rfl))|((with_reducible first|refine QS (cfg_ok 33) TFor (s':=?_) ?_ ?_|refine QC (b:=?_) ?_ ?_);rotate_left 1;focus ((with_reducible refine QW ?_);simp only [Zg,seval,if_true,if_false,reduceCtorEq,Nat.reduceEqDiff,TFor,hn,i8,eL];with_reducible rfl)))
  refine RunK.loop (β:=Nat) (γ:=Unit) (fun i => ⟨[(0,.c (.val (.sl 1 (f.map eL)))),(8,.c (.val (.sl 1 (f.map eL)))),(9,.c (.val (.int f.length))),(10,.c (.val (.int i)))],[]⟩) (fun i => i ≤ f.length∧(List.range i).all (okT f) = true) (fun i => f.length - i)
   (fun _ => ⟨[],[]⟩) (fun _ => (List.range f.length).all (okT f) = true) 0 ⟨Nat.zero_le _,rfl⟩ ?_ ?_ ?_
  ·(repeat' (first|with_reducible refine Qn|((with_reducible refine Qr ?_ ?_);focus (first|with_reducible rfl|(simp only [Zz,Nat.reduceBEq];done)|rfl))|((with_reducible refine Qj (o':=?_) ?_ ?_ ?_);rotate_left 1;focus rfl)|((with_reducible refine Qw ?_ ?_);(focus (first|with_reducible rfl|(simp only [Zv];done)));focus (first|exact id|exact (fun h => nomatch h)|exact (fun _ => rfl)))))
  ·rintro i ⟨hi,hall⟩
   have hw:=w64_succ (n:=i) (by omega)
   by_cases h:i < f.length
   ·have i1:((i:Int) < (f.length:Int)) = True:=eq_true (by omega)
    have i2:((0:Int) ≤ (i:Int)) = True:=eq_true (by omega)
    obtain ⟨t,ht⟩:∃ t,t = f[i]:=⟨_,rfl⟩
    have hg:(f.map eL)[i]? = some [.sl 1 (t.map eI)]:=by rw [map_get h,ht];rfl
    have hgd:f.getD i [] = t:=by rw [getD_at h,ht]
    by_cases hc:canT t = true
    ·by_cases h0:i = 0
     ·have j1:((i:Int) > 0) = False:=eq_false (by omega)
      have hok:okT f i = true:=by unfold okT;rw [hgd,hc,h0];rfl
      repeat' (first|with_reducible (first|refine Q1 ?_|refine Q2 ?_|refine Q3 ?_|refine Q4 ?_|refine Q5 ?_|refine Q6 ?_|refine Q7 ?_|refine Q8 ?_|refine Q9 ?_|refine Qa ?_|refine Qb ?_|refine Qc ?_|refine Qd ?_|refine Qe ?_|refine Qf ?_)|((with_reducible refine Qo ?_ ?_);focus rfl)|((with_reducible first|refine QT 11 (l:=?_) ?_ ?_|refine QF 11 (l:=?_) ?_ ?_);rotate_left 1;focus (simp only [Zu,Nat.reduceSub,Nat.reduceBEq];with_reducible rfl))|((with_reducible first|refine QS (cfg_ok 33) TFor (s':=?_) ?_ ?_|refine QC (b:=?_) ?_ ?_);rotate_left 1;focus ((with_reducible refine QW ?_);simp only [Zg,seval,if_true,if_false,reduceCtorEq,Nat.reduceEqDiff,TFor,i1,i2,hg,hw,hc,j1,Int.toNat_natCast,List.length_map];with_reducible rfl)))
      refine roundK.on (i + 1) ⟨⟨h,all_range_succ hall hok⟩,by omega⟩ ?_
      (repeat' (first|with_reducible refine Qn|((with_reducible refine Qr ?_ ?_);focus (first|with_reducible rfl|(simp only [Zz,Nat.reduceBEq];done)|rfl))|((with_reducible refine Qj (o':=?_) ?_ ?_ ?_);rotate_left 1;focus rfl)|((with_reducible refine Qw ?_ ?_);(focus (first|with_reducible rfl|(simp only [Zv];done)));focus (first|exact id|exact (fun h => nomatch h)|exact (fun _ => rfl)))))
     ·have j1:((i:Int) > 0) = True:=eq_true (by omega)
      have hw1:w64 ((i:Int) - 1) = ((i - 1:Nat):Int):=by rw [w64_eq (by omega)];omega
      have i3:((0:Int) ≤ ((i - 1:Nat):Int)) = True:=eq_true (by omega)
      have i4:(((i - 1:Nat):Int) < (f.length:Int)) = True:=eq_true (by omega)
      obtain ⟨s,hs⟩:∃ s,s = f[i - 1]:=⟨_,rfl⟩
      have hgs:(f.map eL)[i - 1]? = some [.sl 1 (s.map eI)]:=by rw [map_get (by omega),hs];rfl
      have hgds:f.getD (i - 1) [] = s:=by rw [getD_at (by omega),hs]
      by_cases hk:cmpT s t > 0
      ·have hok:okT f i = false:=by unfold okT;rw [hgd,hgds,hc,decide_eq_false h0,decide_eq_false (by omega)];rfl
       have hB:forB f = false:=by unfold forB;rw [all_range_no h hok,Bool.and_false]
       have k1:(cmpT s t > 0) = True:=eq_true hk
       rw [hB]
       repeat' (first|with_reducible (first|refine Q1 ?_|refine Q2 ?_|refine Q3 ?_|refine Q4 ?_|refine Q5 ?_|refine Q6 ?_|refine Q7 ?_|refine Q8 ?_|refine Q9 ?_|refine Qa ?_|refine Qb ?_|refine Qc ?_|refine Qd ?_|refine Qe ?_|refine Qf ?_)|((with_reducible refine Qo ?_ ?_);focus rfl)|((with_reducible first|refine QT 11 (l:=?_) ?_ ?_|refine QF 11 (l:=?_) ?_ ?_);rotate_left 1;focus (simp only [Zu,Nat.reduceSub,Nat.reduceBEq];with_reducible rfl))|((with_reducible first|refine QS (cfg_ok 33) TFor (s':=?_) ?_ ?_|refine QC (b:=?_) ?_ ?_);rotate_left 1;focus ((with_reducible refine QW ?_);simp only [Zg,seval,if_true,if_false,reduceCtorEq,Nat.reduceEqDiff,TFor,i1,i2,i3,i4,hg,hgs,hw,hw1,hc,j1,k1,Int.toNat_natCast,List.length_map];with_reducible rfl)))
       refine roundK.ret ?_
       repeat' (first|with_reducible (first|refine Q1 ?_|refine Q2 ?_|refine Q3 ?_|refine Q4 ?_|refine Q5 ?_|refine Q6 ?_|refine Q7 ?_|refine Q8 ?_|refine Q9 ?_|refine Qa ?_|refine Qb ?_|refine Qc ?_|refine Qd ?_|refine Qe ?_|refine Qf ?_)|((with_reducible refine Qo ?_ ?_);focus rfl)|((with_reducible first|refine QT 11 (l:=?_) ?_ ?_|refine QF 11 (l:=?_) ?_ ?_);rotate_left 1;focus (simp only [Zu,Nat.reduceSub,Nat.reduceBEq];with_reducible rfl))|((with_reducible first|refine QS (cfg_ok 33) TFor (s':=?_) ?_ ?_|refine QC (b:=?_) ?_ ?_);rotate_left 1;focus ((with_reducible refine QW ?_);simp only [Zg,seval,if_true,if_false,reduceCtorEq,Nat.reduceEqDiff,TFor];with_reducible rfl)))
       (refine Ends.mk (by simp) (rs:=?_) (ks:=?_) hres hrts ?_ ?_ ?_;rotate_left 2;(focus (simp only [Ze,Zg,seval,if_true,if_false,reduceCtorEq,Nat.reduceEqDiff];with_reducible rfl));(focus simp);focus (first|with_reducible rfl|(simp only [Zv];done)))
      ·have hok:okT f i = true:=by unfold okT;rw [hgd,hgds,hc,decide_eq_true (show cmpT s t ≤ 0 by omega),Bool.or_true];rfl
       have k1:(cmpT s t > 0) = False:=eq_false hk
       repeat' (first|with_reducible (first|refine Q1 ?_|refine Q2 ?_|refine Q3 ?_|refine Q4 ?_|refine Q5 ?_|refine Q6 ?_|refine Q7 ?_|refine Q8 ?_|refine Q9 ?_|refine Qa ?_|refine Qb ?_|refine Qc ?_|refine Qd ?_|refine Qe ?_|refine Qf ?_)|((with_reducible refine Qo ?_ ?_);focus rfl)|((with_reducible first|refine QT 11 (l:=?_) ?_ ?_|refine QF 11 (l:=?_) ?_ ?_);rotate_left 1;focus (simp only [Zu,Nat.reduceSub,Nat.reduceBEq];with_reducible rfl))|((with_reducible first|refine QS (cfg_ok 33) TFor (s':=?_) ?_ ?_|refine QC (b:=?_) ?_ ?_);rotate_left 1;focus ((with_reducible refine QW ?_);simp only [Zg,seval,if_true,if_false,reduceCtorEq,Nat.reduceEqDiff,TFor,i1,i2,i3,i4,hg,hgs,hw,hw1,hc,j1,k1,Int.toNat_natCast,List.length_map];with_reducible rfl)))
       refine roundK.on (i + 1) ⟨⟨h,all_range_succ hall hok⟩,by omega⟩ ?_
       (repeat' (first|with_reducible refine Qn|((with_reducible refine Qr ?_ ?_);focus (first|with_reducible rfl|(simp only [Zz,Nat.reduceBEq];done)|rfl))|((with_reducible refine Qj (o':=?_) ?_ ?_ ?_);rotate_left 1;focus rfl)|((with_reducible refine Qw ?_ ?_);(focus (first|with_reducible rfl|(simp only [Zv];done)));focus (first|exact id|exact (fun h => nomatch h)|exact (fun _ => rfl)))))
    ·have hc:canT t = false:=by simpa using hc
     have hok:okT f i = false:=by unfold okT;rw [hgd,hc,Bool.false_and]
     have hB:forB f = false:=by unfold forB;rw [all_range_no h hok,Bool.and_false]
     rw [hB]
     repeat' (first|with_reducible (first|refine Q1 ?_|refine Q2 ?_|refine Q3 ?_|refine Q4 ?_|refine Q5 ?_|refine Q6 ?_|refine Q7 ?_|refine Q8 ?_|refine Q9 ?_|refine Qa ?_|refine Qb ?_|refine Qc ?_|refine Qd ?_|refine Qe ?_|refine Qf ?_)|((with_reducible refine Qo ?_ ?_);focus rfl)|((with_reducible first|refine QT 11 (l:=?_) ?_ ?_|refine QF 11 (l:=?_) ?_ ?_);rotate_left 1;focus (simp only [Zu,Nat.reduceSub,Nat.reduceBEq];with_reducible rfl))|((with_reducible first|refine QS (cfg_ok 33) TFor (s':=?_) ?_ ?_|refine QC (b:=?_) ?_ ?_);rotate_left 1;focus ((with_reducible refine QW ?_);simp only [Zg,seval,if_true,if_false,reduceCtorEq,Nat.reduceEqDiff,TFor,i1,i2,hg,hw,hc,Int.toNat_natCast,List.length_map];with_reducible rfl)))
     refine roundK.ret ?_
     repeat' (first|with_reducible (first|refine Q1 ?_|refine Q2 ?_|refine Q3 ?_|refine Q4 ?_|refine Q5 ?_|refine Q6 ?_|refine Q7 ?_|refine Q8 ?_|refine Q9 ?_|refine Qa ?_|refine Qb ?_|refine Qc ?_|refine Qd ?_|refine Qe ?_|refine Qf ?_)|((with_reducible refine Qo ?_ ?_);focus rfl)|((with_reducible first|refine QT 11 (l:=?_) ?_ ?_|refine QF 11 (l:=?_) ?_ ?_);rotate_left 1;focus (simp only [Zu,Nat.reduceSub,Nat.reduceBEq];with_reducible rfl))|((with_reducible first|refine QS (cfg_ok 33) TFor (s':=?_) ?_ ?_|refine QC (b:=?_) ?_ ?_);rotate_left 1;focus ((with_reducible refine QW ?_);simp only [Zg,seval,if_true,if_false,reduceCtorEq,Nat.reduceEqDiff,TFor];with_reducible rfl)))
     (refine Ends.mk (by simp) (rs:=?_) (ks:=?_) hres hrts ?_ ?_ ?_;rotate_left 2;(focus (simp only [Ze,Zg,seval,if_true,if_false,reduceCtorEq,Nat.reduceEqDiff];with_reducible rfl));(focus simp);focus (first|with_reducible rfl|(simp only [Zv];done)))
   ·have i1:((i:Int) < (f.length:Int)) = False:=eq_false (by omega)
    obtain rfl:i = f.length:=by omega
    repeat' (first|with_reducible (first|refine Q1 ?_|refine Q2 ?_|refine Q3 ?_|refine Q4 ?_|refine Q5 ?_|refine Q6 ?_|refine Q7 ?_|refine Q8 ?_|refine Q9 ?_|refine Qa ?_|refine Qb ?_|refine Qc ?_|refine Qd ?_|refine Qe ?_|refine Qf ?_)|((with_reducible refine Qo ?_ ?_);focus rfl)|((with_reducible first|refine QT 11 (l:=?_) ?_ ?_|refine QF 11 (l:=?_) ?_ ?_);rotate_left 1;focus (simp only [Zu,Nat.reduceSub,Nat.reduceBEq];with_reducible rfl))|((with_reducible first|refine QS (cfg_ok 33) TFor (s':=?_) ?_ ?_|refine QC (b:=?_) ?_ ?_);rotate_left 1;focus ((with_reducible refine QW ?_);simp only [Zg,seval,if_true,if_false,reduceCtorEq,Nat.reduceEqDiff,TFor,i1];with_reducible rfl)))
    refine roundK.out () hall ?_
    (repeat' (first|with_reducible refine Qn|((with_reducible refine Qr ?_ ?_);focus (first|with_reducible rfl|(simp only [Zz,Nat.reduceBEq];done)|rfl))|((with_reducible refine Qj (o':=?_) ?_ ?_ ?_);rotate_left 1;focus rfl)|((with_reducible refine Qw ?_ ?_);(focus (first|with_reducible rfl|(simp only [Zv];done)));focus (first|exact id|exact (fun h => nomatch h)|exact (fun _ => rfl)))))
  ·rintro _ hall
   have hB:forB f = true:=by unfold forB;rw [hall,decide_eq_true h8];rfl
   rw [hB]
   repeat' (first|with_reducible (first|refine Q1 ?_|refine Q2 ?_|refine Q3 ?_|refine Q4 ?_|refine Q5 ?_|refine Q6 ?_|refine Q7 ?_|refine Q8 ?_|refine Q9 ?_|refine Qa ?_|refine Qb ?_|refine Qc ?_|refine Qd ?_|refine Qe ?_|refine Qf ?_)|((with_reducible refine Qo ?_ ?_);focus rfl)|((with_reducible first|refine QT 11 (l:=?_) ?_ ?_|refine QF 11 (l:=?_) ?_ ?_);rotate_left 1;focus (simp only [Zu,Nat.reduceSub,Nat.reduceBEq];with_reducible rfl))|((with_reducible first|refine QS (cfg_ok 33) TFor (s':=?_) ?_ ?_|refine QC (b:=?_) ?_ ?_);rotate_left 1;focus ((with_reducible refine QW ?_);simp only [Zg,seval,if_true,if_false,reduceCtorEq,Nat.reduceEqDiff,TFor];with_reducible rfl)))
   (refine Ends.mk (by simp) (rs:=?_) (ks:=?_) hres hrts ?_ ?_ ?_;rotate_left 2;(focus (simp only [Ze,Zg,seval,if_true,if_false,reduceCtorEq,Nat.reduceEqDiff];with_reducible rfl));(focus simp);focus (first|with_reducible rfl|(simp only [Zv];done)))
 ·have i8:((sumLen f:Int) > 8) = True:=eq_true (by omega)
  have hB:forB f = false:=by unfold forB;rw [decide_eq_false h8,Bool.false_and]
  rw [hB]
  repeat' (first|with_reducible (first|refine Q1 ?_|refine Q2 ?_|refine Q3 ?_|refine Q4 ?_|refine Q5 ?_|refine Q6 ?_|refine Q7 ?_|refine Q8 ?_|refine Q9 ?_|refine Qa ?_|refine Qb ?_|refine Qc ?_|refine Qd ?_|refine Qe ?_|refine Qf ?_)|((with_reducible refine Qo ?_ ?_);focus rfl)|((with_reducible first|refine QT 11 (l:=?_) ?_ ?_|refine QF 11 (l:=?_) ?_ ?_);rotate_left 1;focus (simp only [Zu,Nat.reduceSub,Nat.reduceBEq];with_reducible rfl))|((with_reducible first|refine QS (cfg_ok 33) TFor (s':=?_) ?_ ?_|refine QC (b:=?_) ?_ ?_);rotate_left 1;focus ((with_reducible refine QW ?_);simp only [Zg,seval,if_true,if_false,reduceCtorEq,Nat.reduceEqDiff,TFor,hn,i8,eL];with_reducible rfl)))
  (refine Ends.mk (by simp) (rs:=?_) (ks:=?_) hres hrts ?_ ?_ ?_;rotate_left 2;(focus (simp only [Ze,Zg,seval,if_true,if_false,reduceCtorEq,Nat.reduceEqDiff];with_reducible rfl));(focus simp);focus (first|with_reducible rfl|(simp only [Zv];done)))
end Go.Proofs.Ytofpjonggpjneaa
namespace Go.Proofs.Ytofpjonggpjneaa
open Go.RowKit
def SmF (f:List (List Int)):Prop:=f.length ≤ 19∧sumLen f ≤ 100
instance (f:List (List Int)):Decidable (SmF f):=inferInstanceAs (Decidable (_∧_))
theorem SmF.b {f:List (List Int)} (h:SmF f):∀ b ∈ f,b.length ≤ 1000:=fun b hb => by have:=sumLen_mem hb;have:=h.2;omega
theorem AFn.valT {P:Program} {f:FuncId} {ds:List (List D)} {k:Nat} {xs:List (List D)} (h:AFn P f ds (· = [.own k xs true])):AFn P f ds (· = [.val (.sl k xs)]):=by
 refine ⟨h.call,fun A w vs hA hr => (h.fn A w vs hA hr).mono ?_⟩
 rintro e w' ⟨v,rs,rfl,rfl,hb,us,G,X,rfl,hG1,hG2,v1,us1,G1,G2,Y1,Y2,rfl,rfl,rfl,ho,⟨og,cap,F,dd,rfl,hrow,hk,rfl,rfl,hel⟩,rfl,rfl,rfl⟩
 refine ⟨_,_,rfl,rfl,hb,[_],[],[],rfl,List.nodup_nil,(fun b hb => nomatch hb),_,[],[],[],[],[],rfl,rfl,rfl,ho,⟨?_,rfl,rfl⟩,rfl,rfl,rfl⟩
 have hel:ownR k w' dd xs F:=hel
 have hv:=ownV_sl.2 ⟨og,dd,F,hrow,hel,rfl⟩
 exact hv.rd.mono (fun b hb _ => ⟨.inr (hG2 b (by simpa using hb)),by simp⟩)
theorem a_l03CanonB (t:List Int) (h:LevP t) (hl:t.length ≤ 1000):AFn Try.prog 112 [eL t] (· = [.own 1 ((canon t).map eI) true]) :=
 afn_L_o (enters_of Try.func112 rfl rfl) (fun u w h' => c_spec_l03Canon 1000 u t w h' h hl (by omega))
end Go.Proofs.Ytofpjonggpjneaa
namespace Go.Proofs.Ytofpjonggpjneaa
open Go.RowKit
theorem flat_len {α β:Type} (g:α→β→β) (P:List β):∀ L:List α,(L.flatMap fun d => P.map (g d)).length = L.length * P.length
 | [] => by simp
 | d :: L => by rw [List.flatMap_cons,List.length_append,List.length_map,flat_len g P L,List.length_cons,Nat.succ_mul];omega
theorem plcX_len (m:Nat):∀ k,(plcX m k).length = m ^ k
 | 0 => rfl
 | k + 1 => by
  show ((List.range m).flatMap fun d => (plcX m k).map (List.cons d)).length = m ^ (k + 1)
  rw [flat_len List.cons,plcX_len m k,List.length_range,Nat.pow_succ,Nat.mul_comm]
theorem plcX_mem {m:Nat}:∀ {k:Nat} {ns:List Nat},ns ∈ plcX m k→ns.length = k∧∀ n ∈ ns,n < m
 | 0,ns,h => by
  have:ns = []:=by simpa [plcX] using h
  subst this
  exact ⟨rfl,fun n hn => nomatch hn⟩
 | k + 1,ns,h => by
  obtain ⟨d,hd,h2⟩:=List.mem_flatMap.1 h
  obtain ⟨p,hp,rfl⟩:=List.mem_map.1 h2
  obtain ⟨h3,h4⟩:=plcX_mem hp
  refine ⟨by simp [h3],fun n hn => ?_⟩
  rcases List.mem_cons.1 hn with rfl|hn
  ·exact List.mem_range.1 hd
  ·exact h4 n hn
def gfX (u:List Int) (f:List (List Int)) (ns:List Nat) (k:Nat):List (List Int):=(plcX u.length k).map fun p => canon (mixL u f (ns ++ p))
def gfXi (u:List Int) (f:List (List Int)) (ns:List Nat) (k i:Nat):List (List Int):=(List.range i).flatMap fun d => gfX u f (ns ++ [d]) k
theorem gfX_succ (u:List Int) (f:List (List Int)) (ns:List Nat) (k:Nat):gfX u f ns (k + 1) = gfXi u f ns k u.length:=by
 unfold gfX gfXi
 show ((List.range u.length).flatMap fun d => (plcX u.length k).map (d :: ·)).map _ = _
 rw [List.map_flatMap]
 congr 1
 funext d
 rw [List.map_map]
 unfold gfX
 congr 1
 funext p
 show canon (mixL u f (ns ++ d :: p)) = canon (mixL u f (ns ++ [d] ++ p))
 rw [List.append_assoc];rfl
theorem gfXi_succ (u:List Int) (f:List (List Int)) (ns:List Nat) (k i:Nat):gfXi u f ns k (i + 1) = gfXi u f ns k i ++ gfX u f (ns ++ [i]) k:=by
 unfold gfXi
 rw [List.range_succ,List.flatMap_append];simp
theorem gfX_len (u:List Int) (f:List (List Int)) (ns:List Nat) (k:Nat):(gfX u f ns k).length = u.length ^ k:=by unfold gfX;rw [List.length_map,plcX_len]
theorem gfXi_len (u:List Int) (f:List (List Int)) (ns:List Nat) (k:Nat):∀ i,(gfXi u f ns k i).length = i * u.length ^ k
 | 0 => by simp [gfXi]
 | i + 1 => by rw [gfXi_succ,List.length_append,gfXi_len u f ns k i,gfX_len,Nat.succ_mul]
theorem a_graftedF (u:List Int) (f:List (List Int)) (ns:List Nat) (hu:lev8 u = true) (hf:∀ v ∈ f,lev8 v = true) (hsum:u.length + sumLen f ≤ 8) (hn:ns.length = f.length) (hm:∀ n ∈ ns,n < u.length)
  (hok:graftOk u (intN ns) f = true) (he:graftN u (intN ns) f = canon (mixL u f ns)):AFn Try.prog 116 [eL u,eL (intN ns),eLL f] (· = [.own 1 ((canon (mixL u f ns)).map eI) true]):=by
 rw [← he]
 exact AFn.of_o encI (enters_of Try.func116 rfl rfl) (fun w A vs ⟨v1,_,e1,h1,v2,_,e2,h2,v3,_,e3,h3,e4⟩ => by
  subst e4;subst e3;subst e2;subst e1
  exact c_impl_grafted v1 v2 v3 u (intN ns) f w (Rd.of (rd1 h1)) (Rd.of (rd1 h2)) (Rd.of (rdLL h3)) hu hf (by simp [intN,hn]) (fun x hx => by
   obtain ⟨n,hn',rfl⟩:=List.mem_map.1 hx
   have:=hm n hn'
   omega) hsum hok)
set_option maxHeartbeats 8000000 in
theorem a_graftAllF (u:List Int) (f:List (List Int)) (hu:lev8 u = true) (hf:∀ v ∈ f,lev8 v = true) (hsum:u.length + sumLen f ≤ 8) (hck:gfC1 u f = true) (hfl8:f.length ≤ 8):∀ (k:Nat) (ns:List Nat) (out:List (List Int)),ns.length + k = f.length→(∀ n ∈ ns,n < u.length)→(∀ p ∈ plcX u.length k,ns ++ p ∈ plcX u.length f.length) →
  out.length + u.length ^ k ≤ 1000→AOw Try.prog 115 [eL u,eL (intN ns),eLL f] 1 (out.map eL) [] (· = [.own 1 ((out ++ gfX u f ns k).map eL) false])
 | 0,ns,out,hk,hm,hp,hl => by
  have hin:=hp [] (by simp [plcX])
  rw [List.append_nil] at hin
  have hc:=List.all_eq_true.1 hck ns hin
  rw [Bool.and_eq_true,decide_eq_true_eq] at hc
  have hg:=a_graftedF u f ns hu hf hsum (by omega) hm hc.1 hc.2
  have hX:gfX u f ns 0 = [canon (mixL u f ns)]:=by unfold gfX;simp [plcX]
  have hnl:((intN ns).map eI).length = f.length:=by rw [List.length_map];unfold intN;rw [List.length_map];omega
  have hfl:(f.map eL).length = f.length:=List.length_map _
  have hol:(out.map eL).length = out.length:=List.length_map _
  have q1:=big_le (n:=out.length + 1) (by omega)
  have q2:=big_mul (n:=out.length + 1) (c:=24) (by omega) (by omega)
  have bq:((f.length:Int) == (f.length:Int)) = true:=by simp
  rw [hX]
  simp only [eLL,eL] at hg
  refine AOw.of_runs (cfg_ok 38) Try.func115 rfl rfl rfl (by simp only [List.length_cons,List.length_nil];decide) ?_
  have hres:Try.f115.results.toList = [.tmp 8]:=rfl
  have hrts:Try.f115.resultTypes.toList = [30]:=rfl
  simp only [List.length_cons,List.length_nil,List.nil_append,List.cons_append,argRegs,argAV1,eL,eI,eLL,eB,Nat.zero_add,Nat.reduceAdd]
  intro M
  refine RunK.of ?_
  repeat' (first|with_reducible (first|refine Q1 ?_|refine Q2 ?_|refine Q3 ?_|refine Q4 ?_|refine Q5 ?_|refine Q6 ?_|refine Q7 ?_|refine Q8 ?_|refine Q9 ?_|refine Qa ?_|refine Qb ?_|refine Qc ?_|refine Qd ?_|refine Qe ?_|refine Qf ?_)|((with_reducible refine Qo ?_ ?_);focus rfl)|((with_reducible first|refine QT 25 (l:=?_) ?_ ?_|refine QF 25 (l:=?_) ?_ ?_);rotate_left 1;focus (simp only [Zu,Nat.reduceSub,Nat.reduceBEq];with_reducible rfl))|((with_reducible first|refine QS (cfg_ok 38) ((Tab.none.at' 116 hg)) (s':=?_) ?_ ?_|refine QC (b:=?_) ?_ ?_);rotate_left 1;focus ((with_reducible refine QW ?_);simp only [Zg,seval,if_true,if_false,reduceCtorEq,Nat.reduceEqDiff,eLL,eL,hnl,hfl,hol,q1,q2,bq];with_reducible rfl)))
  (refine Ends.mk (by simp) (rs:=?_) (ks:=?_) hres hrts ?_ ?_ ?_;rotate_left 2;(focus (simp only [Ze,Zg,seval,if_true,if_false,reduceCtorEq,Nat.reduceEqDiff,List.map_append,List.map_cons,List.map_nil,eL];with_reducible rfl));(focus simp);focus (first|with_reducible rfl|(simp only [Zv,List.map_append,List.map_cons,List.map_nil,eL];done)))
 | k + 1,ns,out,hk,hm,hp,hl => by
  have hcl:=a_cloneInt (intN ns) (by unfold intN;rw [List.length_map];omega)
  have hul:=lev8_len hu
  have hup:=(lev8_lev hu).pos
  have hnl:((intN ns).map eI).length = ns.length:=by rw [List.length_map];unfold intN;rw [List.length_map]
  have hfl:(f.map eL).length = f.length:=List.length_map _
  have hum:(u.map eI).length = u.length:=List.length_map _
  have bq:((ns.length:Int) == (f.length:Int)) = false:=by simp only [beq_eq_false_iff_ne,ne_eq];omega
  rw [Nat.pow_succ] at hl
  rw [gfX_succ]
  simp only [eL] at hcl
  refine AOw.of_runs (cfg_ok 38) Try.func115 rfl rfl rfl (by simp only [List.length_cons,List.length_nil];decide) ?_
  have hres:Try.f115.results.toList = [.tmp 8]:=rfl
  have hrts:Try.f115.resultTypes.toList = [30]:=rfl
  simp only [List.length_cons,List.length_nil,List.nil_append,List.cons_append,argRegs,argAV1,eL,eI,eLL,eB,Nat.zero_add,Nat.reduceAdd]
  intro M
  refine RunK.of ?_
  repeat' (first|with_reducible (first|refine Q1 ?_|refine Q2 ?_|refine Q3 ?_|refine Q4 ?_|refine Q5 ?_|refine Q6 ?_|refine Q7 ?_|refine Q8 ?_|refine Q9 ?_|refine Qa ?_|refine Qb ?_|refine Qc ?_|refine Qd ?_|refine Qe ?_|refine Qf ?_)|((with_reducible refine Qo ?_ ?_);focus rfl)|((with_reducible first|refine QT 25 (l:=?_) ?_ ?_|refine QF 25 (l:=?_) ?_ ?_);rotate_left 1;focus (simp only [Zu,Nat.reduceSub,Nat.reduceBEq];with_reducible rfl))|((with_reducible first|refine QS (cfg_ok 38) Tab.none (s':=?_) ?_ ?_|refine QC (b:=?_) ?_ ?_);rotate_left 1;focus ((with_reducible refine QW ?_);simp only [Zg,seval,if_true,if_false,reduceCtorEq,Nat.reduceEqDiff,eLL,eL,hnl,hfl,hum,bq];with_reducible rfl)))
  refine RunK.loop (β:=Nat) (γ:=Unit) (fun i => ⟨[(0,.c (.val (.sl 1 (u.map eI)))),(1,.c (.val (.sl 1 ((intN ns).map eI)))),(2,.c (.val (.sl 1 (f.map eL)))),(3,.c (.own 3 (out ++ gfXi u f ns k i).length)),(23,.c (.val (.int u.length))),(24,.c (.val (.int i)))],[(3,.row 1 ((out ++ gfXi u f ns k i).map eL) false)]⟩) (fun i => i ≤ u.length) (fun i => u.length - i)
   (fun _ => ⟨[(3,.c (.own 3 (out ++ gfXi u f ns k u.length).length))],[(3,.row 1 ((out ++ gfXi u f ns k u.length).map eL) false)]⟩) (fun _ => True) 0 (Nat.zero_le _) ?_ ?_ ?_
  ·have e0:out ++ gfXi u f ns k 0 = out:=by unfold gfXi;simp
   rw [e0]
   (repeat' (first|with_reducible refine Qn|((with_reducible refine Qr ?_ ?_);focus (first|with_reducible rfl|(simp only [Zz,Nat.reduceBEq,List.length_map,Int.natCast_zero];done)|rfl))|((with_reducible refine Qj (o':=?_) ?_ ?_ ?_);rotate_left 1;focus rfl)|((with_reducible refine Qw ?_ ?_);(focus (first|with_reducible rfl|(simp only [Zv,List.length_map,Int.natCast_zero];done)));focus (first|exact id|exact (fun h => nomatch h)|exact (fun _ => rfl)))))
  ·intro i hi
   have hi:i ≤ u.length:=hi
   have hw:=w64_succ (n:=i) (by omega)
   by_cases h:i < u.length
   ·have i1:((i:Int) < (u.length:Int)) = True:=eq_true (by omega)
    have hXl:=gfXi_len u f ns k i
    have hle:i * u.length ^ k + u.length ^ k ≤ u.length ^ k * u.length:=by
     rw [← Nat.succ_mul,Nat.mul_comm (u.length ^ k)]
     exact Nat.mul_le_mul_right _ h
    have hih:=a_graftAllF u f hu hf hsum hck hfl8 k (ns ++ [i]) (out ++ gfXi u f ns k i) (by simp;omega) (fun n hn => by
     rcases List.mem_append.1 hn with hn|hn
     ·exact hm n hn
     ·rw [List.mem_singleton] at hn;omega) (fun p hp' => by
     have:=hp (i :: p) (by
      show i :: p ∈ (List.range u.length).flatMap fun d => (plcX u.length k).map (d :: ·)
      exact List.mem_flatMap.2 ⟨i,List.mem_range.2 h,List.mem_map.2 ⟨p,hp',rfl⟩⟩)
     rw [List.append_assoc]
     exact this) (by rw [List.length_append,hXl];omega)
    have en:(intN (ns ++ [i])).map eI = (intN ns).map eI ++ [[D.int (i:Int)]]:=by unfold intN;simp [eI]
    rw [List.append_assoc,← gfXi_succ] at hih
    obtain ⟨X,hX⟩:∃ X,X = out ++ gfXi u f ns k i:=⟨_,rfl⟩
    rw [← hX] at hih ⊢
    simp only [eLL,eL] at hih
    rw [en] at hih
    have hil:((intN ns).map eI).length = ns.length:=hnl
    have q1:=big_le (n:=ns.length + 1) (by omega)
    have q2:=big_mul (n:=ns.length + 1) (c:=8) (by omega) (by omega)
    repeat' (first|with_reducible (first|refine Q1 ?_|refine Q2 ?_|refine Q3 ?_|refine Q4 ?_|refine Q5 ?_|refine Q6 ?_|refine Q7 ?_|refine Q8 ?_|refine Q9 ?_|refine Qa ?_|refine Qb ?_|refine Qc ?_|refine Qd ?_|refine Qe ?_|refine Qf ?_)|((with_reducible refine Qo ?_ ?_);focus rfl)|((with_reducible first|refine QT 25 (l:=?_) ?_ ?_|refine QF 25 (l:=?_) ?_ ?_);rotate_left 1;focus (simp only [Zu,Nat.reduceSub,Nat.reduceBEq];with_reducible rfl))|((with_reducible first|refine QS (cfg_ok 38) Tab.none (s':=?_) ?_ ?_|refine QC (b:=?_) ?_ ?_);rotate_left 1;focus ((with_reducible refine QW ?_);simp only [Zg,seval,if_true,if_false,reduceCtorEq,Nat.reduceEqDiff,i1];with_reducible rfl)))
    refine RunK.regCut (cfg_ok 38) (Tab.none.at' 166 hcl) 8 (s1:=?_) ?_ ?_
    rotate_left 1
    focus (refine Work.mk ?_;simp only [Zg,seval,if_true,if_false,reduceCtorEq,Nat.reduceEqDiff,hil,q1,q2];with_reducible rfl)
    simp only [List.toList_toArray,List.drop_succ_cons,List.drop_zero]
    refine ROps.frzs [32] ?_
    refine ROps.opsT (cfg_ok 38) (T:=Tab.none.own' 115 3 hih) (s':=?_) ?_ ?_
    rotate_left 1
    focus (simp only [Zg,seval,if_true,if_false,reduceCtorEq,Nat.reduceEqDiff,Tab.own',atOwn_eq,eL];with_reducible rfl)
    repeat' (first|with_reducible (first|refine Q1 ?_|refine Q2 ?_|refine Q3 ?_|refine Q4 ?_|refine Q5 ?_|refine Q6 ?_|refine Q7 ?_|refine Q8 ?_|refine Q9 ?_|refine Qa ?_|refine Qb ?_|refine Qc ?_|refine Qd ?_|refine Qe ?_|refine Qf ?_)|((with_reducible refine Qo ?_ ?_);focus rfl)|((with_reducible first|refine QT 25 (l:=?_) ?_ ?_|refine QF 25 (l:=?_) ?_ ?_);rotate_left 1;focus (simp only [Zu,Nat.reduceSub,Nat.reduceBEq];with_reducible rfl))|((with_reducible first|refine QS (cfg_ok 38) Tab.none (s':=?_) ?_ ?_|refine QC (b:=?_) ?_ ?_);rotate_left 1;focus ((with_reducible refine QW ?_);simp only [Zg,seval,if_true,if_false,reduceCtorEq,Nat.reduceEqDiff,hw];with_reducible rfl)))
    refine roundK.on (i + 1) ⟨h,by omega⟩ ?_
    (repeat' (first|with_reducible refine Qn|((with_reducible refine Qr ?_ ?_);focus (first|with_reducible rfl|(simp only [Zz,Nat.reduceBEq,List.length_map];done)|rfl))|((with_reducible refine Qj (o':=?_) ?_ ?_ ?_);rotate_left 1;focus rfl)|((with_reducible refine Qw ?_ ?_);(focus (first|with_reducible rfl|(simp only [Zv,List.length_map];done)));focus (first|exact id|exact (fun h => nomatch h)|exact (fun _ => rfl)))))
   ·have i1:((i:Int) < (u.length:Int)) = False:=eq_false (by omega)
    obtain rfl:i = u.length:=by omega
    repeat' (first|with_reducible (first|refine Q1 ?_|refine Q2 ?_|refine Q3 ?_|refine Q4 ?_|refine Q5 ?_|refine Q6 ?_|refine Q7 ?_|refine Q8 ?_|refine Q9 ?_|refine Qa ?_|refine Qb ?_|refine Qc ?_|refine Qd ?_|refine Qe ?_|refine Qf ?_)|((with_reducible refine Qo ?_ ?_);focus rfl)|((with_reducible first|refine QT 25 (l:=?_) ?_ ?_|refine QF 25 (l:=?_) ?_ ?_);rotate_left 1;focus (simp only [Zu,Nat.reduceSub,Nat.reduceBEq];with_reducible rfl))|((with_reducible first|refine QS (cfg_ok 38) Tab.none (s':=?_) ?_ ?_|refine QC (b:=?_) ?_ ?_);rotate_left 1;focus ((with_reducible refine QW ?_);simp only [Zg,seval,if_true,if_false,reduceCtorEq,Nat.reduceEqDiff,i1];with_reducible rfl)))
    refine roundK.out () trivial ?_
    (repeat' (first|with_reducible refine Qn|((with_reducible refine Qr ?_ ?_);focus (first|with_reducible rfl|(simp only [Zz,Nat.reduceBEq];done)|rfl))|((with_reducible refine Qj (o':=?_) ?_ ?_ ?_);rotate_left 1;focus rfl)|((with_reducible refine Qw ?_ ?_);(focus (first|with_reducible rfl|(simp only [Zv];done)));focus (first|exact id|exact (fun h => nomatch h)|exact (fun _ => rfl)))))
  ·rintro _ _
   repeat' (first|with_reducible (first|refine Q1 ?_|refine Q2 ?_|refine Q3 ?_|refine Q4 ?_|refine Q5 ?_|refine Q6 ?_|refine Q7 ?_|refine Q8 ?_|refine Q9 ?_|refine Qa ?_|refine Qb ?_|refine Qc ?_|refine Qd ?_|refine Qe ?_|refine Qf ?_)|((with_reducible refine Qo ?_ ?_);focus rfl)|((with_reducible first|refine QT 25 (l:=?_) ?_ ?_|refine QF 25 (l:=?_) ?_ ?_);rotate_left 1;focus (simp only [Zu,Nat.reduceSub,Nat.reduceBEq];with_reducible rfl))|((with_reducible first|refine QS (cfg_ok 38) Tab.none (s':=?_) ?_ ?_|refine QC (b:=?_) ?_ ?_);rotate_left 1;focus ((with_reducible refine QW ?_);simp only [Zg,seval,if_true,if_false,reduceCtorEq,Nat.reduceEqDiff];with_reducible rfl)))
   (refine Ends.mk (by simp) (rs:=?_) (ks:=?_) hres hrts ?_ ?_ ?_;rotate_left 2;(focus (simp only [Ze,Zg,seval,if_true,if_false,reduceCtorEq,Nat.reduceEqDiff];with_reducible rfl));(focus simp);focus (first|with_reducible rfl|(simp only [Zv];done)))
end Go.Proofs.Ytofpjonggpjneaa
namespace Go.Proofs.Ytofpjonggpjneaa
section
variable {κ:Type} (c:κ→κ→Int)
def putN:List (κ × Int)→Int→κ→List (κ × Int)
 | [],k,x => [(x,k)]
 | p :: L,k,x => if c x p.1 < 0 then (x,k) :: p :: L else if c x p.1 = 0 then (p.1,p.2 + k) :: L else p :: putN L k x
def expN (L:List (κ × Int)):List κ:=L.flatMap fun p => List.replicate p.2.toNat p.1
def NfN (L:List (κ × Int)):Prop:=L.Pairwise (fun p q => c p.1 q.1 < 0)∧∀ q ∈ L,1 ≤ q.2
def IsN (L:List (κ × Int)) (M:List κ):Prop:=NfN c L∧(expN L).Perm M
end
section
variable {κ:Type} {c:κ→κ→Int}
theorem expN_cons (p:κ × Int) (L:List (κ × Int)):expN (p :: L) = List.replicate p.2.toNat p.1 ++ expN L:=rfl
theorem expN_app (L M:List (κ × Int)):expN (L ++ M) = expN L ++ expN M:=by simp [expN]
theorem expN_mem {L:List (κ × Int)} {x:κ} (h:x ∈ expN L):∃ p ∈ L,p.1 = x:=by
 obtain ⟨p,hp,h⟩:=List.mem_flatMap.1 h
 exact ⟨p,hp,(List.eq_of_mem_replicate h).symm⟩
theorem mem_expN {L:List (κ × Int)} {p:κ × Int} (h:p ∈ L) (h1:1 ≤ p.2):p.1 ∈ expN L :=
 List.mem_flatMap.2 ⟨p,h,List.mem_replicate.2 ⟨by omega,rfl⟩⟩
theorem NfN.nil:NfN c []:=⟨List.Pairwise.nil,fun q hq => nomatch hq⟩
theorem IsN.nil:IsN c [] []:=⟨NfN.nil,List.Perm.refl _⟩
theorem IsN.perm {L:List (κ × Int)} {M M':List κ} (h:IsN c L M) (hp:M.Perm M'):IsN c L M':=⟨h.1,h.2.trans hp⟩
theorem NfN.tail {p:κ × Int} {L:List (κ × Int)} (h:NfN c (p :: L)):NfN c L:=⟨(List.pairwise_cons.1 h.1).2,fun q hq => h.2 q (List.mem_cons_of_mem _ hq)⟩
variable (hc:Cmp c)
include hc
theorem NfN.ext:∀ {L L':List (κ × Int)},NfN c L→NfN c L'→(expN L).Perm (expN L')→L = L'
 | [],[],_,_,_ => rfl
 | [],q :: L',_,h',hp => by
  have:=hp.length_eq
  have h1:=h'.2 q (by simp)
  rw [expN_cons,List.length_append,List.length_replicate] at this
  simp [expN] at this;omega
 | p :: L,[],h,_,hp => by
  have:=hp.length_eq
  have h1:=h.2 p (by simp)
  rw [expN_cons,List.length_append,List.length_replicate] at this
  simp [expN] at this;omega
 | p :: L,q :: L',h,h',hp => by
  have hp1:=h.2 p (by simp)
  have hq1:=h'.2 q (by simp)
  have low:∀ {p:κ × Int} {L:List (κ × Int)},NfN c (p :: L)→∀ x ∈ expN (p :: L),c p.1 x ≤ 0:=fun {p L} h x hx => by
   obtain ⟨r,hr,rfl⟩:=expN_mem hx
   rcases List.mem_cons.1 hr with rfl|hr
   ·rw [hc.refl];omega
   ·have:=(List.pairwise_cons.1 h.1).1 r hr;omega
  have e1:=low h q.1 (hp.mem_iff.2 (mem_expN (by simp) hq1))
  have e2:=low h' p.1 (hp.mem_iff.1 (mem_expN (by simp) hp1))
  have ek:p.1 = q.1:=by
   apply hc.zero
   rcases Int.lt_or_eq_of_le e1 with e|e
   ·have:=(hc.anti _ _).1 e;omega
   ·exact e
  have no:∀ {p:κ × Int} {L:List (κ × Int)},NfN c (p :: L)→p.1 ∉ expN L:=fun {p L} h hx => by
   obtain ⟨r,hr,e⟩:=expN_mem hx
   have:=(List.pairwise_cons.1 h.1).1 r hr
   rw [e,hc.refl] at this;omega
  have hcnt:∀ {p:κ × Int} {L:List (κ × Int)},NfN c (p :: L)→(expN (p :: L)).countP (fun x => decide (c p.1 x = 0)) = p.2.toNat:=fun {p L} h => by
   rw [expN_cons,List.countP_append,List.countP_replicate,if_pos (by simp [hc.refl])]
   have:(expN L).countP (fun x => decide (c p.1 x = 0)) = 0:=List.countP_eq_zero.2 fun x hx => by
    have:c p.1 x ≠ 0:=fun e => no h (by rw [hc.zero _ _ e];exact hx)
    simpa using this
   omega
  have c1:=hcnt h
  have c2:=hcnt h'
  rw [← ek,← hp.countP_eq] at c2
  have en:p.2 = q.2:=by omega
  have epq:p = q:=Prod.ext ek en
  subst epq
  rw [expN_cons,expN_cons,List.perm_append_left_iff] at hp
  rw [NfN.ext h.tail h'.tail hp]
theorem IsN.ext {L L':List (κ × Int)} {M M':List κ} (h:IsN c L M) (h':IsN c L' M') (hp:M.Perm M'):L = L' :=
 NfN.ext hc h.1 h'.1 (h.2.trans (hp.trans h'.2.symm))
theorem putN_exp:∀ (L:List (κ × Int)) (k:Int) (x:κ),(∀ q ∈ L,1 ≤ q.2)→1 ≤ k→(expN (putN c L k x)).Perm (expN L ++ List.replicate k.toNat x)
 | [],k,x,_,_ => by simp [putN,expN]
 | p :: L,k,x,h,hk => by
  unfold putN
  split
  ·rw [expN_cons];exact List.perm_append_comm
  ·split
   ·rename_i e
    rw [expN_cons,expN_cons,hc.zero _ _ e]
    have:=h p (by simp)
    show (List.replicate (p.2 + k).toNat p.1 ++ expN L).Perm _
    rw [show (p.2 + k).toNat = p.2.toNat + k.toNat by omega,← List.replicate_append_replicate,List.append_assoc,List.append_assoc]
    exact (List.perm_append_left_iff _).2 List.perm_append_comm
   ·rw [expN_cons,expN_cons,List.append_assoc]
    exact (List.perm_append_left_iff _).2 (putN_exp L k x (fun q hq => h q (by simp [hq])) hk)
omit hc in
theorem putN_mem:∀ (L:List (κ × Int)) (k:Int) (x:κ) {q:κ × Int},q ∈ putN c L k x→q.1 = x ∨ ∃ p ∈ L,p.1 = q.1
 | [],k,x,q,h => by
  obtain rfl:q = (x,k):=by simpa [putN] using h
  exact .inl rfl
 | p :: L,k,x,q,h => by
  unfold putN at h
  split at h
  ·rcases List.mem_cons.1 h with rfl|h
   ·exact .inl rfl
   ·exact .inr ⟨q,h,rfl⟩
  ·split at h
   ·rcases List.mem_cons.1 h with rfl|h
    ·exact .inr ⟨p,by simp,rfl⟩
    ·exact .inr ⟨q,by simp [h],rfl⟩
   ·rcases List.mem_cons.1 h with rfl|h
    ·exact .inr ⟨q,by simp,rfl⟩
    ·rcases putN_mem L k x h with h|⟨r,h1,h2⟩
     ·exact .inl h
     ·exact .inr ⟨r,by simp [h1],h2⟩
theorem putN_nf:∀ {L:List (κ × Int)} {k:Int} {x:κ},NfN c L→1 ≤ k→NfN c (putN c L k x)
 | [],k,x,_,hk => ⟨by simp [putN],fun q hq => by
   have:q = (x,k):=by simpa [putN] using hq
   rw [this];exact hk⟩
 | p :: L,k,x,h,hk => by
  have h1:=List.pairwise_cons.1 h.1
  have h2:=h.2 p (by simp)
  unfold putN
  split
  ·rename_i hlt
   refine ⟨List.pairwise_cons.2 ⟨fun q hq => ?_,h.1⟩,fun q hq => ?_⟩
   ·rcases List.mem_cons.1 hq with rfl|hq
    ·exact hlt
    ·exact hc.lt_tr hlt (h1.1 q hq)
   ·rcases List.mem_cons.1 hq with rfl|hq
    ·exact hk
    ·exact h.2 q hq
  ·split
   ·refine ⟨List.pairwise_cons.2 ⟨h1.1,h1.2⟩,fun q hq => ?_⟩
    rcases List.mem_cons.1 hq with rfl|hq
    ·show 1 ≤ p.2 + k;omega
    ·exact h.2 q (by simp [hq])
   ·rename_i n1 n2
    have ih:=putN_nf (x:=x) h.tail hk
    refine ⟨List.pairwise_cons.2 ⟨fun q hq => ?_,ih.1⟩,fun q hq => ?_⟩
    ·rcases putN_mem L k x hq with e|⟨r,hr,e⟩
     ·rw [e,hc.anti];omega
     ·rw [← e];exact h1.1 r hr
    ·rcases List.mem_cons.1 hq with rfl|hq
     ·exact h2
     ·exact ih.2 q hq
theorem IsN.put {L:List (κ × Int)} {M:List κ} (h:IsN c L M) {k:Int} {x:κ} (hk:1 ≤ k):IsN c (putN c L k x) (M ++ List.replicate k.toNat x) :=
 ⟨putN_nf hc h.1 hk,(putN_exp hc L k x h.1.2 hk).trans ((List.perm_append_right_iff _).2 h.2)⟩
theorem IsN.puts:∀ (P:List (κ × Int)) {L:List (κ × Int)} {M:List κ},IsN c L M→(∀ p ∈ P,1 ≤ p.2)→IsN c (P.foldl (fun s p => putN c s p.2 p.1) L) (M ++ expN P)
 | [],L,M,h,_ => by simpa [expN] using h
 | p :: P,L,M,h,hp => by
  have:=IsN.puts P (h.put hc (hp p (by simp)) (x:=p.1)) (fun q hq => hp q (by simp [hq]))
  rw [expN_cons,← List.append_assoc]
  exact this
omit hc
theorem IsN.cnt {L:List (κ × Int)} {M:List κ} (h:IsN c L M):∀ p ∈ L,1 ≤ p.2∧p.2 ≤ M.length:=fun p hp => by
 have h1:=h.1.2 p hp
 refine ⟨h1,?_⟩
 have hl:=h.2.length_eq
 obtain ⟨s,t,rfl⟩:=List.append_of_mem hp
 rw [expN_app,expN_cons,List.length_append,List.length_append,List.length_replicate] at hl
 omega
theorem IsN.len {L:List (κ × Int)} {M:List κ} (h:IsN c L M):L.length ≤ M.length:=by
 rw [← h.2.length_eq]
 have key:∀ (L:List (κ × Int)),(∀ p ∈ L,1 ≤ p.2)→L.length ≤ (expN L).length:=by
  intro L
  induction L with
  | nil => intro _;exact Nat.le_refl _
  | cons p L ih =>
   intro hp
   have h1:=hp p (by simp)
   have h2:=ih (fun q hq => hp q (by simp [hq]))
   rw [expN_cons,List.length_append,List.length_replicate,List.length_cons];omega
 exact key L h.1.2
theorem IsN.key {L:List (κ × Int)} {M:List κ} (h:IsN c L M):∀ p ∈ L,p.1 ∈ M:=fun p hp => h.2.mem_iff.1 (mem_expN hp (h.1.2 p hp))
def stepN (c:κ→κ→Int) (out:List (κ × Int)) (x:κ):List (κ × Int):=match out.getLast? with
 | some p => if c p.1 x = 0 then out.dropLast ++ [(p.1,p.2 + 1)] else out ++ [(x,1)]
 | none => [(x,1)]
def runsN (c:κ→κ→Int) (M:List κ):List (κ × Int):=M.foldl (stepN c) []
theorem stepN_eq {c:κ→κ→Int} (out:List (κ × Int)) (p:κ × Int) (x:κ) (h:c p.1 x = 0):stepN c (out ++ [p]) x = out ++ [(p.1,p.2 + 1)]:=by simp [stepN,h]
theorem stepN_ne {c:κ→κ→Int} (out:List (κ × Int)) (p:κ × Int) (x:κ) (h:¬ c p.1 x = 0):stepN c (out ++ [p]) x = out ++ [p] ++ [(x,1)]:=by simp [stepN,h]
theorem runsN_snoc (c:κ→κ→Int) (M:List κ) (x:κ):runsN c (M ++ [x]) = stepN c (runsN c M) x:=by unfold runsN;rw [List.foldl_append];rfl
theorem snocN {α:Type} {l:List α} (h:l ≠ []):∃ p z,l = p ++ [z]:=⟨l.dropLast,l.getLast h,(List.dropLast_concat_getLast h).symm⟩
include hc
theorem runsN_is:∀ (n:Nat) (M:List κ),M.length = n→M.Pairwise (fun a b => c a b ≤ 0)→IsN c (runsN c M) M
 | 0,M,hn,_ => by
  obtain rfl:=List.eq_nil_of_length_eq_zero hn
  exact IsN.nil
 | n + 1,M,hn,hM => by
  obtain ⟨M,x,rfl⟩:=snocN (l:=M) (by rintro rfl;cases hn)
  rw [List.pairwise_append] at hM
  have ih:=runsN_is n M (by simpa using hn) hM.1
  have hx:∀ a ∈ M,c a x ≤ 0:=fun a ha => hM.2.2 a ha x (by simp)
  rw [runsN_snoc]
  by_cases h0:runsN c M = []
  ·rw [h0] at ih ⊢
   obtain rfl:M = []:=List.nil_perm.1 ih.2
   exact ⟨⟨by simp [stepN],fun q hq => by
    have:q = (x,1):=by simpa [stepN] using hq
    rw [this];exact Int.le_refl _⟩,by simp [stepN,expN]⟩
  ·obtain ⟨out,p,e⟩:=snocN h0
   rw [e] at ih ⊢
   obtain ⟨⟨i1,i2⟩,i3⟩:=ih
   rw [List.pairwise_append] at i1
   have hp1:=i2 p (by simp)
   have hpx:=hx p.1 (i3.mem_iff.1 (mem_expN (by simp) hp1))
   by_cases hq:c p.1 x = 0
   ·rw [stepN_eq _ _ _ hq]
    refine ⟨⟨List.pairwise_append.2 ⟨i1.1,by simp,fun a ha b hb => ?_⟩,fun q hq => ?_⟩,?_⟩
    ·obtain rfl:=List.mem_singleton.1 hb
     exact i1.2.2 a ha p (by simp)
    ·rcases List.mem_append.1 hq with hq|hq
     ·exact i2 q (by simp [hq])
     ·obtain rfl:=List.mem_singleton.1 hq
      show 1 ≤ p.2 + 1;omega
    ·obtain rfl:=hc.zero _ _ hq
     rw [expN_app] at i3 ⊢
     have:expN [(p.1,p.2 + 1)] = expN [p] ++ [p.1]:=by
      show List.replicate (p.2 + 1).toNat p.1 ++ [] = (List.replicate p.2.toNat p.1 ++ []) ++ [p.1]
      rw [show (p.2 + 1).toNat = p.2.toNat + 1 by omega,List.replicate_succ'];simp
     rw [this,← List.append_assoc]
     exact (List.perm_append_right_iff _).2 i3
   ·rw [stepN_ne _ _ _ hq]
    refine ⟨⟨List.pairwise_append.2 ⟨List.pairwise_append.2 i1,by simp,fun a ha b hb => ?_⟩,fun q hq => ?_⟩,?_⟩
    ·obtain rfl:=List.mem_singleton.1 hb
     show c a.1 x < 0
     have hpx':c p.1 x < 0:=by omega
     rcases List.mem_append.1 ha with ha|ha
     ·exact hc.lt_tr (i1.2.2 a ha p (by simp)) hpx'
     ·obtain rfl:=List.mem_singleton.1 ha
      exact hpx'
    ·rcases List.mem_append.1 hq with hq|hq
     ·exact i2 q hq
     ·obtain rfl:=List.mem_singleton.1 hq
      exact Int.le_refl _
    ·rw [expN_app]
     exact (List.perm_append_right_iff _).2 i3
theorem runsN_sorted {S M:List κ} (hp:S.Perm M) (hs:S.Pairwise (fun a b => c a b ≤ 0)):IsN c (runsN c S) M:=(runsN_is hc _ S rfl hs).perm hp
end
end Go.Proofs.Ytofpjonggpjneaa
namespace Go.Proofs.Ytofpjonggpjneaa
open Go.RowKit
theorem putC_putN:∀ (s:List (List Int × Int)) (t:List Int) (n:Int),putC s t n = putN cmpT s n t
 | [],_,_ => rfl
 | (x,c) :: s,t,n => by
  unfold putC putN
  have ha:=cmpT_cmp.anti x t
  by_cases h1:cmpT x t < 0
  ·have h2:¬ cmpT t x < 0:=by omega
   have h3:¬ cmpT t x = 0:=by omega
   rw [if_pos h1,if_neg h2,if_neg h3,putC_putN s t n]
  ·rw [if_neg h1]
   by_cases h2:x = t
   ·subst h2
    have:=cmpT_cmp.refl x
    rw [if_pos rfl,if_neg (by omega),if_pos this]
   ·have h3:=cmpT_eq_of h1 h2
    rw [if_neg h2,if_pos h3]
theorem foldl_putN (ts:List (List Int)):∀ s,ts.foldl (fun s t => putC s t 1) s = (ts.map fun t => (t,(1:Int))).foldl (fun s p => putN cmpT s p.2 p.1) s:=by
 induction ts with
 | nil => intro s;rfl
 | cons t ts ih => intro s;rw [List.foldl_cons,List.map_cons,List.foldl_cons,ih,putC_putN]
theorem expN_one (ts:List (List Int)):expN (ts.map fun t => (t,(1:Int))) = ts:=by
 induction ts with
 | nil => rfl
 | cons t ts ih => rw [List.map_cons,expN_cons,ih];rfl
theorem sumOf_is (ts:List (List Int)):IsN cmpT (sumOf ts) ts:=by
 have h:=IsN.puts (c:=cmpT) (hc:=cmpT_cmp) (ts.map fun t => (t,(1:Int))) IsN.nil (by simp)
 rw [expN_one,List.nil_append,← foldl_putN] at h
 exact h
theorem stepC_stepN (out:List (List Int × Int)) (x:List Int):stepC id out x = stepN cmpT out x:=by
 unfold stepC stepN
 cases out.getLast? with
 | none => rfl
 | some z =>
  show (if z.1 = x then _ else _) = (if cmpT z.1 x = 0 then _ else _)
  by_cases h:z.1 = x
  ·rw [if_pos h,if_pos (by rw [h];exact cmpT_cmp.refl x)]
  ·rw [if_neg h,if_neg (fun e => h (cmpT_cmp.zero _ _ e))]
theorem runsF_runsN (ts:List (List Int)):runsF id ts = runsN cmpT ts:=by
 unfold runsF runsN
 have:(stepC (id:List Int→List Int)) = stepN cmpT:=by funext o x;exact stepC_stepN o x
 rw [this]
theorem cntOf_is (ts:List (List Int)):IsN cmpT (cntOf ts) ts:=by
 unfold cntOf
 rw [runsF_runsN]
 exact runsN_sorted cmpT_cmp (sortC_perm _) (sortC_sorted cmpT_cmp _)
theorem cntOf_sumOf (ts:List (List Int)):cntOf ts = sumOf ts:=IsN.ext cmpT_cmp (cntOf_is ts) (sumOf_is ts) (List.Perm.refl _)
end Go.Proofs.Ytofpjonggpjneaa
namespace Go.Proofs.Ytofpjonggpjneaa
abbrev Spl:=List (List Int) × List (List Int)
def catS (s c:Spl):Spl:=(s.1 ++ c.1,s.2 ++ c.2)
def prodS (Ls:List (List Spl)):List Spl:=Ls.foldl (fun A L => A.flatMap fun s => L.map (catS s)) [([],[])]
theorem flat_comm {α β γ:Type} (f:α→β→γ):∀ (A:List α) (B:List β),(A.flatMap fun a => B.map (f a)).Perm (B.flatMap fun b => A.map fun a => f a b)
 | [],B => by simp
 | a :: A,B => by
  rw [List.flatMap_cons]
  refine ((List.perm_append_left_iff _).2 (flat_comm f A B)).trans ?_
  clear flat_comm
  induction B with
  | nil => simp
  | cons b B ih =>
   simp only [List.map_cons,List.flatMap_cons,List.cons_append]
   refine List.Perm.cons _ ?_
   refine List.Perm.trans ?_ ((List.perm_append_left_iff _).2 ih)
   rw [← List.append_assoc,← List.append_assoc]
   exact (List.perm_append_right_iff _).2 List.perm_append_comm
def splitF:Nat→List Int→List Spl
 | 0,_ => []
 | n + 1,t => ((prodS ((brs t).map (splitF n))).map fun s => (s.1,[canon (rootOn s.2)])) ++ [([canon t],[])]
def split (t:List Int):List Spl:=splitF t.length t
end Go.Proofs.Ytofpjonggpjneaa

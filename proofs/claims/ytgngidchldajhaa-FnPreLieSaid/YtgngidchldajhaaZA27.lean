/- Lemmas (27). -/
import Derived.Test.YtgngidchldajhaaZA5
import Derived.Test.YtgngidchldajhaaZA7
import Derived.Test.YtgngidchldajhaaZA10
import Derived.Test.YtgngidchldajhaaZA11
import Derived.Test.YtgngidchldajhaaZA13
import Derived.Test.YtgngidchldajhaaZA14
import Derived.Test.YtgngidchldajhaaZA15
import Derived.Test.YtgngidchldajhaaZA16
import Derived.Test.YtgngidchldajhaaZA17
import Derived.Test.YtgngidchldajhaaZA18
import Derived.Test.YtgngidchldajhaaZA19
import Derived.Test.YtgngidchldajhaaZA20
import Derived.Test.YtgngidchldajhaaZA21
import Derived.Test.YtgngidchldajhaaZA25
import Derived.Test.YtgngidchldajhaaZA26
set_option linter.unusedSimpArgs false
set_option linter.unusedVariables false
namespace Go.Proofs.Ytgngidchldajhaa
open Go.RowKit
theorem c_symMerge (g:Nat) (c:List Int→List Int→Int) (hc:Cmp c) (ok:List Int→Prop) (eg:∀ args w,(callFunc g args).run Try.prog w = .ok (.enter g args) w) (hcmp:CmpAsk Try.prog g c ok):∀ N,MrgIH N g c ok
 | 0 => fun _ _ _ _ _ _ _ _ h => absurd h (Nat.not_lt_zero _)
 | N + 1 => fun a m b v xs lo hi w hN ho hok h1 h2 ham hmb hb hsz => by
  by_cases e1:m = a + 1
  ·exact c_symMerge1 g c hc ok eg hcmp a m b v xs lo hi w ho hok h1 h2 ham hmb hb hsz e1
  by_cases e2:b = m + 1
  ·exact c_symMerge2 g c hc ok eg hcmp a m b v xs lo hi w ho hok h1 h2 ham hmb hb hsz e2 e1
  by_cases e3:(a + b) / 2 < m
  ·exact c_symMerge3a g c hc ok eg hcmp a m b v xs lo hi w ho hok h1 h2 ham hmb hb hsz N (by omega) (c_symMerge g c hc ok eg hcmp N) e1 e2 e3
  ·exact c_symMerge3b g c hc ok eg hcmp a m b v xs lo hi w ho hok h1 h2 ham hmb hb hsz N (by omega) (c_symMerge g c hc ok eg hcmp N) e1 e2 e3
end Go.Proofs.Ytgngidchldajhaa
namespace Go.Proofs.Ytgngidchldajhaa
open Go.RowKit
section
variable {α:Type} {c:α→α→Int} {xs ys zs:List α}
def Mul (s a:Nat):Prop:=∃ k,a = k * s
theorem Mul.zero (s:Nat):Mul s 0:=⟨0,by simp⟩
theorem Mul.add {s a:Nat} (h:Mul s a):Mul s (a + s):=by obtain ⟨k,rfl⟩:=h;exact ⟨k + 1,by rw [Nat.succ_mul]⟩
theorem Mul.half {s t a:Nat} (ht:t = 2 * s) (h:Mul t a):Mul s a:=by obtain ⟨k,rfl⟩:=h;exact ⟨k * 2,by rw [ht,Nat.mul_assoc]⟩
theorem Mul.gap {t x a:Nat} (h:Mul t x) (k:Mul t a) (hlt:x < a):x + t ≤ a:=by
 obtain ⟨i,rfl⟩:=h
 obtain ⟨j,rfl⟩:=k
 have hij:i < j:=Nat.lt_of_not_le fun h => by have:=Nat.mul_le_mul_right t h;omega
 have:=Nat.mul_le_mul_right t (show i + 1 ≤ j from hij)
 rw [Nat.succ_mul] at this
 exact this
def Blk (c:α→α→Int) (s n:Nat) (xs:List α):Prop:=∀ x,Mul s x→SegOk c x (min (x + s) n) xs
def InB (c:α→α→Int) (s a:Nat) (xs:List α):Prop:=∀ x,Mul s x→x < a→SegOk c x (x + s) xs
theorem InB.zero (s:Nat):InB c s 0 xs:=fun _ _ h => absurd h (Nat.not_lt_zero _)
theorem InB.step {s a:Nat} (h:InB c s a xs) (ha:Mul s a) (hp:PermIn a (a + s) xs ys) (hs:SegOk c a (a + s) ys):InB c s (a + s) ys:=by
 intro x hx hlt
 by_cases e:x < a
 ·exact (h x hx e).perm hp (.inl (hx.gap ha e))
 ·by_cases e2:x = a
  ·subst e2;exact hs
  ·have:=ha.gap hx (by omega);omega
theorem InB.last {s a n:Nat} (h:InB c s a xs) (ha:Mul s a) (han:a ≤ n) (hn:n < a + s) (hp:PermIn a n xs ys) (hs:SegOk c a n ys):Blk c s n ys:=by
 intro x hx
 by_cases e:x < a
 ·have:=hx.gap ha e
  rw [Nat.min_eq_left (by omega)]
  exact (h x hx e).perm hp (.inl this)
 ·by_cases e2:x = a
  ·subst e2;rw [Nat.min_eq_right (by omega)];exact hs
  ·have:=ha.gap hx (by omega)
   intro p q hp hq h1 h2 h3
   omega
def Ph (c:α→α→Int) (s t a n:Nat) (xs:List α):Prop:=InB c t a xs∧∀ x,Mul s x→a ≤ x→SegOk c x (min (x + s) n) xs
theorem Ph.start {s t n:Nat} (h:Blk c s n xs):Ph c s t 0 n xs:=⟨.zero t,fun x hx _ => h x hx⟩
theorem Ph.one {s t a n:Nat} (ht:t = 2 * s) (h:Ph c s t a n xs) (ha:Mul t a) (hm:a + s ≤ n):SegOk c a (a + s) xs:=by
 have:=h.2 a (ha.half ht) (Nat.le_refl _)
 rwa [Nat.min_eq_left hm] at this
theorem Ph.two {s t a n:Nat} (ht:t = 2 * s) (h:Ph c s t a n xs) (ha:Mul t a) (b:Nat) (hb:b ≤ n) (hb2:b ≤ a + s + s):SegOk c (a + s) b xs :=
 (h.2 (a + s) (ha.half ht).add (by omega)).sub (Nat.le_refl _) (by omega)
theorem Ph.step {s t a n:Nat} (h:Ph c s t a n xs) (ha:Mul t a) (hp:PermIn a (a + t) xs ys) (hs:SegOk c a (a + t) ys):Ph c s t (a + t) n ys :=
 ⟨h.1.step ha hp hs,fun x hx hle => (h.2 x hx (by omega)).perm hp (.inr hle)⟩
theorem Ph.last2 {s t a n:Nat} (h:Ph c s t a n xs) (ha:Mul t a) (han:a ≤ n) (hn:n < a + t) (hp:PermIn a n xs ys) (hs:SegOk c a n ys):Blk c t n ys:=h.1.last ha han hn hp hs
theorem Ph.last1 {s t a n:Nat} (ht:t = 2 * s) (h:Ph c s t a n xs) (ha:Mul t a) (han:a ≤ n) (hn:n < a + t) (hm:n ≤ a + s):Blk c t n xs :=
 h.1.last ha han hn (PermIn.refl _ _ _) (by have:=h.2 a (ha.half ht) (Nat.le_refl _);rwa [Nat.min_eq_right hm] at this)
end
set_option maxRecDepth 100000 in
set_option maxHeartbeats 16000000 in
theorem c_stableCmpB (g:Nat) (c:List Int→List Int→Int) (hc:Cmp c) (ok:List Int→Prop) (eg:∀ args w,(callFunc g args).run Try.prog w = .ok (.enter g args) w) (hcmp:CmpAsk Try.prog g c ok)
  (v:Value) (xs:List (List Int)) (n:Nat) (hn:n = xs.length) (lo hi:Nat) (w:World) (ho:Own (RS (RS RI)) lo hi w [v] xs) (hok:∀ x ∈ xs,ok x) (hsz:xs.length ≤ 1000000000) :
  Calls Try.prog 116 #[v,.int .i64 n,.func (.func g) #[] #[]] w (Sorts c v xs lo hi w):=by
 have HIS:Hid (∀ (a b:Nat) (ys:List (List Int)) (w:World),Own (RS (RS RI)) lo hi w [v] ys→(∀ x ∈ ys,ok x)→a ≤ b→b ≤ ys.length→ys.length ≤ 1000000000→Calls Try.prog 119 #[v,.int .i64 a,.int .i64 b,.func (.func g) #[] #[]] w fun e w' => e = .returned (.tuple #[])∧∃ zs,PermIn a b ys zs∧SegOk c a b zs∧Own (RS (RS RI)) lo hi w' [v] zs∧Chg lo hi w w') :=
  Lib.hid fun a b ys w h1 h2 h3 h4 h5 => c_insertionSort g c hc ok eg hcmp a b v ys lo hi w h1 h2 h3 h4 h5
 have HSM:=Lib.hid (c_symMerge g c hc ok eg hcmp)
 have HC:=Lib.hid hc
 have HK:=Lib.hid hok
 have S0:=Lib.hid ho
 have HN:=Lib.hid hn
 have hnz:n ≤ 1000000000:=by omega
 obtain ⟨oa,cap,rfl,hv1,hv2⟩:=ho.val
 obtain ⟨L,hL⟩:∃ L,L = xs.length:=⟨_,rfl⟩
 rw [← hL] at S0 HIS ⊢
 clear hcmp hok ho eg hc hn hv1 hv2 hsz hL
 go_enter Try.func116,Try.ntmps116
 go_wp2_with fail
 go_loopg [7,8] n (fun g1 va vb wr => ∃ (a b:Nat) (ys:List (List Int)),va = .int .i64 a∧vb = .int .i64 b∧a ≤ n∧n - a ≤ g1∧Hid (b = a + 20∧Mul 20 a∧PermIn 0 n xs ys∧InB c 20 a ys∧Own (RS (RS RI)) lo hi wr [.slice oa L cap] ys∧Chg lo hi w wr))
 case atStart => exact ⟨0,20,xs,rfl,rfl,Nat.zero_le _,by omega,Lib.hid ⟨rfl,.zero 20,PermIn.refl _ _ _,.zero 20,S0.out,Chg.refl _ _ _⟩⟩
 case round =>
  clear S0
  obtain ⟨a,b,ys,rfl,rfl,han,hg1,HO⟩:=hrel
  have hyl:ys.length = n:=by rw [HO.out.2.2.1.len];exact HN.out.symm
  have HYK:Hid (∀ x ∈ ys,ok x):=Lib.hid fun x hx => HK.out x (HO.out.2.2.1.perm.mem_iff.1 hx)
  by_cases hlt:b ≤ n
  ·have hltz:(b:Int) ≤ (n:Int):=by omega
   have hba:=HO.out.1
   obtain ⟨b2,hb2⟩:∃ b2,b2 = b + 20:=⟨_,rfl⟩
   have wb:IntKind.i64.wrap ((b:Int) + 20) = (b2:Int):=by rw [IntWalk.i64_in _ (by omega)];omega
   have HI:=Lib.hid (HIS.out a b ys wr HO.out.2.2.2.2.1 HYK.out (by omega) (by omega) (by omega))
   have hb3:=Lib.hid hb2
   clear hb2 hba
   go_wp2_with (go_at_call 119;refine HI.out.mono ?_;rintro e w' ⟨rfl,zs,z1,z2,z3,z4⟩)
   have HZ:Hid (b2 = b + 20∧Mul 20 b∧PermIn 0 n xs zs∧InB c 20 b zs∧Own (RS (RS RI)) lo hi w' [.slice oa L cap] zs∧Chg lo hi w w'):=Lib.hid (by
    have hba:=HO.out.1
    refine ⟨hb3.out,by rw [hba];exact HO.out.2.1.add,HO.out.2.2.1.trans (z1.mono (Nat.zero_le _) hlt),?_,z3,HO.out.2.2.2.2.2.trans z4⟩
    rw [hba]
    rw [hba] at z1 z2
    exact HO.out.2.2.2.1.step HO.out.2.1 z1 z2)
   have hba:=HO.out.1
   clear z1 z2 z3 z4 HI HO hb3 wb
   go_wp2_with fail
   go_roundg (n - b)
   case measure => omega
   case rel => exact ⟨b,b2,zs,rfl,rfl,hlt,Nat.le_refl _,HZ⟩
  ·have hltz:¬ (b:Int) ≤ (n:Int):=by omega
   have hba:=HO.out.1
   have HI:=Lib.hid (HIS.out a n ys wr HO.out.2.2.2.2.1 HYK.out han (by omega) (by omega))
   clear hba
   go_wp2_with (go_at_call 119;refine HI.out.mono ?_;rintro e w1 ⟨rfl,zs,z1,z2,z3,z4⟩)
   have HZ:Hid (PermIn 0 n xs zs∧Blk c 20 n zs∧Own (RS (RS RI)) lo hi w1 [.slice oa L cap] zs∧Chg lo hi w w1):=Lib.hid
    ⟨HO.out.2.2.1.trans (z1.mono (Nat.zero_le _) (Nat.le_refl _)),HO.out.2.2.2.1.last HO.out.2.1 han (by have:=HO.out.1;omega) z1 z2,z3,HO.out.2.2.2.2.2.trans z4⟩
   clear z1 z2 z3 z4 HI HO HYK hyl
   go_loopg [6] n (fun g2 vs wr => ∃ (s:Nat) (us:List (List Int)),vs = .int .i64 s∧20 ≤ s∧s ≤ 2 * n + 20∧n - s ≤ g2∧Hid (PermIn 0 n xs us∧Blk c s n us∧Own (RS (RS RI)) lo hi wr [.slice oa L cap] us∧Chg lo hi w wr))
   case atStart => exact ⟨20,zs,rfl,Nat.le_refl _,by omega,by omega,HZ⟩
   case round =>
    clear HZ
    obtain ⟨s,us,rfl,hs20,hs2,hg2,HU⟩:=hrel
    by_cases hsn:s < n
    ·have hsnz:(s:Int) < (n:Int):=by omega
     obtain ⟨t,ht⟩:∃ t,t = 2 * s:=⟨_,rfl⟩
     have wt:IntKind.i64.wrap (2 * (s:Int)) = (t:Int):=by rw [IntWalk.i64_in _ (by omega)];omega
     have wt2:IntKind.i64.wrap ((s:Int) * 2) = (t:Int):=by rw [IntWalk.i64_in _ (by omega)];omega
     have ht2:t ≤ 2 * n:=by omega
     have hst:s < t:=by omega
     have HT:=Lib.hid ht
     clear ht
     go_wp2_with fail
     go_loopg [7,8] n (fun g3 va vb wr => ∃ (a b:Nat) (ys:List (List Int)),va = .int .i64 a∧vb = .int .i64 b∧a ≤ n∧n - a ≤ g3∧Hid (b = a + t∧Mul t a∧PermIn 0 n xs ys∧Ph c s t a n ys∧Own (RS (RS RI)) lo hi wr [.slice oa L cap] ys∧Chg lo hi w wr))
     case atStart => exact ⟨0,t,us,rfl,by first|rfl|go_num,Nat.zero_le _,by omega,Lib.hid ⟨by omega,.zero t,HU.out.1,.start HU.out.2.1,HU.out.2.2.1,HU.out.2.2.2⟩⟩
     case round =>
      clear HU
      obtain ⟨a,b,ys,rfl,rfl,han,hg3,HO⟩:=hrel
      have hyl:ys.length = n:=by rw [HO.out.2.2.1.len];exact HN.out.symm
      have HYK:Hid (∀ x ∈ ys,ok x):=Lib.hid fun x hx => HK.out x (HO.out.2.2.1.perm.mem_iff.1 hx)
      obtain ⟨m,hm⟩:∃ m,a + s = m:=⟨_,rfl⟩
      have wm:IntKind.i64.wrap ((a:Int) + (s:Int)) = (m:Int):=i64_add hm (by omega)
      by_cases hlt:b ≤ n
      ·have hltz:(b:Int) ≤ (n:Int):=by omega
       have hba:=HO.out.1
       have hto:=HT.out
       obtain ⟨b2,hb2⟩:∃ b2,b + t = b2:=⟨_,rfl⟩
       have wb:IntKind.i64.wrap ((b:Int) + (t:Int)) = (b2:Int):=i64_add hb2 (by omega)
       have HI:=Lib.hid (HSM.out (b - a + 1) a m b (.slice oa L cap) ys lo hi wr (by omega) HO.out.2.2.2.2.1 HYK.out (by rw [← hm];exact HO.out.2.2.2.1.one hto HO.out.2.1 (by omega)) (by rw [← hm];exact HO.out.2.2.2.1.two hto HO.out.2.1 b hlt (by omega)) (by omega) (by omega) (by omega) (by omega))
       have hb3:=Lib.hid hb2
       clear hb2 hba hto hm
       go_wp2_with (go_at_call 130;refine HI.out.mono ?_;rintro e w' ⟨rfl,zs,z1,z2,z3,z4⟩)
       have HZ:Hid (b2 = b + t∧Mul t b∧PermIn 0 n xs zs∧Ph c s t b n zs∧Own (RS (RS RI)) lo hi w' [.slice oa L cap] zs∧Chg lo hi w w'):=Lib.hid (by
        have hba:=HO.out.1
        refine ⟨hb3.out.symm,by rw [hba];exact HO.out.2.1.add,HO.out.2.2.1.trans (z1.mono (Nat.zero_le _) hlt),?_,z3,HO.out.2.2.2.2.2.trans z4⟩
        rw [hba]
        rw [hba] at z1 z2
        exact HO.out.2.2.2.1.step HO.out.2.1 z1 z2)
       have hba:=HO.out.1
       clear z1 z2 z3 z4 HI HO hb3 wm
       go_wp2_with fail
       go_roundg (n - b)
       case measure => omega
       case rel => exact ⟨b,b2,zs,rfl,by first|rfl|go_num,hlt,Nat.le_refl _,HZ⟩
      ·have hltz:¬ (b:Int) ≤ (n:Int):=by omega
       by_cases hmn:m < n
       ·have hmnz:(m:Int) < (n:Int):=by omega
        have hba:=HO.out.1
        have hto:=HT.out
        have HI:=Lib.hid (HSM.out (n - a + 1) a m n (.slice oa L cap) ys lo hi wr (by omega) HO.out.2.2.2.2.1 HYK.out (by rw [← hm];exact HO.out.2.2.2.1.one hto HO.out.2.1 (by omega)) (by rw [← hm];exact HO.out.2.2.2.1.two hto HO.out.2.1 n (Nat.le_refl _) (by omega)) (by omega) (by omega) (by omega) (by omega))
        clear hba hto hm
        go_wp2_with (go_at_call 130;refine HI.out.mono ?_;rintro e w' ⟨rfl,zs,z1,z2,z3,z4⟩)
        have HZ:Hid (PermIn 0 n xs zs∧Blk c t n zs∧Own (RS (RS RI)) lo hi w' [.slice oa L cap] zs∧Chg lo hi w w'):=Lib.hid
         ⟨HO.out.2.2.1.trans (z1.mono (Nat.zero_le _) (Nat.le_refl _)),HO.out.2.2.2.1.last2 HO.out.2.1 han (by have:=HO.out.1;omega) z1 z2,z3,HO.out.2.2.2.2.2.trans z4⟩
        clear z1 z2 z3 z4 HI HO wm
        go_wp2_with fail
        go_roundg (n - t)
        case measure => omega
        case rel => exact ⟨t,zs,by first|rfl|go_num,by omega,by omega,Nat.le_refl _,HZ⟩
       ·have hmnz:¬ (m:Int) < (n:Int):=by omega
        have HZ:Hid (PermIn 0 n xs ys∧Blk c t n ys∧Own (RS (RS RI)) lo hi wr [.slice oa L cap] ys∧Chg lo hi w wr):=Lib.hid
         ⟨HO.out.2.2.1,HO.out.2.2.2.1.last1 HT.out HO.out.2.1 han (by have:=HO.out.1;omega) (by omega),HO.out.2.2.2.2.1,HO.out.2.2.2.2.2⟩
        clear HO hm
        go_wp2_with fail
        go_roundg (n - t)
        case measure => omega
        case rel => exact ⟨t,ys,by first|rfl|go_num,by omega,by omega,Nat.le_refl _,HZ⟩
    ·have hsnz:¬ (s:Int) < (n:Int):=by omega
     go_wp2_with fail
     go_end0
     refine ⟨rfl,?_,HU.out.2.2.2⟩
     have hseg:SegOk c 0 n us:=by
      have:=HU.out.2.1 0 (.zero s)
      rwa [Nat.min_eq_right (by omega)] at this
     have hul:us.length = n:=by rw [HU.out.1.len];exact HN.out.symm
     rw [← sortC_unique HC.out HU.out.1.perm (hseg.pairwise (by omega))]
     exact HU.out.2.2.1
set_option maxRecDepth 100000 in
set_option maxHeartbeats 1000000 in
theorem c_SortStableB (g:Nat) (c:List Int→List Int→Int) (hc:Cmp c) (ok:List Int→Prop) (eg:∀ args w,(callFunc g args).run Try.prog w = .ok (.enter g args) w) (hcmp:CmpAsk Try.prog g c ok)
  (v:Value) (xs:List (List Int)) (lo hi:Nat) (w:World) (ho:Own (RS (RS RI)) lo hi w [v] xs) (hok:∀ x ∈ xs,ok x) (hsz:xs.length ≤ 1000000000) :
  Calls Try.prog 94 #[v,.func (.func g) #[] #[]] w (Sorts c v xs lo hi w):=by
 have hp:=c_stableCmpB g c hc ok eg hcmp v xs xs.length rfl lo hi w ho hok hsz
 obtain ⟨oa,cap,rfl,hv1,hv2⟩:=ho.val
 clear hcmp hok ho eg hc
 go_enter Try.func94,Try.ntmps94
 go_wp2_with (go_at_call 116;refine hp.mono ?_;rintro e w' ⟨rfl,h1,h2⟩)
 go_end0
 exact ⟨rfl,h1,h2⟩
end Go.Proofs.Ytgngidchldajhaa
namespace Go.Proofs.Ytgngidchldajhaa
open Go.RowKit
set_option maxRecDepth 100000 in
set_option maxHeartbeats 1000000 in
theorem c_impl_forestOfB (v:Value) (bs:List (List Int)) (w:World) (h:Rd (RS (RS RI)) w [v] bs) (hsz:bs.length ≤ 1000000000) (hsl:∀ b ∈ bs,b.length ≤ 1000000000) :
  Calls Try.prog 52 #[v] w (RetO (RS (RS RI)) w (forest bs)):=by
 have hc:=c_impl_cloneRows v bs w h (by omega) hsl
 have EG:=Lib.hid (enters (P:=Try.prog) (f:=63) Try.func63 (by kernel_rfl) rfl)
 have HA:Hid (CmpAsk Try.prog 63 cmpT (fun _ => True)):=Lib.hid (fun w h1 h2 x y r1 r2 _ _ => c_impl_compareTrees h1 h2 x y w r1 r2)
 clear h hsl
 go_enter Try.func52,Try.ntmps52
 go_wp2_with (go_at_call 93;refine hc.mono ?_;rintro e w1 ⟨u,rfl,o1,b1⟩;obtain ⟨ou,cu,rfl,lu1,lu2⟩:=o1.val)
 have hs:=c_SortStableB 63 cmpT cmpT_cmp (fun _ => True) EG.out HA.out _ bs w.heap.size w1.heap.size w1 o1 (fun _ _ => trivial) (by omega)
 have hb1:=b1.size
 clear o1 hc
 go_wp2_with (go_at_call 94;refine hs.mono ?_;rintro e w3 ⟨rfl,o3,ch3⟩)
 go_ret
 have hb3:Below w.heap.size w w3:=b1.trans (ch3.below (Nat.le_refl _) hb1)
 exact ⟨_,rfl,o3.mono (Nat.le_refl _) ch3.size,hb3⟩
theorem a_forestOfB (f:List (List Int)) (hl:f.length ≤ 1000000000) (hs:sumLen f ≤ 1000000000):AFn Try.prog 52 [eLL f] (· = [.own 1 ((forest f).map eL) true]) :=
 afn_LLL_oo (enters_of Try.func52 rfl rfl) (fun u w h => c_impl_forestOfB u f w h hl (fun b hb => Nat.le_trans (sumLen_mem hb) hs))
set_option maxHeartbeats 4000000 in
theorem a_countedB (ts:List (List Int)) (hl:ts.length ≤ 100000) (hs:sumLen ts ≤ 1000000):AFn Try.prog 47 [eLL ts] (· = [.own 2 ((cntOf ts).map eCt) true]):=by
 have hfo:=a_forestOfB ts (by omega) (by omega)
 refine AFn.of_runs (cfg_ok 45) Try.func47 rfl rfl rfl (by simp only [List.length_cons,List.length_nil];decide) ?_
 have hres:Try.f47.results.toList = [.tmp 2]:=rfl
 have hrts:Try.f47.resultTypes.toList = [31]:=rfl
 simp only [argRegs,argAV1,eL,eI,eLL,eB,Nat.zero_add,Nat.reduceAdd]
 intro M
 refine RunK.of ?_
 repeat' (first|with_reducible (first|refine Q1 ?_|refine Q2 ?_|refine Q3 ?_|refine Q4 ?_|refine Q5 ?_|refine Q6 ?_|refine Q7 ?_|refine Q8 ?_|refine Q9 ?_|refine Qa ?_|refine Qb ?_|refine Qc ?_|refine Qd ?_|refine Qe ?_|refine Qf ?_)|((with_reducible refine Qo ?_ ?_);focus rfl)|((with_reducible first|refine QT 12 (l:=?_) ?_ ?_|refine QF 12 (l:=?_) ?_ ?_);rotate_left 1;focus (simp only [Zu,Nat.reduceSub,Nat.reduceBEq];with_reducible rfl))|((with_reducible first|refine QS (cfg_ok 45) Tab.none (s':=?_) ?_ ?_|refine QC (b:=?_) ?_ ?_);rotate_left 1;focus ((with_reducible refine QW ?_);simp only [Zg,seval,if_true,if_false,reduceCtorEq,Nat.reduceEqDiff];with_reducible rfl)))
 refine RunK.regTag (cfg_ok 45) (Tab.none.at' 52 hfo) 2 9 (k:=1) (xs:=(forest ts).map eL) (s1:=?_) ?_ ?_ ?_
 rotate_left 1
 focus (simp only [Zg,seval,if_true,if_false,reduceCtorEq,Nat.reduceEqDiff,eL,eLL];with_reducible rfl)
 focus rfl
 intro xs' F ht hnd hF
 obtain ⟨ps,e1,e2,e3⟩:=tag_rows ht
 subst e2
 have hpl:ps.length = ts.length:=by
  have:=congrArg List.length e1
  rw [List.length_map] at this
  rw [← this]
  exact (show (sortC cmpT ts).Perm ts from sortC_perm ts).length_eq
 refine ROps.opsT (cfg_ok 45) (T:=Tab.none) (s':=?_) ?_ ?_
 rotate_left 1
 focus (simp only [Zg,seval,if_true,if_false,reduceCtorEq,Nat.reduceEqDiff,List.length_map];with_reducible rfl)
 repeat' (first|with_reducible (first|refine Q1 ?_|refine Q2 ?_|refine Q3 ?_|refine Q4 ?_|refine Q5 ?_|refine Q6 ?_|refine Q7 ?_|refine Q8 ?_|refine Q9 ?_|refine Qa ?_|refine Qb ?_|refine Qc ?_|refine Qd ?_|refine Qe ?_|refine Qf ?_)|((with_reducible refine Qo ?_ ?_);focus rfl)|((with_reducible first|refine QT 12 (l:=?_) ?_ ?_|refine QF 12 (l:=?_) ?_ ?_);rotate_left 1;focus (simp only [Zu,Nat.reduceSub,Nat.reduceBEq];with_reducible rfl))|((with_reducible first|refine QS (cfg_ok 45) Tab.none (s':=?_) ?_ ?_|refine QC (b:=?_) ?_ ?_);rotate_left 1;focus ((with_reducible refine QW ?_);simp only [Zg,seval,if_true,if_false,reduceCtorEq,Nat.reduceEqDiff];with_reducible rfl)))
 obtain ⟨R,hR⟩:∃ R,R = fun i => runsF (fun p:List Int × List Nat => p.1) (ps.take i):=⟨_,rfl⟩
 have hRb:∀ i,i ≤ ps.length→(R i).length ≤ 100000∧∀ z ∈ R i,1 ≤ z.2∧z.2 ≤ 100000:=fun i hi => by
  rw [hR]
  obtain ⟨h1,h2⟩:=runsF_sub (fun p:List Int × List Nat => p.1) _ (ps.take i) rfl
  have h3:=h1.length_le
  rw [List.length_map,List.length_take] at h3
  rw [List.length_take] at h2
  exact ⟨by show (runsF _ _).length ≤ 100000;omega,fun z hz => by have:=h2 z hz;omega⟩
 refine RunK.loop (β:=Nat) (γ:=Unit) (fun i => ⟨[(3,.c (.own 3 (R i).length)),(9,.c (.own 9 ps.length)),(10,.c (.val (.int ps.length))),(11,.c (.val (.int i)))],[(3,.row 2 ((R i).map eCtT) false),(9,.row 1 (ps.map eLT) false)]⟩) (fun i => i ≤ ps.length) (fun i => ps.length - i)
  (fun _ => ⟨[(3,.c (.own 3 (R ps.length).length))],[(3,.row 2 ((R ps.length).map eCtT) false)]⟩) (fun _ => True) 0 (Nat.zero_le _) ?_ ?_ ?_
 ·have e0:R 0 = []:=by rw [hR];rfl
  have hfl:(forest ts).length = ps.length:=by rw [hpl];exact (show (sortC cmpT ts).Perm ts from sortC_perm ts).length_eq
  rw [e0,hfl]
  (repeat' (first|with_reducible refine Qn|((with_reducible refine Qr ?_ ?_);focus (first|with_reducible rfl|(simp only [Zz,Nat.reduceBEq,List.map_nil,List.length_map,Int.natCast_zero];done)|rfl))|((with_reducible refine Qj (o':=?_) ?_ ?_ ?_);rotate_left 1;focus rfl)|((with_reducible refine Qw ?_ ?_);(focus (first|with_reducible rfl|(simp only [Zv,List.map_nil,List.length_map,Int.natCast_zero];done)));focus (first|exact id|exact (fun h => nomatch h)|exact (fun _ => rfl)))))
 ·intro i hi
  have hi:i ≤ ps.length:=hi
  have hw:=w64_succ (n:=i) (by omega)
  obtain ⟨hb1,hb2⟩:=hRb i hi
  by_cases h:i < ps.length
  ·have i1:((i:Int) < (ps.length:Int)) = True:=eq_true (by omega)
   have i2:((0:Int) ≤ (i:Int)) = True:=eq_true (by omega)
   obtain ⟨p,hp⟩:∃ p,p = ps[i]:=⟨_,rfl⟩
   have hg:(ps.map eLT)[i]? = some [.tag p.2 (.sl 1 (p.1.map eI))]:=by rw [map_get h,hp];rfl
   have hst:R (i + 1) = stepC (fun p:List Int × List Nat => p.1) (R i) p:=by
    rw [hR]
    show runsF _ (ps.take (i + 1)) = stepC _ (runsF _ (ps.take i)) p
    rw [List.take_succ_eq_append_getElem h,runsF_snoc,hp]
   have q1:=big_le (n:=(R i).length + 1) (by omega)
   have q2:=big_mul (n:=(R i).length + 1) (c:=32) (by omega) (by omega)
   by_cases h0:R i = []
   ·rw [h0,stepC_nil] at hst
    have j1:(((0:Nat):Int) > 0) = False:=eq_false (by omega)
    rw [h0] at q1 q2 ⊢
    simp only [List.length_nil] at q1 q2
    repeat' (first|with_reducible (first|refine Q1 ?_|refine Q2 ?_|refine Q3 ?_|refine Q4 ?_|refine Q5 ?_|refine Q6 ?_|refine Q7 ?_|refine Q8 ?_|refine Q9 ?_|refine Qa ?_|refine Qb ?_|refine Qc ?_|refine Qd ?_|refine Qe ?_|refine Qf ?_)|((with_reducible refine Qo ?_ ?_);focus rfl)|((with_reducible first|refine QT 12 (l:=?_) ?_ ?_|refine QF 12 (l:=?_) ?_ ?_);rotate_left 1;focus (simp only [Zu,Nat.reduceSub,Nat.reduceBEq];with_reducible rfl))|((with_reducible first|refine QS (cfg_ok 45) TEq (s':=?_) ?_ ?_|refine QC (b:=?_) ?_ ?_);rotate_left 1;focus ((with_reducible refine QW ?_);simp only [Zg,seval,if_true,if_false,reduceCtorEq,Nat.reduceEqDiff,TEq,i1,i2,hg,hw,j1,q1,q2,Int.toNat_natCast,List.length_map,List.length_nil];with_reducible rfl)))
    refine roundK.on (i + 1) ⟨h,by omega⟩ ?_
    rw [hst]
    (repeat' (first|with_reducible refine Qn|((with_reducible refine Qr ?_ ?_);focus (first|with_reducible rfl|(simp only [Zz,Nat.reduceBEq,eCtT,List.map_nil];done)|rfl))|((with_reducible refine Qj (o':=?_) ?_ ?_ ?_);rotate_left 1;focus rfl)|((with_reducible refine Qw ?_ ?_);(focus (first|with_reducible rfl|(simp only [Zv,eCtT,List.map_nil];done)));focus (first|exact id|exact (fun h => nomatch h)|exact (fun _ => rfl)))))
   ·obtain ⟨out,z,ez⟩:=snoc_of h0
    have hzb:=hb2 z (by rw [ez];simp)
    rw [ez] at hst hb1 q1 q2 ⊢
    simp only [List.length_append,List.length_singleton] at hb1 q1 q2
    have hlz:(out ++ [z]).length = out.length + 1:=by simp
    have j1:((((out.length + 1:Nat)):Int) > 0) = True:=eq_true (by omega)
    have hw1:w64 (((out.length + 1:Nat):Int) - 1) = ((out.length:Nat):Int):=by rw [w64_eq (by omega)];omega
    have i3:((0:Int) ≤ ((out.length:Nat):Int)) = True:=eq_true (by omega)
    have i4:(((out.length:Nat):Int) < ((out.length + 1:Nat):Int)) = True:=eq_true (by omega)
    have hgz:((out ++ [z]).map eCtT)[out.length]? = some [.tag z.1.2 (.sl 1 (z.1.1.map eI)),.int z.2]:=by
     rw [List.map_append,List.getElem?_append_right (by simp)];simp [eCtT]
    by_cases he:z.1.1 = p.1
    ·rw [stepC_eq _ out z p he] at hst
     have hd:decide (z.1.1 = p.1) = true:=decide_eq_true he
     have hwz:=w64_eq (n:=z.2 + 1) (by omega)
     repeat' (first|with_reducible (first|refine Q1 ?_|refine Q2 ?_|refine Q3 ?_|refine Q4 ?_|refine Q5 ?_|refine Q6 ?_|refine Q7 ?_|refine Q8 ?_|refine Q9 ?_|refine Qa ?_|refine Qb ?_|refine Qc ?_|refine Qd ?_|refine Qe ?_|refine Qf ?_)|((with_reducible refine Qo ?_ ?_);focus rfl)|((with_reducible first|refine QT 12 (l:=?_) ?_ ?_|refine QF 12 (l:=?_) ?_ ?_);rotate_left 1;focus (simp only [Zu,Nat.reduceSub,Nat.reduceBEq];with_reducible rfl))|((with_reducible first|refine QS (cfg_ok 45) TEq (s':=?_) ?_ ?_|refine QC (b:=?_) ?_ ?_);rotate_left 1;focus ((with_reducible refine QW ?_);simp only [Zg,seval,if_true,if_false,reduceCtorEq,Nat.reduceEqDiff,TEq,TEq,i1,i2,i3,i4,hg,hgz,hlz,hw,hw1,hwz,hd,j1,Int.toNat_natCast,List.length_map];with_reducible rfl)))
     have hse:((out ++ [z]).map eCtT).set out.length [.tag z.1.2 (.sl 1 (z.1.1.map eI)),.int (z.2 + 1)] = (out ++ [(z.1,z.2 + 1)]).map eCtT:=by
      rw [List.map_append,List.set_append_right _ _ (by simp)];simp [eCtT]
     refine roundK.on (i + 1) ⟨h,by omega⟩ ?_
     rw [hst,hse]
     (repeat' (first|with_reducible refine Qn|((with_reducible refine Qr ?_ ?_);focus (first|with_reducible rfl|(simp only [Zz,Nat.reduceBEq,eCtT];done)|rfl))|((with_reducible refine Qj (o':=?_) ?_ ?_ ?_);rotate_left 1;focus rfl)|((with_reducible refine Qw ?_ ?_);(focus (first|with_reducible rfl|(simp only [Zv,eCtT];done)));focus (first|exact id|exact (fun h => nomatch h)|exact (fun _ => rfl)))))
    ·rw [stepC_ne _ out z p he] at hst
     have hd:decide (z.1.1 = p.1) = false:=decide_eq_false he
     repeat' (first|with_reducible (first|refine Q1 ?_|refine Q2 ?_|refine Q3 ?_|refine Q4 ?_|refine Q5 ?_|refine Q6 ?_|refine Q7 ?_|refine Q8 ?_|refine Q9 ?_|refine Qa ?_|refine Qb ?_|refine Qc ?_|refine Qd ?_|refine Qe ?_|refine Qf ?_)|((with_reducible refine Qo ?_ ?_);focus rfl)|((with_reducible first|refine QT 12 (l:=?_) ?_ ?_|refine QF 12 (l:=?_) ?_ ?_);rotate_left 1;focus (simp only [Zu,Nat.reduceSub,Nat.reduceBEq];with_reducible rfl))|((with_reducible first|refine QS (cfg_ok 45) TEq (s':=?_) ?_ ?_|refine QC (b:=?_) ?_ ?_);rotate_left 1;focus ((with_reducible refine QW ?_);simp only [Zg,seval,if_true,if_false,reduceCtorEq,Nat.reduceEqDiff,TEq,TEq,i1,i2,i3,i4,hg,hgz,hlz,hw,hw1,hd,j1,q1,q2,Int.toNat_natCast,List.length_map];with_reducible rfl)))
     refine roundK.on (i + 1) ⟨h,by omega⟩ ?_
     rw [hst]
     (repeat' (first|with_reducible refine Qn|((with_reducible refine Qr ?_ ?_);focus (first|with_reducible rfl|(simp only [Zz,Nat.reduceBEq,eCtT];done)|rfl))|((with_reducible refine Qj (o':=?_) ?_ ?_ ?_);rotate_left 1;focus rfl)|((with_reducible refine Qw ?_ ?_);(focus (first|with_reducible rfl|(simp only [Zv,eCtT];done)));focus (first|exact id|exact (fun h => nomatch h)|exact (fun _ => rfl)))))
  ·have i1:((i:Int) < (ps.length:Int)) = False:=eq_false (by omega)
   obtain rfl:i = ps.length:=by omega
   repeat' (first|with_reducible (first|refine Q1 ?_|refine Q2 ?_|refine Q3 ?_|refine Q4 ?_|refine Q5 ?_|refine Q6 ?_|refine Q7 ?_|refine Q8 ?_|refine Q9 ?_|refine Qa ?_|refine Qb ?_|refine Qc ?_|refine Qd ?_|refine Qe ?_|refine Qf ?_)|((with_reducible refine Qo ?_ ?_);focus rfl)|((with_reducible first|refine QT 12 (l:=?_) ?_ ?_|refine QF 12 (l:=?_) ?_ ?_);rotate_left 1;focus (simp only [Zu,Nat.reduceSub,Nat.reduceBEq];with_reducible rfl))|((with_reducible first|refine QS (cfg_ok 45) Tab.none (s':=?_) ?_ ?_|refine QC (b:=?_) ?_ ?_);rotate_left 1;focus ((with_reducible refine QW ?_);simp only [Zg,seval,if_true,if_false,reduceCtorEq,Nat.reduceEqDiff,i1];with_reducible rfl)))
   refine roundK.out () trivial ?_
   (repeat' (first|with_reducible refine Qn|((with_reducible refine Qr ?_ ?_);focus (first|with_reducible rfl|(simp only [Zz,Nat.reduceBEq];done)|rfl))|((with_reducible refine Qj (o':=?_) ?_ ?_ ?_);rotate_left 1;focus rfl)|((with_reducible refine Qw ?_ ?_);(focus (first|with_reducible rfl|(simp only [Zv];done)));focus (first|exact id|exact (fun h => nomatch h)|exact (fun _ => rfl)))))
 ·rintro _ _
  repeat' (first|with_reducible (first|refine Q1 ?_|refine Q2 ?_|refine Q3 ?_|refine Q4 ?_|refine Q5 ?_|refine Q6 ?_|refine Q7 ?_|refine Q8 ?_|refine Q9 ?_|refine Qa ?_|refine Qb ?_|refine Qc ?_|refine Qd ?_|refine Qe ?_|refine Qf ?_)|((with_reducible refine Qo ?_ ?_);focus rfl)|((with_reducible first|refine QT 12 (l:=?_) ?_ ?_|refine QF 12 (l:=?_) ?_ ?_);rotate_left 1;focus (simp only [Zu,Nat.reduceSub,Nat.reduceBEq];with_reducible rfl))|((with_reducible first|refine QS (cfg_ok 45) Tab.none (s':=?_) ?_ ?_|refine QC (b:=?_) ?_ ?_);rotate_left 1;focus ((with_reducible refine QW ?_);simp only [Zg,seval,if_true,if_false,reduceCtorEq,Nat.reduceEqDiff];with_reducible rfl)))
  have hRe:(R ps.length).map (fun z => (z.1.1,z.2)) = cntOf ts:=by
   rw [hR]
   show (runsF _ (ps.take ps.length)).map _ = _
   rw [List.take_length,runsF_map _ _ ps rfl,← e1];rfl
  refine Ends.un (by simp) hres hrts (r:=?_) (r':=.own 2 ((cntOf ts).map eCt) true) (l:=[]) (ks:=?_) ?_ ?_ (by simp) ?_ rfl
  rotate_left 2
  focus (simp only [aresults,ares,Zg,seval,if_true,if_false,reduceCtorEq,Nat.reduceEqDiff];with_reducible rfl)
  focus simp
  rw [← hRe]
  have hsub:((R ps.length).map (·.1)).Sublist ps:=by
   have:=(runsF_sub (fun p:List Int × List Nat => p.1) _ (ps.take ps.length) rfl).1
   rw [hR]
   show (List.map _ (runsF (fun p:List Int × List Nat => p.1) (ps.take ps.length))).Sublist ps
   rw [List.take_length] at this ⊢
   exact this
  have hsub2:((R ps.length).map (·.1.2)).Sublist (ps.map (·.2)):=by
   have:=hsub.map (·.2)
   rwa [List.map_map] at this
  refine ⟨((R ps.length).map (·.1.2)).flatten,?_,fun b hb => hF b ?_,.inl ⟨2,_,_,rfl,rfl,tag_mk2 _⟩⟩
  ·rw [e3] at hnd
   exact hnd.sublist (sub_flat2 hsub2)
  ·rw [e3]
   exact (sub_flat2 hsub2).subset hb
end Go.Proofs.Ytgngidchldajhaa
namespace Go.Proofs.Ytgngidchldajhaa
open Go.RowKit
theorem flat_len {α β:Type} (g:α→β→β) (P:List β):∀ L:List α,(L.flatMap fun d => P.map (g d)).length = L.length * P.length
 | [] => by simp
 | d :: L => by rw [List.flatMap_cons,List.length_append,List.length_map,flat_len g P L,List.length_cons,Nat.succ_mul];omega
theorem plcX_len (m:Nat):∀ k,(plcX m k).length = m ^ k
 | 0 => rfl
 | k + 1 => by
  show ((List.range m).flatMap fun d => (plcX m k).map (List.cons d)).length = m ^ (k + 1)
  rw [flat_len List.cons,plcX_len m k,List.length_range,Nat.pow_succ,Nat.mul_comm]
theorem plcX_mem {m:Nat}:∀ {k:Nat} {ns:List Nat},ns ∈ plcX m k→ns.length = k∧∀ n ∈ ns,n < m
 | 0,ns,h => by
  have:ns = []:=by simpa [plcX] using h
  subst this
  exact ⟨rfl,fun n hn => nomatch hn⟩
 | k + 1,ns,h => by
  obtain ⟨d,hd,h2⟩:=List.mem_flatMap.1 h
  obtain ⟨p,hp,rfl⟩:=List.mem_map.1 h2
  obtain ⟨h3,h4⟩:=plcX_mem hp
  refine ⟨by simp [h3],fun n hn => ?_⟩
  rcases List.mem_cons.1 hn with rfl|hn
  ·exact List.mem_range.1 hd
  ·exact h4 n hn
def gfX (u:List Int) (f:List (List Int)) (ns:List Nat) (k:Nat):List (List Int):=(plcX u.length k).map fun p => canon (mixL u f (ns ++ p))
def gfXi (u:List Int) (f:List (List Int)) (ns:List Nat) (k i:Nat):List (List Int):=(List.range i).flatMap fun d => gfX u f (ns ++ [d]) k
theorem gfX_succ (u:List Int) (f:List (List Int)) (ns:List Nat) (k:Nat):gfX u f ns (k + 1) = gfXi u f ns k u.length:=by
 unfold gfX gfXi
 show ((List.range u.length).flatMap fun d => (plcX u.length k).map (d :: ·)).map _ = _
 rw [List.map_flatMap]
 congr 1
 funext d
 rw [List.map_map]
 unfold gfX
 congr 1
 funext p
 show canon (mixL u f (ns ++ d :: p)) = canon (mixL u f (ns ++ [d] ++ p))
 rw [List.append_assoc];rfl
theorem gfXi_succ (u:List Int) (f:List (List Int)) (ns:List Nat) (k i:Nat):gfXi u f ns k (i + 1) = gfXi u f ns k i ++ gfX u f (ns ++ [i]) k:=by
 unfold gfXi
 rw [List.range_succ,List.flatMap_append];simp
theorem gfX_len (u:List Int) (f:List (List Int)) (ns:List Nat) (k:Nat):(gfX u f ns k).length = u.length ^ k:=by unfold gfX;rw [List.length_map,plcX_len]
theorem gfXi_len (u:List Int) (f:List (List Int)) (ns:List Nat) (k:Nat):∀ i,(gfXi u f ns k i).length = i * u.length ^ k
 | 0 => by simp [gfXi]
 | i + 1 => by rw [gfXi_succ,List.length_append,gfXi_len u f ns k i,gfX_len,Nat.succ_mul]
theorem a_graftedF (u:List Int) (f:List (List Int)) (ns:List Nat) (hu:lev8 u = true) (hf:∀ v ∈ f,lev8 v = true) (hsum:u.length + sumLen f ≤ 8) (hn:ns.length = f.length) (hm:∀ n ∈ ns,n < u.length)
  (hok:graftOk u (intN ns) f = true) (he:graftN u (intN ns) f = canon (mixL u f ns)):AFn Try.prog 86 [eL u,eL (intN ns),eLL f] (· = [.own 1 ((canon (mixL u f ns)).map eI) true]):=by
 rw [← he]
 exact AFn.of_o encI (enters_of Try.func86 rfl rfl) (fun w A vs ⟨v1,_,e1,h1,v2,_,e2,h2,v3,_,e3,h3,e4⟩ => by
  subst e4;subst e3;subst e2;subst e1
  exact c_impl_grafted v1 v2 v3 u (intN ns) f w (Rd.of (rd1 h1)) (Rd.of (rd1 h2)) (Rd.of (rdLL h3)) hu hf (by simp [intN,hn]) (fun x hx => by
   obtain ⟨n,hn',rfl⟩:=List.mem_map.1 hx
   have:=hm n hn'
   omega) hsum hok)
set_option maxHeartbeats 8000000 in
theorem a_graftAllF (u:List Int) (f:List (List Int)) (hu:lev8 u = true) (hf:∀ v ∈ f,lev8 v = true) (hsum:u.length + sumLen f ≤ 8) (hck:gfC1 u f = true) (hfl8:f.length ≤ 8):∀ (k:Nat) (ns:List Nat) (out:List (List Int)),ns.length + k = f.length→(∀ n ∈ ns,n < u.length)→(∀ p ∈ plcX u.length k,ns ++ p ∈ plcX u.length f.length) →
  out.length + u.length ^ k ≤ 1000→AOw Try.prog 48 [eL u,eL (intN ns),eLL f] 1 (out.map eL) [] (· = [.own 1 ((out ++ gfX u f ns k).map eL) false])
 | 0,ns,out,hk,hm,hp,hl => by
  have hin:=hp [] (by simp [plcX])
  rw [List.append_nil] at hin
  have hc:=List.all_eq_true.1 hck ns hin
  rw [Bool.and_eq_true,decide_eq_true_eq] at hc
  have hg:=a_graftedF u f ns hu hf hsum (by omega) hm hc.1 hc.2
  have hX:gfX u f ns 0 = [canon (mixL u f ns)]:=by unfold gfX;simp [plcX]
  have hnl:((intN ns).map eI).length = f.length:=by rw [List.length_map];unfold intN;rw [List.length_map];omega
  have hfl:(f.map eL).length = f.length:=List.length_map _
  have hol:(out.map eL).length = out.length:=List.length_map _
  have q1:=big_le (n:=out.length + 1) (by omega)
  have q2:=big_mul (n:=out.length + 1) (c:=24) (by omega) (by omega)
  have bq:((f.length:Int) == (f.length:Int)) = true:=by simp
  rw [hX]
  simp only [eLL,eL] at hg
  refine AOw.of_runs (cfg_ok 38) Try.func48 rfl rfl rfl (by simp only [List.length_cons,List.length_nil];decide) ?_
  have hres:Try.f48.results.toList = [.tmp 8]:=rfl
  have hrts:Try.f48.resultTypes.toList = [34]:=rfl
  simp only [List.length_cons,List.length_nil,List.nil_append,List.cons_append,argRegs,argAV1,eL,eI,eLL,eB,Nat.zero_add,Nat.reduceAdd]
  intro M
  refine RunK.of ?_
  repeat' (first|with_reducible (first|refine Q1 ?_|refine Q2 ?_|refine Q3 ?_|refine Q4 ?_|refine Q5 ?_|refine Q6 ?_|refine Q7 ?_|refine Q8 ?_|refine Q9 ?_|refine Qa ?_|refine Qb ?_|refine Qc ?_|refine Qd ?_|refine Qe ?_|refine Qf ?_)|((with_reducible refine Qo ?_ ?_);focus rfl)|((with_reducible first|refine QT 25 (l:=?_) ?_ ?_|refine QF 25 (l:=?_) ?_ ?_);rotate_left 1;focus (simp only [Zu,Nat.reduceSub,Nat.reduceBEq];with_reducible rfl))|((with_reducible first|refine QS (cfg_ok 38) ((Tab.none.at' 86 hg)) (s':=?_) ?_ ?_|refine QC (b:=?_) ?_ ?_);rotate_left 1;focus ((with_reducible refine QW ?_);simp only [Zg,seval,if_true,if_false,reduceCtorEq,Nat.reduceEqDiff,eLL,eL,hnl,hfl,hol,q1,q2,bq];with_reducible rfl)))
  (refine Ends.mk (by simp) (rs:=?_) (ks:=?_) hres hrts ?_ ?_ ?_;rotate_left 2;(focus (simp only [Ze,Zg,seval,if_true,if_false,reduceCtorEq,Nat.reduceEqDiff,List.map_append,List.map_cons,List.map_nil,eL];with_reducible rfl));(focus simp);focus (first|with_reducible rfl|(simp only [Zv,List.map_append,List.map_cons,List.map_nil,eL];done)))
 | k + 1,ns,out,hk,hm,hp,hl => by
  have hcl:=a_cloneInt (intN ns) (by unfold intN;rw [List.length_map];omega)
  have hul:=lev8_len hu
  have hup:=(lev8_lev hu).pos
  have hnl:((intN ns).map eI).length = ns.length:=by rw [List.length_map];unfold intN;rw [List.length_map]
  have hfl:(f.map eL).length = f.length:=List.length_map _
  have hum:(u.map eI).length = u.length:=List.length_map _
  have bq:((ns.length:Int) == (f.length:Int)) = false:=by simp only [beq_eq_false_iff_ne,ne_eq];omega
  rw [Nat.pow_succ] at hl
  rw [gfX_succ]
  simp only [eL] at hcl
  refine AOw.of_runs (cfg_ok 38) Try.func48 rfl rfl rfl (by simp only [List.length_cons,List.length_nil];decide) ?_
  have hres:Try.f48.results.toList = [.tmp 8]:=rfl
  have hrts:Try.f48.resultTypes.toList = [34]:=rfl
  simp only [List.length_cons,List.length_nil,List.nil_append,List.cons_append,argRegs,argAV1,eL,eI,eLL,eB,Nat.zero_add,Nat.reduceAdd]
  intro M
  refine RunK.of ?_
  repeat' (first|with_reducible (first|refine Q1 ?_|refine Q2 ?_|refine Q3 ?_|refine Q4 ?_|refine Q5 ?_|refine Q6 ?_|refine Q7 ?_|refine Q8 ?_|refine Q9 ?_|refine Qa ?_|refine Qb ?_|refine Qc ?_|refine Qd ?_|refine Qe ?_|refine Qf ?_)|((with_reducible refine Qo ?_ ?_);focus rfl)|((with_reducible first|refine QT 25 (l:=?_) ?_ ?_|refine QF 25 (l:=?_) ?_ ?_);rotate_left 1;focus (simp only [Zu,Nat.reduceSub,Nat.reduceBEq];with_reducible rfl))|((with_reducible first|refine QS (cfg_ok 38) Tab.none (s':=?_) ?_ ?_|refine QC (b:=?_) ?_ ?_);rotate_left 1;focus ((with_reducible refine QW ?_);simp only [Zg,seval,if_true,if_false,reduceCtorEq,Nat.reduceEqDiff,eLL,eL,hnl,hfl,hum,bq];with_reducible rfl)))
  refine RunK.loop (β:=Nat) (γ:=Unit) (fun i => ⟨[(0,.c (.val (.sl 1 (u.map eI)))),(1,.c (.val (.sl 1 ((intN ns).map eI)))),(2,.c (.val (.sl 1 (f.map eL)))),(3,.c (.own 3 (out ++ gfXi u f ns k i).length)),(23,.c (.val (.int u.length))),(24,.c (.val (.int i)))],[(3,.row 1 ((out ++ gfXi u f ns k i).map eL) false)]⟩) (fun i => i ≤ u.length) (fun i => u.length - i)
   (fun _ => ⟨[(3,.c (.own 3 (out ++ gfXi u f ns k u.length).length))],[(3,.row 1 ((out ++ gfXi u f ns k u.length).map eL) false)]⟩) (fun _ => True) 0 (Nat.zero_le _) ?_ ?_ ?_
  ·have e0:out ++ gfXi u f ns k 0 = out:=by unfold gfXi;simp
   rw [e0]
   (repeat' (first|with_reducible refine Qn|((with_reducible refine Qr ?_ ?_);focus (first|with_reducible rfl|(simp only [Zz,Nat.reduceBEq,List.length_map,Int.natCast_zero];done)|rfl))|((with_reducible refine Qj (o':=?_) ?_ ?_ ?_);rotate_left 1;focus rfl)|((with_reducible refine Qw ?_ ?_);(focus (first|with_reducible rfl|(simp only [Zv,List.length_map,Int.natCast_zero];done)));focus (first|exact id|exact (fun h => nomatch h)|exact (fun _ => rfl)))))
  ·intro i hi
   have hi:i ≤ u.length:=hi
   have hw:=w64_succ (n:=i) (by omega)
   by_cases h:i < u.length
   ·have i1:((i:Int) < (u.length:Int)) = True:=eq_true (by omega)
    have hXl:=gfXi_len u f ns k i
    have hle:i * u.length ^ k + u.length ^ k ≤ u.length ^ k * u.length:=by
     rw [← Nat.succ_mul,Nat.mul_comm (u.length ^ k)]
     exact Nat.mul_le_mul_right _ h
    have hih:=a_graftAllF u f hu hf hsum hck hfl8 k (ns ++ [i]) (out ++ gfXi u f ns k i) (by simp;omega) (fun n hn => by
     rcases List.mem_append.1 hn with hn|hn
     ·exact hm n hn
     ·rw [List.mem_singleton] at hn;omega) (fun p hp' => by
     have:=hp (i :: p) (by
      show i :: p ∈ (List.range u.length).flatMap fun d => (plcX u.length k).map (d :: ·)
      exact List.mem_flatMap.2 ⟨i,List.mem_range.2 h,List.mem_map.2 ⟨p,hp',rfl⟩⟩)
     rw [List.append_assoc]
     exact this) (by rw [List.length_append,hXl];omega)
    have en:(intN (ns ++ [i])).map eI = (intN ns).map eI ++ [[D.int (i:Int)]]:=by unfold intN;simp [eI]
    rw [List.append_assoc,← gfXi_succ] at hih
    obtain ⟨X,hX⟩:∃ X,X = out ++ gfXi u f ns k i:=⟨_,rfl⟩
    rw [← hX] at hih ⊢
    simp only [eLL,eL] at hih
    rw [en] at hih
    have hil:((intN ns).map eI).length = ns.length:=hnl
    have q1:=big_le (n:=ns.length + 1) (by omega)
    have q2:=big_mul (n:=ns.length + 1) (c:=8) (by omega) (by omega)
    repeat' (first|with_reducible (first|refine Q1 ?_|refine Q2 ?_|refine Q3 ?_|refine Q4 ?_|refine Q5 ?_|refine Q6 ?_|refine Q7 ?_|refine Q8 ?_|refine Q9 ?_|refine Qa ?_|refine Qb ?_|refine Qc ?_|refine Qd ?_|refine Qe ?_|refine Qf ?_)|((with_reducible refine Qo ?_ ?_);focus rfl)|((with_reducible first|refine QT 25 (l:=?_) ?_ ?_|refine QF 25 (l:=?_) ?_ ?_);rotate_left 1;focus (simp only [Zu,Nat.reduceSub,Nat.reduceBEq];with_reducible rfl))|((with_reducible first|refine QS (cfg_ok 38) Tab.none (s':=?_) ?_ ?_|refine QC (b:=?_) ?_ ?_);rotate_left 1;focus ((with_reducible refine QW ?_);simp only [Zg,seval,if_true,if_false,reduceCtorEq,Nat.reduceEqDiff,i1];with_reducible rfl)))
    refine RunK.regCut (cfg_ok 38) (Tab.none.at' 87 hcl) 8 (s1:=?_) ?_ ?_
    rotate_left 1
    focus (refine Work.mk ?_;simp only [Zg,seval,if_true,if_false,reduceCtorEq,Nat.reduceEqDiff,hil,q1,q2];with_reducible rfl)
    simp only [List.toList_toArray,List.drop_succ_cons,List.drop_zero]
    refine ROps.frzs [32] ?_
    refine ROps.opsT (cfg_ok 38) (T:=Tab.none.own' 48 3 hih) (s':=?_) ?_ ?_
    rotate_left 1
    focus (simp only [Zg,seval,if_true,if_false,reduceCtorEq,Nat.reduceEqDiff,Tab.own',atOwn_eq,eL];with_reducible rfl)
    repeat' (first|with_reducible (first|refine Q1 ?_|refine Q2 ?_|refine Q3 ?_|refine Q4 ?_|refine Q5 ?_|refine Q6 ?_|refine Q7 ?_|refine Q8 ?_|refine Q9 ?_|refine Qa ?_|refine Qb ?_|refine Qc ?_|refine Qd ?_|refine Qe ?_|refine Qf ?_)|((with_reducible refine Qo ?_ ?_);focus rfl)|((with_reducible first|refine QT 25 (l:=?_) ?_ ?_|refine QF 25 (l:=?_) ?_ ?_);rotate_left 1;focus (simp only [Zu,Nat.reduceSub,Nat.reduceBEq];with_reducible rfl))|((with_reducible first|refine QS (cfg_ok 38) Tab.none (s':=?_) ?_ ?_|refine QC (b:=?_) ?_ ?_);rotate_left 1;focus ((with_reducible refine QW ?_);simp only [Zg,seval,if_true,if_false,reduceCtorEq,Nat.reduceEqDiff,hw];with_reducible rfl)))
    refine roundK.on (i + 1) ⟨h,by omega⟩ ?_
    (repeat' (first|with_reducible refine Qn|((with_reducible refine Qr ?_ ?_);focus (first|with_reducible rfl|(simp only [Zz,Nat.reduceBEq,List.length_map];done)|rfl))|((with_reducible refine Qj (o':=?_) ?_ ?_ ?_);rotate_left 1;focus rfl)|((with_reducible refine Qw ?_ ?_);(focus (first|with_reducible rfl|(simp only [Zv,List.length_map];done)));focus (first|exact id|exact (fun h => nomatch h)|exact (fun _ => rfl)))))
   ·have i1:((i:Int) < (u.length:Int)) = False:=eq_false (by omega)
    obtain rfl:i = u.length:=by omega
    repeat' (first|with_reducible (first|refine Q1 ?_|refine Q2 ?_|refine Q3 ?_|refine Q4 ?_|refine Q5 ?_|refine Q6 ?_|refine Q7 ?_|refine Q8 ?_|refine Q9 ?_|refine Qa ?_|refine Qb ?_|refine Qc ?_|refine Qd ?_|refine Qe ?_|refine Qf ?_)|((with_reducible refine Qo ?_ ?_);focus rfl)|((with_reducible first|refine QT 25 (l:=?_) ?_ ?_|refine QF 25 (l:=?_) ?_ ?_);rotate_left 1;focus (simp only [Zu,Nat.reduceSub,Nat.reduceBEq];with_reducible rfl))|((with_reducible first|refine QS (cfg_ok 38) Tab.none (s':=?_) ?_ ?_|refine QC (b:=?_) ?_ ?_);rotate_left 1;focus ((with_reducible refine QW ?_);simp only [Zg,seval,if_true,if_false,reduceCtorEq,Nat.reduceEqDiff,i1];with_reducible rfl)))
    refine roundK.out () trivial ?_
    (repeat' (first|with_reducible refine Qn|((with_reducible refine Qr ?_ ?_);focus (first|with_reducible rfl|(simp only [Zz,Nat.reduceBEq];done)|rfl))|((with_reducible refine Qj (o':=?_) ?_ ?_ ?_);rotate_left 1;focus rfl)|((with_reducible refine Qw ?_ ?_);(focus (first|with_reducible rfl|(simp only [Zv];done)));focus (first|exact id|exact (fun h => nomatch h)|exact (fun _ => rfl)))))
  ·rintro _ _
   repeat' (first|with_reducible (first|refine Q1 ?_|refine Q2 ?_|refine Q3 ?_|refine Q4 ?_|refine Q5 ?_|refine Q6 ?_|refine Q7 ?_|refine Q8 ?_|refine Q9 ?_|refine Qa ?_|refine Qb ?_|refine Qc ?_|refine Qd ?_|refine Qe ?_|refine Qf ?_)|((with_reducible refine Qo ?_ ?_);focus rfl)|((with_reducible first|refine QT 25 (l:=?_) ?_ ?_|refine QF 25 (l:=?_) ?_ ?_);rotate_left 1;focus (simp only [Zu,Nat.reduceSub,Nat.reduceBEq];with_reducible rfl))|((with_reducible first|refine QS (cfg_ok 38) Tab.none (s':=?_) ?_ ?_|refine QC (b:=?_) ?_ ?_);rotate_left 1;focus ((with_reducible refine QW ?_);simp only [Zg,seval,if_true,if_false,reduceCtorEq,Nat.reduceEqDiff];with_reducible rfl)))
   (refine Ends.mk (by simp) (rs:=?_) (ks:=?_) hres hrts ?_ ?_ ?_;rotate_left 2;(focus (simp only [Ze,Zg,seval,if_true,if_false,reduceCtorEq,Nat.reduceEqDiff];with_reducible rfl));(focus simp);focus (first|with_reducible rfl|(simp only [Zv];done)))
end Go.Proofs.Ytgngidchldajhaa
namespace Go.Proofs.Ytgngidchldajhaa
abbrev Spl:=List (List Int) × List (List Int)
def catS (s c:Spl):Spl:=(s.1 ++ c.1,s.2 ++ c.2)
def prodS (Ls:List (List Spl)):List Spl:=Ls.foldl (fun A L => A.flatMap fun s => L.map (catS s)) [([],[])]
theorem flat_comm {α β γ:Type} (f:α→β→γ):∀ (A:List α) (B:List β),(A.flatMap fun a => B.map (f a)).Perm (B.flatMap fun b => A.map fun a => f a b)
 | [],B => by simp
 | a :: A,B => by
  rw [List.flatMap_cons]
  refine ((List.perm_append_left_iff _).2 (flat_comm f A B)).trans ?_
  clear flat_comm
  induction B with
  | nil => simp
  | cons b B ih =>
   simp only [List.map_cons,List.flatMap_cons,List.cons_append]
   refine List.Perm.cons _ ?_
   refine List.Perm.trans ?_ ((List.perm_append_left_iff _).2 ih)
   rw [← List.append_assoc,← List.append_assoc]
   exact (List.perm_append_right_iff _).2 List.perm_append_comm
def splitF:Nat→List Int→List Spl
 | 0,_ => []
 | n + 1,t => ((prodS ((brs t).map (splitF n))).map fun s => (s.1,[canon (rootOn s.2)])) ++ [([canon t],[])]
def split (t:List Int):List Spl:=splitF t.length t
end Go.Proofs.Ytgngidchldajhaa
namespace Go.Proofs.Ytgngidchldajhaa
open Go.RowKit
theorem gf1_pair {a b:Nat} (h:a + b ≤ 7):gfAll1 a b = true:=by
 by_cases e:a + b ≤ 6
 ·exact List.all_eq_true.1 (List.all_eq_true.1 gf1_low a (List.mem_range.2 (by omega))) b (List.mem_range.2 (by omega))
 ·have hb:b = 7 - a:=by omega
  subst hb
  match a,h with
  | 0,_ => exact gf1_0
  | 1,_ => exact gf1_1
  | 2,_ => exact gf1_2
  | 3,_ => exact gf1_3
  | 4,_ => exact gf1_4
  | 5,_ => exact gf1_5
  | 6,_ => exact gf1_6
  | 7,_ => exact gf1_7
  | a + 8,h => exact absurd h (by omega)
theorem gf2_pair {a b:Nat} (h:a + b ≤ 7):gfAll2 a b = true:=by
 by_cases e:a + b ≤ 6
 ·exact List.all_eq_true.1 (List.all_eq_true.1 gf2_low a (List.mem_range.2 (by omega))) b (List.mem_range.2 (by omega))
 ·have hb:b = 7 - a:=by omega
  subst hb
  match a,h with
  | 0,_ => exact gf2_0
  | 1,_ => exact gf2_1
  | 2,_ => exact gf2_2
  | 3,_ => exact gf2_3
  | 4,_ => exact gf2_4
  | 5,_ => exact gf2_5
  | 6,_ => exact gf2_6
  | 7,_ => exact gf2_7
  | a + 8,h => exact absurd h (by omega)
theorem for_mem {f:List (List Int)} (h:forB f = true) (h7:sumLen f ≤ 7):f ∈ forsN (sumLen f):=by
 have hlev:=forB_lev h
 have hcan:=forB_can h
 have hso:=(forB_spec h).2.2
 have hr:=rootOn_lev hlev
 have hrl:(rootOn f).length = sumLen f + 1:=by rw [rootOn_len]
 have hmap:f.map canon = f:=by
  conv => rhs;rw [← List.map_id f]
  exact List.map_congr_left fun b hb => hcan b hb
 have e1:canon (rootOn f) = rootOn (sortC cmpD f):=by rw [canon_eq hr,brs_rootOn hlev,hmap]
 have hl2:∀ b ∈ sortC cmpD f,LevP b:=fun b hb => hlev b (sortC_mem.1 hb)
 have e2:brs (canon (rootOn f)) = sortC cmpD f:=by rw [e1,brs_rootOn hl2]
 have e3:sortC cmpT (sortC cmpD f) = f:=(sortC_unique cmpT_cmp (sortC_perm _).symm hso).symm
 unfold forsN
 refine List.mem_map.2 ⟨canon (rootOn f),List.mem_filter.2 ⟨mem_levels _ _ (canon_lev hr) (by rw [canon_len hr,hrl]),decide_eq_true (canon_idem hr)⟩,by rw [e2,e3]⟩
theorem flat_cons {m:Nat} (P:List (List Nat)):((List.range m).flatMap fun d => P.map (d :: ·)).Perm (P.flatMap fun p => (List.range m).map fun d => d :: p):=flat_comm (fun (d:Nat) (p:List Nat) => d :: p) (List.range m) P
theorem plc_perm (m:Nat):∀ k,(plcX m k).Perm (plcO m k)
 | 0 => List.Perm.refl _
 | k + 1 => (flat_cons (plcX m k)).trans ((plc_perm m k).flatMap_right _)
theorem sumOf_perm {x y:List (List Int)} (h:x.Perm y):sumOf x = sumOf y:=IsN.ext cmpT_cmp (sumOf_is x) (sumOf_is y) h
def gfOf (u:List Int) (f:List (List Int)):List (List Int × Int) × Int:=if (lev8 u && forB f) = true then (if u.length + sumLen f ≤ 8 then (sumOf (gfT u f),0) else ([],3)) else ([],1)
structure GfF (u:List Int) (f:List (List Int)):Prop where
 lev:∀ v ∈ f,lev8 v = true
 few:f.length ≤ 8
 c1:gfC1 (canon u) f = true
 c2:sumOf (gfX (canon u) f [] f.length) = sumOf (gfT u f)
 c3:∀ ps ∈ plcO u.length f.length,lev8 (mixL u f ps) = true
 pow:u.length ^ f.length ≤ 256
 siz:∀ t ∈ gfT u f,t.length ≤ 8
theorem pow_le {m k:Nat} (hm:1 ≤ m) (h:m + k ≤ 8):m ^ k ≤ 256:=by
 have hc:∀ m,m ≤ 8→∀ k,k ≤ 8→(1 ≤ m∧m + k ≤ 8)→m ^ k ≤ 256:=by decide
 exact hc m (by omega) k (by omega) ⟨hm,h⟩
theorem gf_all {u:List Int} {f:List (List Int)} (hu:lev8 u = true) (hf:forB f = true) (h:u.length + sumLen f ≤ 8):GfF u f:=by
 have hup:=(lev8_lev hu).pos
 have hcu:=lev8_canon hu
 have hcl:=canon_len (lev8_lev hu)
 have hlev:=forB_lev hf
 have hfm:=for_mem hf (by omega)
 have hpos:f.length ≤ sumLen f:=len_le_sumLen f hlev
 have k1:=List.all_eq_true.1 (List.all_eq_true.1 (gf1_pair (a:=u.length - 1) (b:=sumLen f) (by omega)) f hfm) (canon u) (mem_levels _ _ (lev8_lev hcu) (by omega))
 rw [canon_idem (lev8_lev hu),Bool.or_eq_true] at k1
 have k1:=k1.resolve_left (fun e => by rw [decide_eq_true rfl] at e;cases e)
 have k2:=List.all_eq_true.1 (List.all_eq_true.1 (gf2_pair (a:=u.length - 1) (b:=sumLen f) (by omega)) f hfm) u (mem_levels _ _ (lev8_lev hu) (by omega))
 have k3:=List.all_eq_true.1 (List.all_eq_true.1 (List.all_eq_true.1 (List.all_eq_true.1 gf3_all (u.length - 1) (List.mem_range.2 (by omega))) (sumLen f) (List.mem_range.2 (by omega))) f hfm) u (mem_levels _ _ (lev8_lev hu) (by omega))
 have c3:∀ ps ∈ plcO u.length f.length,lev8 (mixL u f ps) = true:=fun ps hps => levQ_lev8 (List.all_eq_true.1 k3 ps hps)
 refine ⟨fun v hv => lev8_mk (hlev v hv) (by have:=sumLen_mem hv;omega),by omega,k1,?_,c3,pow_le hup (by omega),fun t ht => ?_⟩
 ·have e:gfX (canon u) f [] f.length = (plcX (canon u).length f.length).map fun p => canon (mixL (canon u) f p):=by unfold gfX;rfl
  rw [e,sumOf_perm ((plc_perm _ _).map _)]
  show sumOf (gfT (canon u) f) = _
  unfold gfC2 at k2
  rw [Bool.or_eq_true,decide_eq_true_eq,decide_eq_true_eq] at k2
  rcases k2 with k2|k2
  ·rw [k2]
  ·exact k2.symm
 ·obtain ⟨ps,hps,rfl⟩:=List.mem_map.1 ht
  have:=c3 ps hps
  rw [canon_len (lev8_lev this)]
  exact lev8_len this
end Go.Proofs.Ytgngidchldajhaa
namespace Go.Proofs.Ytgngidchldajhaa
open Go.RowKit
def dforF (code:List Int):Nat→Nat→(Nat × Int)→List (List Int)→List (List Int) × (Nat × Int)
 | 0,_,s,out => (out,s)
 | f + 1,left,s,out =>
  if left = 0 then (out,s) else
  let p:=drawF code s left
  if out ≠ []∧(out.getLastD []).length ≤ left then
   let c:=nxtF code p.2 3
   let t:=if c.1 = 0 then out.getLastD [] else canon p.1
   dforF code f (left - t.length) c.2 (out ++ [t])
  else dforF code f (left - (canon p.1).length) p.2 (out ++ [canon p.1])
def drawForF (code:List Int) (s:Nat × Int) (m:Int):List (List Int) × (Nat × Int) :=
 let n:=nxtF code s (m + 1)
 let r:=dforF code n.1.toNat n.1.toNat n.2 []
 (forest r.1,r.2)
structure FOk (n:Nat) (f:List (List Int)):Prop where
 lev:∀ t ∈ f,LevP t
 can:∀ t ∈ f,canon t = t
 sum:sumLen f ≤ n
theorem LevP.posL {t:List Int} (h:LevP t):0 < t.length:=h.pos
theorem FOk.snoc {n k:Nat} {f:List (List Int)} {t:List Int} (h:FOk n f) (hl:LevP t) (hc:canon t = t) (hk:t.length ≤ k):FOk (n + k) (f ++ [t]):=by
 refine ⟨fun x hx => ?_,fun x hx => ?_,?_⟩
 ·rcases List.mem_append.1 hx with hx|hx
  ·exact h.lev x hx
  ·rw [List.mem_singleton] at hx;subst hx;exact hl
 ·rcases List.mem_append.1 hx with hx|hx
  ·exact h.can x hx
  ·rw [List.mem_singleton] at hx;subst hx;exact hc
 ·have:=h.sum
  rw [sumLen_append]
  have:sumLen [t] = t.length:=by simp [sumLen]
  omega
theorem getLastL_mem {f:List (List Int)} (h:f ≠ []):f.getLastD [] ∈ f:=by
 cases f with
 | nil => exact absurd rfl h
 | cons a t => rw [List.getLastD_cons];exact (by cases t <;> simp [List.getLastD])
theorem dforF_ok {code:List Int} (hc:Bytes code):∀ (fu left n:Nat) {s:Nat × Int} {out:List (List Int)},FOk n out→s.1 ≤ code.length→FOk (n + left) (dforF code fu left s out).1∧(dforF code fu left s out).2.1 ≤ code.length
 | 0,left,n,s,out,h,hs => ⟨⟨h.lev,h.can,by have:=h.sum;show sumLen out ≤ _;omega⟩,hs⟩
 | fu + 1,left,n,s,out,h,hs => by
  have h':FOk (n + left) out:=⟨h.lev,h.can,by have:=h.sum;omega⟩
  unfold dforF
  split
  ·exact ⟨h',hs⟩
  ·rename_i hl0
   obtain ⟨h1,h2⟩:=drawF_ok hc (m:=left) hs
   have h3:=drawF_len hc (m:=left) hs (by omega)
   have hlev:=canon_lev h1.lev
   have hlen:=canon_len h1.lev
   have hidem:=canon_idem h1.lev
   obtain ⟨p,hp⟩:∃ p,p = drawF code s left:=⟨_,rfl⟩
   rw [← hp] at h1 h2 h3 hlev hlen hidem ⊢
   simp only
   have h3:p.1.length ≤ left:=by omega
   have key:∀ (t:List Int) (s':Nat × Int),LevP t→canon t = t→t.length ≤ left→s'.1 ≤ code.length→FOk (n + left) (dforF code fu (left - t.length) s' (out ++ [t])).1∧(dforF code fu (left - t.length) s' (out ++ [t])).2.1 ≤ code.length:=by
    intro t s' k1 k2 k3 k4
    have:=dforF_ok hc fu (left - t.length) (n + t.length) (h.snoc k1 k2 (Nat.le_refl _)) k4
    rw [show n + t.length + (left - t.length) = n + left by omega] at this
    exact this
   split
   ·rename_i ho
    have hm:=getLastL_mem ho.1
    have h4:=nxtF_at (n:=3) h2
    split
    ·exact key _ _ (h.lev _ hm) (h.can _ hm) ho.2 h4
    ·exact key _ _ hlev hidem (by omega) h4
   ·exact key _ _ hlev hidem (by omega) h2
theorem lastL_get {f:List (List Int)} (h:f ≠ []):Option.map eL f.getLast? = some [.sl 1 ((f.getLastD []).map eI)]:=by
 cases f with
 | nil => exact absurd rfl h
 | cons a t => rw [List.getLast?_cons,List.getLastD_cons,← List.getLastD_eq_getLast?];rfl
theorem len_sumD {f:List (List Int)} (h:∀ t ∈ f,LevP t):f.length ≤ sumLen f:=by
 induction f with
 | nil => exact Nat.le_refl _
 | cons a f ih =>
  have h1:=(h a (by simp)).pos
  have h2:=ih (fun t ht => h t (by simp [ht]))
  have e:sumLen (a :: f) = a.length + sumLen f:=by simp [sumLen]
  rw [e,List.length_cons];omega
def drawForG (code:List Int) (s:Nat × Int) (m:Int):List Res × (Nat × Int):=([.own 1 ((drawForF code s m).1.map eL) true],(drawForF code s m).2)
set_option maxRecDepth 20000 in
set_option maxHeartbeats 16000000 in
theorem p_l03DrawForest {code:List Int} (hc:Bytes code) (hl:code.length ≤ 1000000000):DrawsE Try.prog 83 code (drw1 (drawForG code)):=by
 refine drw1_of fun s m hs hm1 hm2 => ?_
 have hpin:=nxt_l01Next hc hl
 have hdw:=(p_l03Draw hc hl).ok
 have hw0:w64 (m + 1) = m + 1:=w64_eq (by omega)
 have hdr:=nxtE_eq code s (m + 1) hs
 have hbd:=nxtF_bd hc s (m + 1)
 have hat:=nxtF_at (n:=m + 1) hs
 unfold drawForG drawForF
 obtain ⟨⟨nn,s1⟩,hp⟩:∃ p,p = nxtF code s (m + 1):=⟨_,rfl⟩
 rw [← hp] at hdr hbd hat ⊢
 simp only [eI] at hdr hbd hat ⊢
 obtain ⟨n,rfl⟩:∃ n:Nat,nn = n:=⟨nn.toNat,by omega⟩
 have hn:n ≤ 1000:=by omega
 rw [Int.toNat_natCast]
 have hok:=(dforF_ok hc n n 0 (s:=s1) (out:=[]) ⟨by simp,by simp,by simp [sumLen]⟩ hat).1
 obtain ⟨Z,hZ⟩:∃ Z,Z = dforF code n n s1 []:=⟨_,rfl⟩
 rw [← hZ] at hok ⊢
 have hso:=a_l03Sort Z.1 (by
  have:=len_sumD (f:=Z.1) hok.lev
  have:=hok.sum
  omega) (fun b hb => by
  have:=sumLen_mem hb
  have:=hok.sum
  omega)
 simp only [eLL,eL] at hso
 refine AEp.of_runs (cfg_ok 60) Try.func83 rfl rfl rfl (fun _ => rfl) (by simp only [List.length_cons,List.length_nil];decide) ?_
 have hres:Try.f83.results.toList = [.tmp 4]:=rfl
 have hrts:Try.f83.resultTypes.toList = [34]:=rfl
 simp only [List.length_cons,List.length_nil,ownArg,if_true,argRegs,argAV1,eL,eI,eLL,eB,Nat.zero_add,Nat.reduceAdd]
 intro M og cap
 refine RunK.of ?_
 repeat' (first|with_reducible (first|refine Q1 ?_|refine Q2 ?_|refine Q3 ?_|refine Q4 ?_|refine Q5 ?_|refine Q6 ?_|refine Q7 ?_|refine Q8 ?_|refine Q9 ?_|refine Qa ?_|refine Qb ?_|refine Qc ?_|refine Qd ?_|refine Qe ?_|refine Qf ?_)|((with_reducible refine Qo ?_ ?_);focus rfl)|((with_reducible first|refine QT 8 (l:=?_) ?_ ?_|refine QF 8 (l:=?_) ?_ ?_);rotate_left 1;focus (simp only [Zu,Nat.reduceSub,Nat.reduceBEq];with_reducible rfl))|((with_reducible first|refine QS (cfg_ok 60) (Tab.none.pin 61 (nxtE code) hpin) (s':=?_) ?_ ?_|refine QC (b:=?_) ?_ ?_);rotate_left 1;focus ((with_reducible refine QW ?_);simp only [Zg,seval,if_true,if_false,reduceCtorEq,Nat.reduceEqDiff,hdr,nxtE,hw0];with_reducible rfl)))
 refine RunK.loop (β:=Nat × Nat × (Nat × Int) × List (List Int)) (γ:=Unit) (fun x => ⟨[(0,.optr 0 0 0),(5,.c (.own 5 x.2.2.2.length)),(6,.c (.val (.int x.2.1)))],[(0,.pin og cap 3 [srcD code x.2.2.1]),(5,.row 1 (x.2.2.2.map eL) false)]⟩)
  (fun x => x.2.1 ≤ x.1∧x.2.1 ≤ n∧x.2.2.1.1 ≤ code.length∧FOk (n - x.2.1) x.2.2.2∧dforF code x.1 x.2.1 x.2.2.1 x.2.2.2 = Z) (fun x => x.2.1)
  (fun _ => ⟨[(0,.optr 0 0 0),(5,.c (.own 5 Z.1.length))],[(0,.pin og cap 3 [srcD code Z.2]),(5,.row 1 (Z.1.map eL) false)]⟩) (fun _ => True) (n,n,s1,[]) ⟨Nat.le_refl _,Nat.le_refl _,hat,⟨by simp,by simp,by simp [sumLen]⟩,hZ.symm⟩ ?_ ?_ ?_
 ·(repeat' (first|with_reducible refine Qn|((with_reducible refine Qr ?_ ?_);focus (first|with_reducible rfl|(simp only [Zz,Nat.reduceBEq,List.map_nil,List.length_nil];done)|rfl))|((with_reducible refine Qj (o':=?_) ?_ ?_ ?_);rotate_left 1;focus rfl)|((with_reducible refine Qw ?_ ?_);(focus (first|with_reducible rfl|(simp only [Zv,List.map_nil,List.length_nil];done)));focus (first|exact id|exact (fun h => nomatch h)|exact (fun _ => rfl)))))
  all_goals first|exact ⟨rfl,rfl⟩|exact ⟨rfl,rfl,id⟩|exact ⟨rfl,rfl,rfl,rfl⟩|exact ⟨rfl,rfl,fun h => nomatch h⟩
 ·rintro ⟨k,left,s,out⟩ ⟨hlk,hln,hs,hfo,hdz⟩
  simp only at hlk hln hs hfo hdz
  by_cases h0:0 < left
  rotate_left
  ·obtain rfl:left = 0:=by omega
   have e:dforF code k 0 s out = (out,s):=by cases k <;> rfl
   rw [e] at hdz
   have i1:(((0:Nat):Int) > 0) = False:=eq_false (by omega)
   rw [← hdz]
   repeat' (first|with_reducible (first|refine Q1 ?_|refine Q2 ?_|refine Q3 ?_|refine Q4 ?_|refine Q5 ?_|refine Q6 ?_|refine Q7 ?_|refine Q8 ?_|refine Q9 ?_|refine Qa ?_|refine Qb ?_|refine Qc ?_|refine Qd ?_|refine Qe ?_|refine Qf ?_)|((with_reducible refine Qo ?_ ?_);focus rfl)|((with_reducible first|refine QT 8 (l:=?_) ?_ ?_|refine QF 8 (l:=?_) ?_ ?_);rotate_left 1;focus (simp only [Zu,Nat.reduceSub,Nat.reduceBEq];with_reducible rfl))|((with_reducible first|refine QS (cfg_ok 60) Tab.none (s':=?_) ?_ ?_|refine QC (b:=?_) ?_ ?_);rotate_left 1;focus ((with_reducible refine QW ?_);simp only [Zg,seval,if_true,if_false,reduceCtorEq,Nat.reduceEqDiff,i1];with_reducible rfl)))
   refine roundK.out () trivial ?_
   (repeat' (first|with_reducible refine Qn|((with_reducible refine Qr ?_ ?_);focus (first|with_reducible rfl|(simp only [Zz,Nat.reduceBEq];done)|rfl))|((with_reducible refine Qj (o':=?_) ?_ ?_ ?_);rotate_left 1;focus rfl)|((with_reducible refine Qw ?_ ?_);(focus (first|with_reducible rfl|(simp only [Zv];done)));focus (first|exact id|exact (fun h => nomatch h)|exact (fun _ => rfl)))))
   all_goals first|exact ⟨rfl,rfl⟩|exact ⟨rfl,rfl,id⟩|exact ⟨rfl,rfl,rfl,rfl⟩
  obtain ⟨k,rfl⟩:∃ j,k = j + 1:=⟨k - 1,by omega⟩
  have i1:((left:Int) > 0) = True:=eq_true (by omega)
  have hdt:drwG code (drw1 (drawG code)) 3 [srcD code s] [[.int (left:Int)]] = some ([.own 1 ((drawF code s left).1.map eI) true],[srcD code (drawF code s left).2]):=drw1_eq hs ⟨by omega,by omega⟩
  obtain ⟨g1,g2⟩:=drawF_ok hc (m:=left) hs
  have g3:=drawF_len hc (m:=left) hs (by omega)
  have gl:=canon_lev g1.lev
  have gn:=canon_len g1.lev
  have gi:=canon_idem g1.lev
  have hca:=a_l03CanonB (drawF code s left).1 g1.lev (by omega)
  have hds:dforF code (k + 1) left s out = (if out ≠ []∧(out.getLastD []).length ≤ left then
    dforF code k (left - (if (nxtF code (drawF code s left).2 3).1 = 0 then out.getLastD [] else canon (drawF code s left).1).length) (nxtF code (drawF code s left).2 3).2 (out ++ [if (nxtF code (drawF code s left).2 3).1 = 0 then out.getLastD [] else canon (drawF code s left).1])
   else dforF code k (left - (canon (drawF code s left).1).length) (drawF code s left).2 (out ++ [canon (drawF code s left).1])):=by
   show (if left = 0 then (out,s) else _) = _
   rw [if_neg (by omega)]
  rw [hds] at hdz
  obtain ⟨⟨p,s2⟩,hp2⟩:∃ q,q = drawF code s left:=⟨_,rfl⟩
  rw [← hp2] at hdt g1 g2 g3 gl gn gi hca hdz
  simp only at hdt g1 g2 g3 gl gn gi hca hdz
  obtain ⟨ct,hct⟩:∃ ct,ct = canon p:=⟨_,rfl⟩
  rw [← hct] at gl gn gi hca hdz
  have hol:=len_sumD (f:=out) hfo.lev
  have hos:=hfo.sum
  have hom:(out.map eL).length = out.length:=List.length_map _
  have q1:=big_le (n:=out.length + 1) (by omega)
  have q2:=big_mul (n:=out.length + 1) (c:=24) (by omega) (by omega)
  have hwl:w64 (((out.length + 1:Nat):Int) - 1) = (out.length:Int):=by rw [w64_eq (by omega)];omega
  have k2:((0:Int) ≤ (out.length:Int)) = True:=eq_true (by omega)
  have k3:((out.length:Int) < ((out.length + 1:Nat):Int)) = True:=eq_true (by omega)
  have key:∀ (t:List Int) (s':Nat × Int),LevP t→canon t = t→t.length ≤ left→s'.1 ≤ code.length→dforF code k (left - t.length) s' (out ++ [t]) = Z →
    (left - t.length ≤ k∧left - t.length ≤ n∧s'.1 ≤ code.length∧FOk (n - (left - t.length)) (out ++ [t])∧dforF code k (left - t.length) s' (out ++ [t]) = Z)∧left - t.length < left:=fun t s' h1 h2 h3 h4 h5 => by
   have:=h1.posL
   have hsn:=hfo.snoc h1 h2 (Nat.le_refl t.length)
   refine ⟨⟨by omega,by omega,h4,?_,h5⟩,by omega⟩
   rw [show n - (left - t.length) = n - left + t.length by omega]
   exact hsn
  have hgt:∀ t:List Int,(out.map eL ++ [[D.sl 1 (t.map eI)]])[out.length]? = some [D.sl 1 (t.map eI)]:=fun t => by
   rw [List.getElem?_append_right (by rw [hom];exact Nat.le_refl _),hom,Nat.sub_self];rfl
  have hgtl:∀ t:List Int,(out.map eL ++ [[D.sl 1 (t.map eI)]]).length = out.length + 1:=fun t => by rw [List.length_append,hom];rfl
  simp only [eL] at hca
  by_cases ho:out = []
  ·subst ho
   rw [if_neg (fun h => h.1 rfl)] at hdz
   obtain ⟨kk,kl⟩:=key ct s2 gl gi (by omega) g2 hdz
   have z1:(((0:Nat):Int) > 0) = False:=eq_false (by omega)
   have hcl:(ct.map eI).length = ct.length:=List.length_map _
   have hw6:w64 ((left:Int) - (ct.length:Int)) = ((left - ct.length:Nat):Int):=by rw [w64_eq (by omega)];omega
   have u1:w64 (1 - 1) = 0:=by rw [w64_eq (by omega)];rfl
   have u2:((0:Int) ≤ 0) = True:=eq_true (by omega)
   have u3:((0:Int) < 1) = True:=eq_true (by omega)
   have t0:(0:Int).toNat = 0:=rfl
   have u0:w64 0 = 0:=by rw [w64_eq (by omega)]
   have u1':w64 (((1:Nat):Int) - 1) = 0:=by rw [w64_eq (by omega)];rfl
   have u3':((0:Int) < ((1:Nat):Int)) = True:=eq_true (by omega)
   repeat' (first|with_reducible (first|refine Q1 ?_|refine Q2 ?_|refine Q3 ?_|refine Q4 ?_|refine Q5 ?_|refine Q6 ?_|refine Q7 ?_|refine Q8 ?_|refine Q9 ?_|refine Qa ?_|refine Qb ?_|refine Qc ?_|refine Qd ?_|refine Qe ?_|refine Qf ?_)|((with_reducible refine Qo ?_ ?_);focus rfl)|((with_reducible first|refine QT 8 (l:=?_) ?_ ?_|refine QF 8 (l:=?_) ?_ ?_);rotate_left 1;focus (simp only [Zu,Nat.reduceSub,Nat.reduceBEq];with_reducible rfl))|((with_reducible first|refine QS (cfg_ok 60) ((((Tab.none.pin 61 (nxtE code) hpin).pin 95 (drwE code (drw1 (drawG code))) hdw).at' 64 hca)) (s':=?_) ?_ ?_|refine QC (b:=?_) ?_ ?_);rotate_left 1;focus ((with_reducible refine QW ?_);simp only [Zg,seval,if_true,if_false,reduceCtorEq,Nat.reduceEqDiff,hdt,nxtE,drwE,i1,z1,q1,q2,hcl,hw6,u0,u1,u1',u2,u3,u3',t0];with_reducible rfl)))
   refine roundK.on (k,left - ct.length,s2,[ct]) ⟨kk,kl⟩ ?_
   (repeat' (first|with_reducible refine Qn|((with_reducible refine Qr ?_ ?_);focus (first|with_reducible rfl|(simp only [Zz,Nat.reduceBEq,List.map_cons,List.map_nil,eL,List.length_singleton];done)|rfl))|((with_reducible refine Qj (o':=?_) ?_ ?_ ?_);rotate_left 1;focus rfl)|((with_reducible refine Qw ?_ ?_);(focus (first|with_reducible rfl|(simp only [Zv,List.map_cons,List.map_nil,eL,List.length_singleton];done)));focus (first|exact id|exact (fun h => nomatch h)|exact (fun _ => rfl)))))
   all_goals first|exact ⟨rfl,rfl⟩|exact ⟨rfl,rfl,id⟩|exact ⟨rfl,rfl,rfl,rfl⟩|exact ⟨rfl,rfl,fun h => nomatch h⟩
  have hop:0 < out.length:=List.length_pos_iff.2 ho
  have z1:((out.length:Int) > 0) = True:=eq_true (by omega)
  have hlm:=getLastL_mem ho
  have hll:=sumLen_mem hlm
  have hlv:=hfo.lev _ hlm
  have hlc:=hfo.can _ hlm
  have hgl:(out.map eL)[out.length - 1]? = some [.sl 1 ((out.getLastD []).map eI)]:=by
   rw [List.getElem?_map,← List.getLast?_eq_getElem?]
   exact lastL_get ho
  obtain ⟨la,hla⟩:∃ la,la = out.getLastD []:=⟨_,rfl⟩
  rw [← hla] at hll hlv hlc hgl hdz
  have hlaM:(la.map eI).length = la.length:=List.length_map _
  have w5:w64 ((out.length:Int) - 1) = ((out.length - 1:Nat):Int):=by rw [w64_eq (by omega)];omega
  have k5:((0:Int) ≤ ((out.length - 1:Nat):Int)) = True:=eq_true (by omega)
  have k6:(((out.length - 1:Nat):Int) < (out.length:Int)) = True:=eq_true (by omega)
  have hcl:(ct.map eI).length = ct.length:=List.length_map _
  have tail:∀ (t:List Int) (s':Nat × Int),t.length ≤ left→(t.map eI).length = t.length∧w64 ((left:Int) - (t.length:Int)) = ((left - t.length:Nat):Int):=fun t s' h => ⟨List.length_map _,by rw [w64_eq (by omega)];omega⟩
  by_cases hle:la.length ≤ left
  rotate_left
  ·rw [if_neg (fun h => hle h.2)] at hdz
   obtain ⟨kk,kl⟩:=key ct s2 gl gi (by omega) g2 hdz
   have z2:((la.length:Int) ≤ (left:Int)) = False:=eq_false (by omega)
   obtain ⟨_,hw6⟩:=tail ct s2 (by omega)
   repeat' (first|with_reducible (first|refine Q1 ?_|refine Q2 ?_|refine Q3 ?_|refine Q4 ?_|refine Q5 ?_|refine Q6 ?_|refine Q7 ?_|refine Q8 ?_|refine Q9 ?_|refine Qa ?_|refine Qb ?_|refine Qc ?_|refine Qd ?_|refine Qe ?_|refine Qf ?_)|((with_reducible refine Qo ?_ ?_);focus rfl)|((with_reducible first|refine QT 8 (l:=?_) ?_ ?_|refine QF 8 (l:=?_) ?_ ?_);rotate_left 1;focus (simp only [Zu,Nat.reduceSub,Nat.reduceBEq];with_reducible rfl))|((with_reducible first|refine QS (cfg_ok 60) ((((Tab.none.pin 61 (nxtE code) hpin).pin 95 (drwE code (drw1 (drawG code))) hdw).at' 64 hca)) (s':=?_) ?_ ?_|refine QC (b:=?_) ?_ ?_);rotate_left 1;focus ((with_reducible refine QW ?_);simp only [Zg,seval,if_true,if_false,reduceCtorEq,Nat.reduceEqDiff,hdt,nxtE,drwE,i1,z1,z2,q1,q2,hcl,hw6,hom,w5,k5,k6,hgl,hlaM,hwl,k2,k3,hgt,hgtl,Int.toNat_natCast];with_reducible rfl)))
   refine roundK.on (k,left - ct.length,s2,out ++ [ct]) ⟨kk,kl⟩ ?_
   (repeat' (first|with_reducible refine Qn|((with_reducible refine Qr ?_ ?_);focus (first|with_reducible rfl|(simp only [Zz,Nat.reduceBEq,List.map_append,List.map_cons,List.map_nil,eL,List.length_append,List.length_singleton];done)|rfl))|((with_reducible refine Qj (o':=?_) ?_ ?_ ?_);rotate_left 1;focus rfl)|((with_reducible refine Qw ?_ ?_);(focus (first|with_reducible rfl|(simp only [Zv,List.map_append,List.map_cons,List.map_nil,eL,List.length_append,List.length_singleton];done)));focus (first|exact id|exact (fun h => nomatch h)|exact (fun _ => rfl)))))
   all_goals first|exact ⟨rfl,rfl⟩|exact ⟨rfl,rfl,id⟩|exact ⟨rfl,rfl,rfl,rfl⟩|exact ⟨rfl,rfl,fun h => nomatch h⟩
  ·rw [if_pos ⟨ho,hle⟩] at hdz
   have z2:((la.length:Int) ≤ (left:Int)) = True:=eq_true (by omega)
   have hd3:=nxtE_eq code s2 3 g2
   have ha3:=nxtF_at (n:=3) g2
   obtain ⟨⟨cc,s3⟩,hc3⟩:∃ q,q = nxtF code s2 3:=⟨_,rfl⟩
   rw [← hc3] at hd3 ha3 hdz
   simp only [eI] at hd3 ha3 hdz
   by_cases hc0:cc = 0
   ·subst hc0
    rw [if_pos rfl] at hdz
    obtain ⟨kk,kl⟩:=key la s3 hlv hlc hle ha3 hdz
    obtain ⟨_,hw6⟩:=tail la s3 hle
    have how:=a_l01Own la (by omega)
    simp only [eL] at how
    repeat' (first|with_reducible (first|refine Q1 ?_|refine Q2 ?_|refine Q3 ?_|refine Q4 ?_|refine Q5 ?_|refine Q6 ?_|refine Q7 ?_|refine Q8 ?_|refine Q9 ?_|refine Qa ?_|refine Qb ?_|refine Qc ?_|refine Qd ?_|refine Qe ?_|refine Qf ?_)|((with_reducible refine Qo ?_ ?_);focus rfl)|((with_reducible first|refine QT 8 (l:=?_) ?_ ?_|refine QF 8 (l:=?_) ?_ ?_);rotate_left 1;focus (simp only [Zu,Nat.reduceSub,Nat.reduceBEq];with_reducible rfl))|((with_reducible first|refine QS (cfg_ok 60) (((((Tab.none.pin 61 (nxtE code) hpin).pin 95 (drwE code (drw1 (drawG code))) hdw).at' 64 hca).at' 99 how)) (s':=?_) ?_ ?_|refine QC (b:=?_) ?_ ?_);rotate_left 1;focus ((with_reducible refine QW ?_);simp only [Zg,seval,if_true,if_false,reduceCtorEq,Nat.reduceEqDiff,hdt,hd3,nxtE,drwE,i1,z1,z2,q1,q2,hcl,hw6,hom,w5,k5,k6,hgl,hlaM,hwl,k2,k3,hgt,hgtl,Int.toNat_natCast];with_reducible rfl)))
    refine roundK.on (k,left - la.length,s3,out ++ [la]) ⟨kk,kl⟩ ?_
    (repeat' (first|with_reducible refine Qn|((with_reducible refine Qr ?_ ?_);focus (first|with_reducible rfl|(simp only [Zz,Nat.reduceBEq,List.map_append,List.map_cons,List.map_nil,eL,List.length_append,List.length_singleton];done)|rfl))|((with_reducible refine Qj (o':=?_) ?_ ?_ ?_);rotate_left 1;focus rfl)|((with_reducible refine Qw ?_ ?_);(focus (first|with_reducible rfl|(simp only [Zv,List.map_append,List.map_cons,List.map_nil,eL,List.length_append,List.length_singleton];done)));focus (first|exact id|exact (fun h => nomatch h)|exact (fun _ => rfl)))))
    all_goals first|exact ⟨rfl,rfl⟩|exact ⟨rfl,rfl,id⟩|exact ⟨rfl,rfl,rfl,rfl⟩|exact ⟨rfl,rfl,fun h => nomatch h⟩
   ·rw [if_neg hc0] at hdz
    obtain ⟨kk,kl⟩:=key ct s3 gl gi (by omega) ha3 hdz
    obtain ⟨_,hw6⟩:=tail ct s3 (by omega)
    have bc0:(cc == 0) = false:=by simp [hc0]
    repeat' (first|with_reducible (first|refine Q1 ?_|refine Q2 ?_|refine Q3 ?_|refine Q4 ?_|refine Q5 ?_|refine Q6 ?_|refine Q7 ?_|refine Q8 ?_|refine Q9 ?_|refine Qa ?_|refine Qb ?_|refine Qc ?_|refine Qd ?_|refine Qe ?_|refine Qf ?_)|((with_reducible refine Qo ?_ ?_);focus rfl)|((with_reducible first|refine QT 8 (l:=?_) ?_ ?_|refine QF 8 (l:=?_) ?_ ?_);rotate_left 1;focus (simp only [Zu,Nat.reduceSub,Nat.reduceBEq];with_reducible rfl))|((with_reducible first|refine QS (cfg_ok 60) ((((Tab.none.pin 61 (nxtE code) hpin).pin 95 (drwE code (drw1 (drawG code))) hdw).at' 64 hca)) (s':=?_) ?_ ?_|refine QC (b:=?_) ?_ ?_);rotate_left 1;focus ((with_reducible refine QW ?_);simp only [Zg,seval,if_true,if_false,reduceCtorEq,Nat.reduceEqDiff,hdt,hd3,nxtE,drwE,i1,z1,z2,bc0,q1,q2,hcl,hw6,hom,w5,k5,k6,hgl,hlaM,hwl,k2,k3,hgt,hgtl,Int.toNat_natCast];with_reducible rfl)))
    refine roundK.on (k,left - ct.length,s3,out ++ [ct]) ⟨kk,kl⟩ ?_
    (repeat' (first|with_reducible refine Qn|((with_reducible refine Qr ?_ ?_);focus (first|with_reducible rfl|(simp only [Zz,Nat.reduceBEq,List.map_append,List.map_cons,List.map_nil,eL,List.length_append,List.length_singleton];done)|rfl))|((with_reducible refine Qj (o':=?_) ?_ ?_ ?_);rotate_left 1;focus rfl)|((with_reducible refine Qw ?_ ?_);(focus (first|with_reducible rfl|(simp only [Zv,List.map_append,List.map_cons,List.map_nil,eL,List.length_append,List.length_singleton];done)));focus (first|exact id|exact (fun h => nomatch h)|exact (fun _ => rfl)))))
    all_goals first|exact ⟨rfl,rfl⟩|exact ⟨rfl,rfl,id⟩|exact ⟨rfl,rfl,rfl,rfl⟩|exact ⟨rfl,rfl,fun h => nomatch h⟩
 ·rintro _ _
  repeat' (first|with_reducible (first|refine Q1 ?_|refine Q2 ?_|refine Q3 ?_|refine Q4 ?_|refine Q5 ?_|refine Q6 ?_|refine Q7 ?_|refine Q8 ?_|refine Q9 ?_|refine Qa ?_|refine Qb ?_|refine Qc ?_|refine Qd ?_|refine Qe ?_|refine Qf ?_)|((with_reducible refine Qo ?_ ?_);focus rfl)|((with_reducible first|refine QT 8 (l:=?_) ?_ ?_|refine QF 8 (l:=?_) ?_ ?_);rotate_left 1;focus (simp only [Zu,Nat.reduceSub,Nat.reduceBEq];with_reducible rfl))|((with_reducible first|refine QS (cfg_ok 60) (Tab.none.at' 106 hso) (s':=?_) ?_ ?_|refine QC (b:=?_) ?_ ?_);rotate_left 1;focus ((with_reducible refine QW ?_);simp only [Zg,seval,if_true,if_false,reduceCtorEq,Nat.reduceEqDiff,eL];with_reducible rfl)))
  (refine EndsP.mk (by simp) (rs:=?_) (ks:=?_) (xs':=?_) hres hrts ?_ ?_ ?_ ?_ ?_;rotate_left 3;(focus (simp only [Ze,Zg,seval,if_true,if_false,reduceCtorEq,Nat.reduceEqDiff];with_reducible rfl));(focus simp);(focus simp);(focus (simp only [look,Nat.reduceEqDiff,Nat.reduceBEq,if_true,if_false];rfl));focus (first|exact ⟨rfl,rfl⟩|exact ⟨rfl,rfl,rfl⟩|skip))
end Go.Proofs.Ytgngidchldajhaa

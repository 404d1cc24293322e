/- Lemmas (22). -/
import Derived.Test.YtgngidchldajhaaGreatZA4
import Derived.Test.YtgngidchldajhaaGreatZA5
import Derived.Test.YtgngidchldajhaaGreatZA6
import Derived.Test.YtgngidchldajhaaGreatZA8
import Derived.Test.YtgngidchldajhaaGreatZA9
import Derived.Test.YtgngidchldajhaaGreatZA11
import Derived.Test.YtgngidchldajhaaGreatZA12
import Derived.Test.YtgngidchldajhaaGreatZA13
import Derived.Test.YtgngidchldajhaaGreatZA16
import Derived.Test.YtgngidchldajhaaGreatZA20
import Derived.Test.YtgngidchldajhaaGreatZA21
set_option linter.unusedSimpArgs false
set_option linter.unusedVariables false
namespace Go.Proofs.YtgngidchldajhaaGreat
open Go.RowKit
theorem c_symMerge (g:Nat) (c:List Int→List Int→Int) (hc:Cmp c) (ok:List Int→Prop) (eg:∀ args w,(callFunc g args).run Tryz.prog w = .ok (.enter g args) w) (hcmp:CmpAsk Tryz.prog g c ok):∀ N,MrgIH N g c ok
 | 0 => fun _ _ _ _ _ _ _ _ h => absurd h (Nat.not_lt_zero _)
 | N + 1 => fun a m b v xs lo hi w hN ho hok h1 h2 ham hmb hb hsz => by
  by_cases e1:m = a + 1
  ·exact c_symMerge1 g c hc ok eg hcmp a m b v xs lo hi w ho hok h1 h2 ham hmb hb hsz e1
  by_cases e2:b = m + 1
  ·exact c_symMerge2 g c hc ok eg hcmp a m b v xs lo hi w ho hok h1 h2 ham hmb hb hsz e2 e1
  by_cases e3:(a + b) / 2 < m
  ·exact c_symMerge3a g c hc ok eg hcmp a m b v xs lo hi w ho hok h1 h2 ham hmb hb hsz N (by omega) (c_symMerge g c hc ok eg hcmp N) e1 e2 e3
  ·exact c_symMerge3b g c hc ok eg hcmp a m b v xs lo hi w ho hok h1 h2 ham hmb hb hsz N (by omega) (c_symMerge g c hc ok eg hcmp N) e1 e2 e3
end Go.Proofs.YtgngidchldajhaaGreat
namespace Go.Proofs.YtgngidchldajhaaGreat
open Go.RowKit
section
variable {α:Type} {c:α→α→Int} {xs ys zs:List α}
def Mul (s a:Nat):Prop:=∃ k,a = k * s
theorem Mul.zero (s:Nat):Mul s 0:=⟨0,by simp⟩
theorem Mul.add {s a:Nat} (h:Mul s a):Mul s (a + s):=by obtain ⟨k,rfl⟩:=h;exact ⟨k + 1,by rw [Nat.succ_mul]⟩
theorem Mul.half {s t a:Nat} (ht:t = 2 * s) (h:Mul t a):Mul s a:=by obtain ⟨k,rfl⟩:=h;exact ⟨k * 2,by rw [ht,Nat.mul_assoc]⟩
theorem Mul.gap {t x a:Nat} (h:Mul t x) (k:Mul t a) (hlt:x < a):x + t ≤ a:=by
 obtain ⟨i,rfl⟩:=h
 obtain ⟨j,rfl⟩:=k
 have hij:i < j:=Nat.lt_of_not_le fun h => by have:=Nat.mul_le_mul_right t h;omega
 have:=Nat.mul_le_mul_right t (show i + 1 ≤ j from hij)
 rw [Nat.succ_mul] at this
 exact this
def Blk (c:α→α→Int) (s n:Nat) (xs:List α):Prop:=∀ x,Mul s x→SegOk c x (min (x + s) n) xs
def InB (c:α→α→Int) (s a:Nat) (xs:List α):Prop:=∀ x,Mul s x→x < a→SegOk c x (x + s) xs
theorem InB.zero (s:Nat):InB c s 0 xs:=fun _ _ h => absurd h (Nat.not_lt_zero _)
theorem InB.step {s a:Nat} (h:InB c s a xs) (ha:Mul s a) (hp:PermIn a (a + s) xs ys) (hs:SegOk c a (a + s) ys):InB c s (a + s) ys:=by
 intro x hx hlt
 by_cases e:x < a
 ·exact (h x hx e).perm hp (.inl (hx.gap ha e))
 ·by_cases e2:x = a
  ·subst e2;exact hs
  ·have:=ha.gap hx (by omega);omega
theorem InB.last {s a n:Nat} (h:InB c s a xs) (ha:Mul s a) (han:a ≤ n) (hn:n < a + s) (hp:PermIn a n xs ys) (hs:SegOk c a n ys):Blk c s n ys:=by
 intro x hx
 by_cases e:x < a
 ·have:=hx.gap ha e
  rw [Nat.min_eq_left (by omega)]
  exact (h x hx e).perm hp (.inl this)
 ·by_cases e2:x = a
  ·subst e2;rw [Nat.min_eq_right (by omega)];exact hs
  ·have:=ha.gap hx (by omega)
   intro p q hp hq h1 h2 h3
   omega
def Ph (c:α→α→Int) (s t a n:Nat) (xs:List α):Prop:=InB c t a xs∧∀ x,Mul s x→a ≤ x→SegOk c x (min (x + s) n) xs
theorem Ph.start {s t n:Nat} (h:Blk c s n xs):Ph c s t 0 n xs:=⟨.zero t,fun x hx _ => h x hx⟩
theorem Ph.one {s t a n:Nat} (ht:t = 2 * s) (h:Ph c s t a n xs) (ha:Mul t a) (hm:a + s ≤ n):SegOk c a (a + s) xs:=by
 have:=h.2 a (ha.half ht) (Nat.le_refl _)
 rwa [Nat.min_eq_left hm] at this
theorem Ph.two {s t a n:Nat} (ht:t = 2 * s) (h:Ph c s t a n xs) (ha:Mul t a) (b:Nat) (hb:b ≤ n) (hb2:b ≤ a + s + s):SegOk c (a + s) b xs :=
 (h.2 (a + s) (ha.half ht).add (by omega)).sub (Nat.le_refl _) (by omega)
theorem Ph.step {s t a n:Nat} (h:Ph c s t a n xs) (ha:Mul t a) (hp:PermIn a (a + t) xs ys) (hs:SegOk c a (a + t) ys):Ph c s t (a + t) n ys :=
 ⟨h.1.step ha hp hs,fun x hx hle => (h.2 x hx (by omega)).perm hp (.inr hle)⟩
theorem Ph.last2 {s t a n:Nat} (h:Ph c s t a n xs) (ha:Mul t a) (han:a ≤ n) (hn:n < a + t) (hp:PermIn a n xs ys) (hs:SegOk c a n ys):Blk c t n ys:=h.1.last ha han hn hp hs
theorem Ph.last1 {s t a n:Nat} (ht:t = 2 * s) (h:Ph c s t a n xs) (ha:Mul t a) (han:a ≤ n) (hn:n < a + t) (hm:n ≤ a + s):Blk c t n xs :=
 h.1.last ha han hn (PermIn.refl _ _ _) (by have:=h.2 a (ha.half ht) (Nat.le_refl _);rwa [Nat.min_eq_right hm] at this)
end
set_option maxRecDepth 100000 in
set_option maxHeartbeats 16000000 in
theorem c_stableCmpB (g:Nat) (c:List Int→List Int→Int) (hc:Cmp c) (ok:List Int→Prop) (eg:∀ args w,(callFunc g args).run Tryz.prog w = .ok (.enter g args) w) (hcmp:CmpAsk Tryz.prog g c ok)
  (v:Value) (xs:List (List Int)) (n:Nat) (hn:n = xs.length) (lo hi:Nat) (w:World) (ho:Own (RS (RS RI)) lo hi w [v] xs) (hok:∀ x ∈ xs,ok x) (hsz:xs.length ≤ 1000000000) :
  Calls Tryz.prog 212 #[v,.int .i64 n,.func (.func g) #[] #[]] w (Sorts c v xs lo hi w):=by
 have HIS:Hid (∀ (a b:Nat) (ys:List (List Int)) (w:World),Own (RS (RS RI)) lo hi w [v] ys→(∀ x ∈ ys,ok x)→a ≤ b→b ≤ ys.length→ys.length ≤ 1000000000→Calls Tryz.prog 247 #[v,.int .i64 a,.int .i64 b,.func (.func g) #[] #[]] w fun e w' => e = .returned (.tuple #[])∧∃ zs,PermIn a b ys zs∧SegOk c a b zs∧Own (RS (RS RI)) lo hi w' [v] zs∧Chg lo hi w w') :=
  Lib.hid fun a b ys w h1 h2 h3 h4 h5 => c_insertionSort g c hc ok eg hcmp a b v ys lo hi w h1 h2 h3 h4 h5
 have HSM:=Lib.hid (c_symMerge g c hc ok eg hcmp)
 have HC:=Lib.hid hc
 have HK:=Lib.hid hok
 have S0:=Lib.hid ho
 have HN:=Lib.hid hn
 have hnz:n ≤ 1000000000:=by omega
 obtain ⟨oa,cap,rfl,hv1,hv2⟩:=ho.val
 obtain ⟨L,hL⟩:∃ L,L = xs.length:=⟨_,rfl⟩
 rw [← hL] at S0 HIS ⊢
 clear hcmp hok ho eg hc hn hv1 hv2 hsz hL
 go_enter Tryz.func212,Tryz.ntmps212
 go_wp2_with fail
 go_loopg [7,8] n (fun g1 va vb wr => ∃ (a b:Nat) (ys:List (List Int)),va = .int .i64 a∧vb = .int .i64 b∧a ≤ n∧n - a ≤ g1∧Hid (b = a + 20∧Mul 20 a∧PermIn 0 n xs ys∧InB c 20 a ys∧Own (RS (RS RI)) lo hi wr [.slice oa L cap] ys∧Chg lo hi w wr))
 case atStart => exact ⟨0,20,xs,rfl,rfl,Nat.zero_le _,by omega,Lib.hid ⟨rfl,.zero 20,PermIn.refl _ _ _,.zero 20,S0.out,Chg.refl _ _ _⟩⟩
 case round =>
  clear S0
  obtain ⟨a,b,ys,rfl,rfl,han,hg1,HO⟩:=hrel
  have hyl:ys.length = n:=by rw [HO.out.2.2.1.len];exact HN.out.symm
  have HYK:Hid (∀ x ∈ ys,ok x):=Lib.hid fun x hx => HK.out x (HO.out.2.2.1.perm.mem_iff.1 hx)
  by_cases hlt:b ≤ n
  ·have hltz:(b:Int) ≤ (n:Int):=by omega
   have hba:=HO.out.1
   obtain ⟨b2,hb2⟩:∃ b2,b2 = b + 20:=⟨_,rfl⟩
   have wb:IntKind.i64.wrap ((b:Int) + 20) = (b2:Int):=by rw [IntWalk.i64_in _ (by omega)];omega
   have HI:=Lib.hid (HIS.out a b ys wr HO.out.2.2.2.2.1 HYK.out (by omega) (by omega) (by omega))
   have hb3:=Lib.hid hb2
   clear hb2 hba
   go_wp2_with (go_at_call 247;refine HI.out.mono ?_;rintro e w' ⟨rfl,zs,z1,z2,z3,z4⟩)
   have HZ:Hid (b2 = b + 20∧Mul 20 b∧PermIn 0 n xs zs∧InB c 20 b zs∧Own (RS (RS RI)) lo hi w' [.slice oa L cap] zs∧Chg lo hi w w'):=Lib.hid (by
    have hba:=HO.out.1
    refine ⟨hb3.out,by rw [hba];exact HO.out.2.1.add,HO.out.2.2.1.trans (z1.mono (Nat.zero_le _) hlt),?_,z3,HO.out.2.2.2.2.2.trans z4⟩
    rw [hba]
    rw [hba] at z1 z2
    exact HO.out.2.2.2.1.step HO.out.2.1 z1 z2)
   have hba:=HO.out.1
   clear z1 z2 z3 z4 HI HO hb3 wb
   go_wp2_with fail
   go_roundg (n - b)
   case measure => omega
   case rel => exact ⟨b,b2,zs,rfl,rfl,hlt,Nat.le_refl _,HZ⟩
  ·have hltz:¬ (b:Int) ≤ (n:Int):=by omega
   have hba:=HO.out.1
   have HI:=Lib.hid (HIS.out a n ys wr HO.out.2.2.2.2.1 HYK.out han (by omega) (by omega))
   clear hba
   go_wp2_with (go_at_call 247;refine HI.out.mono ?_;rintro e w1 ⟨rfl,zs,z1,z2,z3,z4⟩)
   have HZ:Hid (PermIn 0 n xs zs∧Blk c 20 n zs∧Own (RS (RS RI)) lo hi w1 [.slice oa L cap] zs∧Chg lo hi w w1):=Lib.hid
    ⟨HO.out.2.2.1.trans (z1.mono (Nat.zero_le _) (Nat.le_refl _)),HO.out.2.2.2.1.last HO.out.2.1 han (by have:=HO.out.1;omega) z1 z2,z3,HO.out.2.2.2.2.2.trans z4⟩
   clear z1 z2 z3 z4 HI HO HYK hyl
   go_loopg [6] n (fun g2 vs wr => ∃ (s:Nat) (us:List (List Int)),vs = .int .i64 s∧20 ≤ s∧s ≤ 2 * n + 20∧n - s ≤ g2∧Hid (PermIn 0 n xs us∧Blk c s n us∧Own (RS (RS RI)) lo hi wr [.slice oa L cap] us∧Chg lo hi w wr))
   case atStart => exact ⟨20,zs,rfl,Nat.le_refl _,by omega,by omega,HZ⟩
   case round =>
    clear HZ
    obtain ⟨s,us,rfl,hs20,hs2,hg2,HU⟩:=hrel
    by_cases hsn:s < n
    ·have hsnz:(s:Int) < (n:Int):=by omega
     obtain ⟨t,ht⟩:∃ t,t = 2 * s:=⟨_,rfl⟩
     have wt:IntKind.i64.wrap (2 * (s:Int)) = (t:Int):=by rw [IntWalk.i64_in _ (by omega)];omega
     have wt2:IntKind.i64.wrap ((s:Int) * 2) = (t:Int):=by rw [IntWalk.i64_in _ (by omega)];omega
     have ht2:t ≤ 2 * n:=by omega
     have hst:s < t:=by omega
     have HT:=Lib.hid ht
     clear ht
     go_wp2_with fail
     go_loopg [7,8] n (fun g3 va vb wr => ∃ (a b:Nat) (ys:List (List Int)),va = .int .i64 a∧vb = .int .i64 b∧a ≤ n∧n - a ≤ g3∧Hid (b = a + t∧Mul t a∧PermIn 0 n xs ys∧Ph c s t a n ys∧Own (RS (RS RI)) lo hi wr [.slice oa L cap] ys∧Chg lo hi w wr))
     case atStart => exact ⟨0,t,us,rfl,by first|rfl|go_num,Nat.zero_le _,by omega,Lib.hid ⟨by omega,.zero t,HU.out.1,.start HU.out.2.1,HU.out.2.2.1,HU.out.2.2.2⟩⟩
     case round =>
      clear HU
      obtain ⟨a,b,ys,rfl,rfl,han,hg3,HO⟩:=hrel
      have hyl:ys.length = n:=by rw [HO.out.2.2.1.len];exact HN.out.symm
      have HYK:Hid (∀ x ∈ ys,ok x):=Lib.hid fun x hx => HK.out x (HO.out.2.2.1.perm.mem_iff.1 hx)
      obtain ⟨m,hm⟩:∃ m,a + s = m:=⟨_,rfl⟩
      have wm:IntKind.i64.wrap ((a:Int) + (s:Int)) = (m:Int):=i64_add hm (by omega)
      by_cases hlt:b ≤ n
      ·have hltz:(b:Int) ≤ (n:Int):=by omega
       have hba:=HO.out.1
       have hto:=HT.out
       obtain ⟨b2,hb2⟩:∃ b2,b + t = b2:=⟨_,rfl⟩
       have wb:IntKind.i64.wrap ((b:Int) + (t:Int)) = (b2:Int):=i64_add hb2 (by omega)
       have HI:=Lib.hid (HSM.out (b - a + 1) a m b (.slice oa L cap) ys lo hi wr (by omega) HO.out.2.2.2.2.1 HYK.out (by rw [← hm];exact HO.out.2.2.2.1.one hto HO.out.2.1 (by omega)) (by rw [← hm];exact HO.out.2.2.2.1.two hto HO.out.2.1 b hlt (by omega)) (by omega) (by omega) (by omega) (by omega))
       have hb3:=Lib.hid hb2
       clear hb2 hba hto hm
       go_wp2_with (go_at_call 248;refine HI.out.mono ?_;rintro e w' ⟨rfl,zs,z1,z2,z3,z4⟩)
       have HZ:Hid (b2 = b + t∧Mul t b∧PermIn 0 n xs zs∧Ph c s t b n zs∧Own (RS (RS RI)) lo hi w' [.slice oa L cap] zs∧Chg lo hi w w'):=Lib.hid (by
        have hba:=HO.out.1
        refine ⟨hb3.out.symm,by rw [hba];exact HO.out.2.1.add,HO.out.2.2.1.trans (z1.mono (Nat.zero_le _) hlt),?_,z3,HO.out.2.2.2.2.2.trans z4⟩
        rw [hba]
        rw [hba] at z1 z2
        exact HO.out.2.2.2.1.step HO.out.2.1 z1 z2)
       have hba:=HO.out.1
       clear z1 z2 z3 z4 HI HO hb3 wm
       go_wp2_with fail
       go_roundg (n - b)
       case measure => omega
       case rel => exact ⟨b,b2,zs,rfl,by first|rfl|go_num,hlt,Nat.le_refl _,HZ⟩
      ·have hltz:¬ (b:Int) ≤ (n:Int):=by omega
       by_cases hmn:m < n
       ·have hmnz:(m:Int) < (n:Int):=by omega
        have hba:=HO.out.1
        have hto:=HT.out
        have HI:=Lib.hid (HSM.out (n - a + 1) a m n (.slice oa L cap) ys lo hi wr (by omega) HO.out.2.2.2.2.1 HYK.out (by rw [← hm];exact HO.out.2.2.2.1.one hto HO.out.2.1 (by omega)) (by rw [← hm];exact HO.out.2.2.2.1.two hto HO.out.2.1 n (Nat.le_refl _) (by omega)) (by omega) (by omega) (by omega) (by omega))
        clear hba hto hm
        go_wp2_with (go_at_call 248;refine HI.out.mono ?_;rintro e w' ⟨rfl,zs,z1,z2,z3,z4⟩)
        have HZ:Hid (PermIn 0 n xs zs∧Blk c t n zs∧Own (RS (RS RI)) lo hi w' [.slice oa L cap] zs∧Chg lo hi w w'):=Lib.hid
         ⟨HO.out.2.2.1.trans (z1.mono (Nat.zero_le _) (Nat.le_refl _)),HO.out.2.2.2.1.last2 HO.out.2.1 han (by have:=HO.out.1;omega) z1 z2,z3,HO.out.2.2.2.2.2.trans z4⟩
        clear z1 z2 z3 z4 HI HO wm
        go_wp2_with fail
        go_roundg (n - t)
        case measure => omega
        case rel => exact ⟨t,zs,by first|rfl|go_num,by omega,by omega,Nat.le_refl _,HZ⟩
       ·have hmnz:¬ (m:Int) < (n:Int):=by omega
        have HZ:Hid (PermIn 0 n xs ys∧Blk c t n ys∧Own (RS (RS RI)) lo hi wr [.slice oa L cap] ys∧Chg lo hi w wr):=Lib.hid
         ⟨HO.out.2.2.1,HO.out.2.2.2.1.last1 HT.out HO.out.2.1 han (by have:=HO.out.1;omega) (by omega),HO.out.2.2.2.2.1,HO.out.2.2.2.2.2⟩
        clear HO hm
        go_wp2_with fail
        go_roundg (n - t)
        case measure => omega
        case rel => exact ⟨t,ys,by first|rfl|go_num,by omega,by omega,Nat.le_refl _,HZ⟩
    ·have hsnz:¬ (s:Int) < (n:Int):=by omega
     go_wp2_with fail
     go_end0
     refine ⟨rfl,?_,HU.out.2.2.2⟩
     have hseg:SegOk c 0 n us:=by
      have:=HU.out.2.1 0 (.zero s)
      rwa [Nat.min_eq_right (by omega)] at this
     have hul:us.length = n:=by rw [HU.out.1.len];exact HN.out.symm
     rw [← sortC_unique HC.out HU.out.1.perm (hseg.pairwise (by omega))]
     exact HU.out.2.2.1
set_option maxRecDepth 100000 in
set_option maxHeartbeats 1000000 in
theorem c_SortStableB (g:Nat) (c:List Int→List Int→Int) (hc:Cmp c) (ok:List Int→Prop) (eg:∀ args w,(callFunc g args).run Tryz.prog w = .ok (.enter g args) w) (hcmp:CmpAsk Tryz.prog g c ok)
  (v:Value) (xs:List (List Int)) (lo hi:Nat) (w:World) (ho:Own (RS (RS RI)) lo hi w [v] xs) (hok:∀ x ∈ xs,ok x) (hsz:xs.length ≤ 1000000000) :
  Calls Tryz.prog 149 #[v,.func (.func g) #[] #[]] w (Sorts c v xs lo hi w):=by
 have hp:=c_stableCmpB g c hc ok eg hcmp v xs xs.length rfl lo hi w ho hok hsz
 obtain ⟨oa,cap,rfl,hv1,hv2⟩:=ho.val
 clear hcmp hok ho eg hc
 go_enter Tryz.func149,Tryz.ntmps149
 go_wp2_with (go_at_call 212;refine hp.mono ?_;rintro e w' ⟨rfl,h1,h2⟩)
 go_end0
 exact ⟨rfl,h1,h2⟩
end Go.Proofs.YtgngidchldajhaaGreat
namespace Go.Proofs.YtgngidchldajhaaGreat
open Go.RowKit
set_option maxRecDepth 100000 in
set_option maxHeartbeats 1000000 in
theorem c_impl_forestOfB (v:Value) (bs:List (List Int)) (w:World) (h:Rd (RS (RS RI)) w [v] bs) (hsz:bs.length ≤ 1000000000) (hsl:∀ b ∈ bs,b.length ≤ 1000000000) :
  Calls Tryz.prog 77 #[v] w (RetO (RS (RS RI)) w (forest bs)):=by
 have hc:=c_impl_cloneRows v bs w h (by omega) hsl
 have EG:=Lib.hid (enters (P:=Tryz.prog) (f:=150) Tryz.func150 (by kernel_rfl) rfl)
 have HA:Hid (CmpAsk Tryz.prog 150 cmpT (fun _ => True)):=Lib.hid (fun w h1 h2 x y r1 r2 _ _ => c_impl_compareTrees h1 h2 x y w r1 r2)
 clear h hsl
 go_enter Tryz.func77,Tryz.ntmps77
 go_wp2_with (go_at_call 148;refine hc.mono ?_;rintro e w1 ⟨u,rfl,o1,b1⟩;obtain ⟨ou,cu,rfl,lu1,lu2⟩:=o1.val)
 have hs:=c_SortStableB 150 cmpT cmpT_cmp (fun _ => True) EG.out HA.out _ bs w.heap.size w1.heap.size w1 o1 (fun _ _ => trivial) (by omega)
 have hb1:=b1.size
 clear o1 hc
 go_wp2_with (go_at_call 149;refine hs.mono ?_;rintro e w3 ⟨rfl,o3,ch3⟩)
 go_ret
 have hb3:Below w.heap.size w w3:=b1.trans (ch3.below (Nat.le_refl _) hb1)
 exact ⟨_,rfl,o3.mono (Nat.le_refl _) ch3.size,hb3⟩
theorem a_forestOfB (f:List (List Int)) (hl:f.length ≤ 1000000000) (hs:sumLen f ≤ 1000000000):AFn Tryz.prog 77 [eLL f] (· = [.own 1 ((forest f).map eL) true]) :=
 afn_LLL_oo (enters_of Tryz.func77 rfl rfl) (fun u w h => c_impl_forestOfB u f w h hl (fun b hb => Nat.le_trans (sumLen_mem hb) hs))
set_option maxHeartbeats 4000000 in
theorem a_countedB (ts:List (List Int)) (hl:ts.length ≤ 100000) (hs:sumLen ts ≤ 1000000):AFn Tryz.prog 82 [eLL ts] (· = [.own 2 ((cntOf ts).map eCt) true]):=by
 have hfo:=a_forestOfB ts (by omega) (by omega)
 refine AFn.of_runs (cfg_ok 45) Tryz.func82 rfl rfl rfl (by simp only [List.length_cons,List.length_nil];decide) ?_
 have hres:Tryz.f82.results.toList = [.tmp 2]:=rfl
 have hrts:Tryz.f82.resultTypes.toList = [35]:=rfl
 simp only [argRegs,argAV1,eL,eI,eLL,eB,Nat.zero_add,Nat.reduceAdd]
 intro M
 refine RunK.of ?_
 repeat' (first|with_reducible (first|refine Q1 ?_|refine Q2 ?_|refine Q3 ?_|refine Q4 ?_|refine Q5 ?_|refine Q6 ?_|refine Q7 ?_|refine Q8 ?_|refine Q9 ?_|refine Qa ?_|refine Qb ?_|refine Qc ?_|refine Qd ?_|refine Qe ?_|refine Qf ?_)|((with_reducible refine Qo ?_ ?_);focus rfl)|((with_reducible first|refine QT 12 (l:=?_) ?_ ?_|refine QF 12 (l:=?_) ?_ ?_);rotate_left 1;focus (simp only [Zu,Nat.reduceSub,Nat.reduceBEq];with_reducible rfl))|((with_reducible first|refine QS (cfg_ok 45) Tab.none (s':=?_) ?_ ?_|refine QC (b:=?_) ?_ ?_);rotate_left 1;focus ((with_reducible refine QW ?_);simp only [Zg,seval,if_true,if_false,reduceCtorEq,Nat.reduceEqDiff];with_reducible rfl)))
 refine RunK.regTag (cfg_ok 45) (Tab.none.at' 77 hfo) 2 9 (k:=1) (xs:=(forest ts).map eL) (s1:=?_) ?_ ?_ ?_
 rotate_left 1
 focus (simp only [Zg,seval,if_true,if_false,reduceCtorEq,Nat.reduceEqDiff,eL,eLL];with_reducible rfl)
 focus rfl
 intro xs' F ht hnd hF
 obtain ⟨ps,e1,e2,e3⟩:=tag_rows ht
 subst e2
 have hpl:ps.length = ts.length:=by
  have:=congrArg List.length e1
  rw [List.length_map] at this
  rw [← this]
  exact (show (sortC cmpT ts).Perm ts from sortC_perm ts).length_eq
 refine ROps.opsT (cfg_ok 45) (T:=Tab.none) (s':=?_) ?_ ?_
 rotate_left 1
 focus (simp only [Zg,seval,if_true,if_false,reduceCtorEq,Nat.reduceEqDiff,List.length_map];with_reducible rfl)
 repeat' (first|with_reducible (first|refine Q1 ?_|refine Q2 ?_|refine Q3 ?_|refine Q4 ?_|refine Q5 ?_|refine Q6 ?_|refine Q7 ?_|refine Q8 ?_|refine Q9 ?_|refine Qa ?_|refine Qb ?_|refine Qc ?_|refine Qd ?_|refine Qe ?_|refine Qf ?_)|((with_reducible refine Qo ?_ ?_);focus rfl)|((with_reducible first|refine QT 12 (l:=?_) ?_ ?_|refine QF 12 (l:=?_) ?_ ?_);rotate_left 1;focus (simp only [Zu,Nat.reduceSub,Nat.reduceBEq];with_reducible rfl))|((with_reducible first|refine QS (cfg_ok 45) Tab.none (s':=?_) ?_ ?_|refine QC (b:=?_) ?_ ?_);rotate_left 1;focus ((with_reducible refine QW ?_);simp only [Zg,seval,if_true,if_false,reduceCtorEq,Nat.reduceEqDiff];with_reducible rfl)))
 obtain ⟨R,hR⟩:∃ R,R = fun i => runsF (fun p:List Int × List Nat => p.1) (ps.take i):=⟨_,rfl⟩
 have hRb:∀ i,i ≤ ps.length→(R i).length ≤ 100000∧∀ z ∈ R i,1 ≤ z.2∧z.2 ≤ 100000:=fun i hi => by
  rw [hR]
  obtain ⟨h1,h2⟩:=runsF_sub (fun p:List Int × List Nat => p.1) _ (ps.take i) rfl
  have h3:=h1.length_le
  rw [List.length_map,List.length_take] at h3
  rw [List.length_take] at h2
  exact ⟨by show (runsF _ _).length ≤ 100000;omega,fun z hz => by have:=h2 z hz;omega⟩
 refine RunK.loop (β:=Nat) (γ:=Unit) (fun i => ⟨[(3,.c (.own 3 (R i).length)),(9,.c (.own 9 ps.length)),(10,.c (.val (.int ps.length))),(11,.c (.val (.int i)))],[(3,.row 2 ((R i).map eCtT) false),(9,.row 1 (ps.map eLT) false)]⟩) (fun i => i ≤ ps.length) (fun i => ps.length - i)
  (fun _ => ⟨[(3,.c (.own 3 (R ps.length).length))],[(3,.row 2 ((R ps.length).map eCtT) false)]⟩) (fun _ => True) 0 (Nat.zero_le _) ?_ ?_ ?_
 ·have e0:R 0 = []:=by rw [hR];rfl
  have hfl:(forest ts).length = ps.length:=by rw [hpl];exact (show (sortC cmpT ts).Perm ts from sortC_perm ts).length_eq
  rw [e0,hfl]
  (repeat' (first|with_reducible refine Qn|((with_reducible refine Qr ?_ ?_);focus (first|with_reducible rfl|(simp only [Zz,Nat.reduceBEq,List.map_nil,List.length_map,Int.natCast_zero];done)|rfl))|((with_reducible refine Qj (o':=?_) ?_ ?_ ?_);rotate_left 1;focus rfl)|((with_reducible refine Qw ?_ ?_);(focus (first|with_reducible rfl|(simp only [Zv,List.map_nil,List.length_map,Int.natCast_zero];done)));focus (first|exact id|exact (fun h => nomatch h)|exact (fun _ => rfl)))))
 ·intro i hi
  have hi:i ≤ ps.length:=hi
  have hw:=w64_succ (n:=i) (by omega)
  obtain ⟨hb1,hb2⟩:=hRb i hi
  by_cases h:i < ps.length
  ·have i1:((i:Int) < (ps.length:Int)) = True:=eq_true (by omega)
   have i2:((0:Int) ≤ (i:Int)) = True:=eq_true (by omega)
   obtain ⟨p,hp⟩:∃ p,p = ps[i]:=⟨_,rfl⟩
   have hg:(ps.map eLT)[i]? = some [.tag p.2 (.sl 1 (p.1.map eI))]:=by rw [map_get h,hp];rfl
   have hst:R (i + 1) = stepC (fun p:List Int × List Nat => p.1) (R i) p:=by
    rw [hR]
    show runsF _ (ps.take (i + 1)) = stepC _ (runsF _ (ps.take i)) p
    rw [List.take_succ_eq_append_getElem h,runsF_snoc,hp]
   have q1:=big_le (n:=(R i).length + 1) (by omega)
   have q2:=big_mul (n:=(R i).length + 1) (c:=32) (by omega) (by omega)
   by_cases h0:R i = []
   ·rw [h0,stepC_nil] at hst
    have j1:(((0:Nat):Int) > 0) = False:=eq_false (by omega)
    rw [h0] at q1 q2 ⊢
    simp only [List.length_nil] at q1 q2
    repeat' (first|with_reducible (first|refine Q1 ?_|refine Q2 ?_|refine Q3 ?_|refine Q4 ?_|refine Q5 ?_|refine Q6 ?_|refine Q7 ?_|refine Q8 ?_|refine Q9 ?_|refine Qa ?_|refine Qb ?_|refine Qc ?_|refine Qd ?_|refine Qe ?_|refine Qf ?_)|((with_reducible refine Qo ?_ ?_);focus rfl)|((with_reducible first|refine QT 12 (l:=?_) ?_ ?_|refine QF 12 (l:=?_) ?_ ?_);rotate_left 1;focus (simp only [Zu,Nat.reduceSub,Nat.reduceBEq];with_reducible rfl))|((with_reducible first|refine QS (cfg_ok 45) TEq (s':=?_) ?_ ?_|refine QC (b:=?_) ?_ ?_);rotate_left 1;focus ((with_reducible refine QW ?_);simp only [Zg,seval,if_true,if_false,reduceCtorEq,Nat.reduceEqDiff,TEq,i1,i2,hg,hw,j1,q1,q2,Int.toNat_natCast,List.length_map,List.length_nil];with_reducible rfl)))
    refine roundK.on (i + 1) ⟨h,by omega⟩ ?_
    rw [hst]
    (repeat' (first|with_reducible refine Qn|((with_reducible refine Qr ?_ ?_);focus (first|with_reducible rfl|(simp only [Zz,Nat.reduceBEq,eCtT,List.map_nil];done)|rfl))|((with_reducible refine Qj (o':=?_) ?_ ?_ ?_);rotate_left 1;focus rfl)|((with_reducible refine Qw ?_ ?_);(focus (first|with_reducible rfl|(simp only [Zv,eCtT,List.map_nil];done)));focus (first|exact id|exact (fun h => nomatch h)|exact (fun _ => rfl)))))
   ·obtain ⟨out,z,ez⟩:=snoc_of h0
    have hzb:=hb2 z (by rw [ez];simp)
    rw [ez] at hst hb1 q1 q2 ⊢
    simp only [List.length_append,List.length_singleton] at hb1 q1 q2
    have hlz:(out ++ [z]).length = out.length + 1:=by simp
    have j1:((((out.length + 1:Nat)):Int) > 0) = True:=eq_true (by omega)
    have hw1:w64 (((out.length + 1:Nat):Int) - 1) = ((out.length:Nat):Int):=by rw [w64_eq (by omega)];omega
    have i3:((0:Int) ≤ ((out.length:Nat):Int)) = True:=eq_true (by omega)
    have i4:(((out.length:Nat):Int) < ((out.length + 1:Nat):Int)) = True:=eq_true (by omega)
    have hgz:((out ++ [z]).map eCtT)[out.length]? = some [.tag z.1.2 (.sl 1 (z.1.1.map eI)),.int z.2]:=by
     rw [List.map_append,List.getElem?_append_right (by simp)];simp [eCtT]
    by_cases he:z.1.1 = p.1
    ·rw [stepC_eq _ out z p he] at hst
     have hd:decide (z.1.1 = p.1) = true:=decide_eq_true he
     have hwz:=w64_eq (n:=z.2 + 1) (by omega)
     repeat' (first|with_reducible (first|refine Q1 ?_|refine Q2 ?_|refine Q3 ?_|refine Q4 ?_|refine Q5 ?_|refine Q6 ?_|refine Q7 ?_|refine Q8 ?_|refine Q9 ?_|refine Qa ?_|refine Qb ?_|refine Qc ?_|refine Qd ?_|refine Qe ?_|refine Qf ?_)|((with_reducible refine Qo ?_ ?_);focus rfl)|((with_reducible first|refine QT 12 (l:=?_) ?_ ?_|refine QF 12 (l:=?_) ?_ ?_);rotate_left 1;focus (simp only [Zu,Nat.reduceSub,Nat.reduceBEq];with_reducible rfl))|((with_reducible first|refine QS (cfg_ok 45) TEq (s':=?_) ?_ ?_|refine QC (b:=?_) ?_ ?_);rotate_left 1;focus ((with_reducible refine QW ?_);simp only [Zg,seval,if_true,if_false,reduceCtorEq,Nat.reduceEqDiff,TEq,TEq,i1,i2,i3,i4,hg,hgz,hlz,hw,hw1,hwz,hd,j1,Int.toNat_natCast,List.length_map];with_reducible rfl)))
     have hse:((out ++ [z]).map eCtT).set out.length [.tag z.1.2 (.sl 1 (z.1.1.map eI)),.int (z.2 + 1)] = (out ++ [(z.1,z.2 + 1)]).map eCtT:=by
      rw [List.map_append,List.set_append_right _ _ (by simp)];simp [eCtT]
     refine roundK.on (i + 1) ⟨h,by omega⟩ ?_
     rw [hst,hse]
     (repeat' (first|with_reducible refine Qn|((with_reducible refine Qr ?_ ?_);focus (first|with_reducible rfl|(simp only [Zz,Nat.reduceBEq,eCtT];done)|rfl))|((with_reducible refine Qj (o':=?_) ?_ ?_ ?_);rotate_left 1;focus rfl)|((with_reducible refine Qw ?_ ?_);(focus (first|with_reducible rfl|(simp only [Zv,eCtT];done)));focus (first|exact id|exact (fun h => nomatch h)|exact (fun _ => rfl)))))
    ·rw [stepC_ne _ out z p he] at hst
     have hd:decide (z.1.1 = p.1) = false:=decide_eq_false he
     repeat' (first|with_reducible (first|refine Q1 ?_|refine Q2 ?_|refine Q3 ?_|refine Q4 ?_|refine Q5 ?_|refine Q6 ?_|refine Q7 ?_|refine Q8 ?_|refine Q9 ?_|refine Qa ?_|refine Qb ?_|refine Qc ?_|refine Qd ?_|refine Qe ?_|refine Qf ?_)|((with_reducible refine Qo ?_ ?_);focus rfl)|((with_reducible first|refine QT 12 (l:=?_) ?_ ?_|refine QF 12 (l:=?_) ?_ ?_);rotate_left 1;focus (simp only [Zu,Nat.reduceSub,Nat.reduceBEq];with_reducible rfl))|((with_reducible first|refine QS (cfg_ok 45) TEq (s':=?_) ?_ ?_|refine QC (b:=?_) ?_ ?_);rotate_left 1;focus ((with_reducible refine QW ?_);simp only [Zg,seval,if_true,if_false,reduceCtorEq,Nat.reduceEqDiff,TEq,TEq,i1,i2,i3,i4,hg,hgz,hlz,hw,hw1,hd,j1,q1,q2,Int.toNat_natCast,List.length_map];with_reducible rfl)))
     refine roundK.on (i + 1) ⟨h,by omega⟩ ?_
     rw [hst]
     (repeat' (first|with_reducible refine Qn|((with_reducible refine Qr ?_ ?_);focus (first|with_reducible rfl|(simp only [Zz,Nat.reduceBEq,eCtT];done)|rfl))|((with_reducible refine Qj (o':=?_) ?_ ?_ ?_);rotate_left 1;focus rfl)|((with_reducible refine Qw ?_ ?_);(focus (first|with_reducible rfl|(simp only [Zv,eCtT];done)));focus (first|exact id|exact (fun h => nomatch h)|exact (fun _ => rfl)))))
  ·have i1:((i:Int) < (ps.length:Int)) = False:=eq_false (by omega)
   obtain rfl:i = ps.length:=by omega
   repeat' (first|with_reducible (first|refine Q1 ?_|refine Q2 ?_|refine Q3 ?_|refine Q4 ?_|refine Q5 ?_|refine Q6 ?_|refine Q7 ?_|refine Q8 ?_|refine Q9 ?_|refine Qa ?_|refine Qb ?_|refine Qc ?_|refine Qd ?_|refine Qe ?_|refine Qf ?_)|((with_reducible refine Qo ?_ ?_);focus rfl)|((with_reducible first|refine QT 12 (l:=?_) ?_ ?_|refine QF 12 (l:=?_) ?_ ?_);rotate_left 1;focus (simp only [Zu,Nat.reduceSub,Nat.reduceBEq];with_reducible rfl))|((with_reducible first|refine QS (cfg_ok 45) Tab.none (s':=?_) ?_ ?_|refine QC (b:=?_) ?_ ?_);rotate_left 1;focus ((with_reducible refine QW ?_);simp only [Zg,seval,if_true,if_false,reduceCtorEq,Nat.reduceEqDiff,i1];with_reducible rfl)))
   refine roundK.out () trivial ?_
   (repeat' (first|with_reducible refine Qn|((with_reducible refine Qr ?_ ?_);focus (first|with_reducible rfl|(simp only [Zz,Nat.reduceBEq];done)|rfl))|((with_reducible refine Qj (o':=?_) ?_ ?_ ?_);rotate_left 1;focus rfl)|((with_reducible refine Qw ?_ ?_);(focus (first|with_reducible rfl|(simp only [Zv];done)));focus (first|exact id|exact (fun h => nomatch h)|exact (fun _ => rfl)))))
 ·rintro _ _
  repeat' (first|with_reducible (first|refine Q1 ?_|refine Q2 ?_|refine Q3 ?_|refine Q4 ?_|refine Q5 ?_|refine Q6 ?_|refine Q7 ?_|refine Q8 ?_|refine Q9 ?_|refine Qa ?_|refine Qb ?_|refine Qc ?_|refine Qd ?_|refine Qe ?_|refine Qf ?_)|((with_reducible refine Qo ?_ ?_);focus rfl)|((with_reducible first|refine QT 12 (l:=?_) ?_ ?_|refine QF 12 (l:=?_) ?_ ?_);rotate_left 1;focus (simp only [Zu,Nat.reduceSub,Nat.reduceBEq];with_reducible rfl))|((with_reducible first|refine QS (cfg_ok 45) Tab.none (s':=?_) ?_ ?_|refine QC (b:=?_) ?_ ?_);rotate_left 1;focus ((with_reducible refine QW ?_);simp only [Zg,seval,if_true,if_false,reduceCtorEq,Nat.reduceEqDiff];with_reducible rfl)))
  have hRe:(R ps.length).map (fun z => (z.1.1,z.2)) = cntOf ts:=by
   rw [hR]
   show (runsF _ (ps.take ps.length)).map _ = _
   rw [List.take_length,runsF_map _ _ ps rfl,← e1];rfl
  refine Ends.un (by simp) hres hrts (r:=?_) (r':=.own 2 ((cntOf ts).map eCt) true) (l:=[]) (ks:=?_) ?_ ?_ (by simp) ?_ rfl
  rotate_left 2
  focus (simp only [aresults,ares,Zg,seval,if_true,if_false,reduceCtorEq,Nat.reduceEqDiff];with_reducible rfl)
  focus simp
  rw [← hRe]
  have hsub:((R ps.length).map (·.1)).Sublist ps:=by
   have:=(runsF_sub (fun p:List Int × List Nat => p.1) _ (ps.take ps.length) rfl).1
   rw [hR]
   show (List.map _ (runsF (fun p:List Int × List Nat => p.1) (ps.take ps.length))).Sublist ps
   rw [List.take_length] at this ⊢
   exact this
  have hsub2:((R ps.length).map (·.1.2)).Sublist (ps.map (·.2)):=by
   have:=hsub.map (·.2)
   rwa [List.map_map] at this
  refine ⟨((R ps.length).map (·.1.2)).flatten,?_,fun b hb => hF b ?_,.inl ⟨2,_,_,rfl,rfl,tag_mk2 _⟩⟩
  ·rw [e3] at hnd
   exact hnd.sublist (sub_flat2 hsub2)
  ·rw [e3]
   exact (sub_flat2 hsub2).subset hb
end Go.Proofs.YtgngidchldajhaaGreat
namespace Go.Proofs.YtgngidchldajhaaGreat
open Go.RowKit
def brOf (t:List Int):List (List Int) × Int:=if lev8 t = true then (forest (brs (canon t)),0) else ([],1)
set_option maxHeartbeats 4000000 in
theorem a_impl_BranchesOf (t:List Int):AFn Tryz.prog 17 [eL t] (· = [.own 1 ((brOf t).1.map eL) true,.val (.int (brOf t).2)]):=by
 have hl:=a_impl_IsLevels t
 simp only [eL] at hl
 unfold brOf
 by_cases h8:lev8 t = true
 ·rw [h8] at hl
  rw [if_pos h8]
  have hc8:=lev8_canon h8
  have hlc:=lev8_len hc8
  have hsb:=sumLen_brs (lev8_lev hc8)
  have hfw:=brs_few (lev8_lev hc8)
  have hca:=AFn.valT (a_canonical t (lev8_lev h8) (lev8_len h8))
  have hbr:=AFn.valT (a_branchesOf (canon t) (lev8_lev hc8) (by omega))
  have hfo:=a_forestOfB (brs (canon t)) (by omega) (by omega)
  simp only [eL,eLL] at hca hbr hfo
  refine AFn.of_runs (cfg_ok 11) Tryz.func17 rfl rfl rfl (by simp only [List.length_cons,List.length_nil];decide) ?_
  have hres:Tryz.f17.results.toList = [.tmp 2,.tmp 3]:=rfl
  have hrts:Tryz.f17.resultTypes.toList = [31,2]:=rfl
  simp only [argRegs,argAV1,eL,eI,eLL,eB,Nat.zero_add,Nat.reduceAdd]
  intro M
  refine RunK.of ?_
  repeat' (first|with_reducible (first|refine Q1 ?_|refine Q2 ?_|refine Q3 ?_|refine Q4 ?_|refine Q5 ?_|refine Q6 ?_|refine Q7 ?_|refine Q8 ?_|refine Q9 ?_|refine Qa ?_|refine Qb ?_|refine Qc ?_|refine Qd ?_|refine Qe ?_|refine Qf ?_)|((with_reducible refine Qo ?_ ?_);focus rfl)|((with_reducible first|refine QT 4 (l:=?_) ?_ ?_|refine QF 4 (l:=?_) ?_ ?_);rotate_left 1;focus (simp only [Zu,Nat.reduceSub,Nat.reduceBEq];with_reducible rfl))|((with_reducible first|refine QS (cfg_ok 11) ((((Tab.none.at' 71 hl).at' 79 hca).at' 78 hbr).at' 77 hfo) (s':=?_) ?_ ?_|refine QC (b:=?_) ?_ ?_);rotate_left 1;focus ((with_reducible refine QW ?_);simp only [Zg,seval,if_true,if_false,reduceCtorEq,Nat.reduceEqDiff];with_reducible rfl)))
  (refine Ends.mk (by simp) (rs:=?_) (ks:=?_) hres hrts ?_ ?_ ?_;rotate_left 2;(focus (simp only [Ze,Zg,seval,if_true,if_false,reduceCtorEq,Nat.reduceEqDiff];with_reducible rfl));(focus simp);focus (first|with_reducible rfl|(simp only [Zv];done)))
 ·have h8':lev8 t = false:=by simpa using h8
  rw [h8'] at hl
  rw [if_neg h8]
  refine AFn.of_runs (cfg_ok 11) Tryz.func17 rfl rfl rfl (by simp only [List.length_cons,List.length_nil];decide) ?_
  have hres:Tryz.f17.results.toList = [.tmp 2,.tmp 3]:=rfl
  have hrts:Tryz.f17.resultTypes.toList = [31,2]:=rfl
  simp only [argRegs,argAV1,eL,eI,eLL,eB,Nat.zero_add,Nat.reduceAdd]
  intro M
  refine RunK.of ?_
  repeat' (first|with_reducible (first|refine Q1 ?_|refine Q2 ?_|refine Q3 ?_|refine Q4 ?_|refine Q5 ?_|refine Q6 ?_|refine Q7 ?_|refine Q8 ?_|refine Q9 ?_|refine Qa ?_|refine Qb ?_|refine Qc ?_|refine Qd ?_|refine Qe ?_|refine Qf ?_)|((with_reducible refine Qo ?_ ?_);focus rfl)|((with_reducible first|refine QT 4 (l:=?_) ?_ ?_|refine QF 4 (l:=?_) ?_ ?_);rotate_left 1;focus (simp only [Zu,Nat.reduceSub,Nat.reduceBEq];with_reducible rfl))|((with_reducible first|refine QS (cfg_ok 11) (Tab.none.at' 71 hl) (s':=?_) ?_ ?_|refine QC (b:=?_) ?_ ?_);rotate_left 1;focus ((with_reducible refine QW ?_);simp only [Zg,seval,if_true,if_false,reduceCtorEq,Nat.reduceEqDiff];with_reducible rfl)))
  (refine Ends.mk (by simp) (rs:=?_) (ks:=?_) hres hrts ?_ ?_ ?_;rotate_left 2;(focus (simp only [Ze,Zg,seval,if_true,if_false,reduceCtorEq,Nat.reduceEqDiff];with_reducible rfl));(focus simp);focus (first|with_reducible rfl|(simp only [Zv];done)))
end Go.Proofs.YtgngidchldajhaaGreat
namespace Go.Proofs.YtgngidchldajhaaGreat
open Go.RowKit
structure FcZ (t:List Int) (c:Cu):Prop where
 c1:1 ≤ c.2
 ch:c.2 ≤ 1000
 num:cctC t c.1.1 c.1.2 = (c.2,0)
 siz:sumLen c.1.1 + c.1.2.length = t.length
 one:oneB c = true→cctOf t c.1.2 (c.1.1.getD 0 []) = (c.2,0)∧(cntTo t (canon c.1.2,canon (c.1.1.getD 0 [])) (t.length - 1):Int) ≤ 1000000
structure FcF (t:List Int) (n:Int):Prop where
 rise:countNum t 2 0 = (n,0)
 cc:ccOf t = (n,0)
 nb:0 ≤ n∧n ≤ 128
 brl:∀ b ∈ (brOf t).1,lev8 b = true
 prd:prdC (brOf t).1 + 1 = n
 len:(cutsL t).length ≤ 128
 tot:totC (cutsL t) (cutsL t).length = n
 edg:edgC (cutsL t) (cutsL t).length = (t.length:Int) - 1
 all:∀ c ∈ cutsL t,FcZ t c
 cb:totC (cbOf t).1 (cbOf t).1.length = (t.length:Int) - 1
 cbl:(cbOf t).1.length ≤ 128
 rs:totF (rsOf t).1 (rsOf t).1.length + 1 = n
 rsl:(rsOf t).1.length ≤ 128
 codes:(coOf t).2 = 0∧(coOf t).1 = cutsL t∧(cbOf t).2 = 0∧(rsOf t).2 = 0∧(brOf t).2 = 0
theorem fc_all {t:List Int} (h:lev8 t = true) (h7:t.length ≤ 7):FcF t ((split t).length:Int):=by
 have hp:=(lev8_lev h).pos
 have hg:fcOK t = true:=by
  by_cases h6:t.length ≤ 6
  ·exact List.all_eq_true.1 (List.all_eq_true.1 fc_check5 (t.length - 1) (List.mem_range.2 (by omega))) t (mem_levels _ t (lev8_lev h) (by omega))
  ·exact List.all_eq_true.1 fc_check6 t (mem_levels _ t (lev8_lev h) (by omega))
 unfold fcOK fcL at hg
 simp only [Bool.and_eq_true,decide_eq_true_eq] at hg
 obtain ⟨⟨⟨⟨⟨k1,k2⟩,k3⟩,k4⟩,⟨⟨⟨⟨k5,k6⟩,k7⟩,k8⟩,k9,k10⟩⟩,k11,k12⟩:=hg
 have eb:brOf t = (forest (brs (canon t)),0):=by unfold brOf;rw [if_pos h]
 have eo:coOf t = (cutsL t,0):=by unfold coOf;rw [if_pos h]
 have ec:cbOf t = ((cutsL t).filter (fun c => !notOne c),0):=by unfold cbOf;rw [if_pos h]
 have er:rsOf t = (cntOf (trunks t),0):=by unfold rsOf;rw [if_pos h]
 refine ⟨k1,by unfold ccOf;rw [if_pos h],by omega,?_,by rw [eb];exact k4,k5,k6,k7,?_,by rw [ec];exact k9,by rw [ec];exact k10,by rw [er];exact k11,by rw [er];exact k12,by rw [eo,ec,er,eb];exact ⟨rfl,rfl,rfl,rfl,rfl⟩⟩
 ·rw [eb];exact List.all_eq_true.1 k3
 ·intro c hc
  have k:=List.all_eq_true.1 k8 c hc
  unfold fcZ at k
  simp only [Bool.and_eq_true,decide_eq_true_eq,Bool.or_eq_true,Bool.not_eq_true'] at k
  obtain ⟨⟨⟨⟨⟨⟨a1,a2⟩,a3⟩,a4⟩,a5⟩,a6⟩,a7⟩:=k
  refine ⟨a4,a5,?_,a6,fun ho => ?_⟩
  ·unfold cctC okC
   rw [if_pos (by rw [h,a1];simp only [Bool.true_and,Bool.or_eq_true,decide_eq_true_eq];exact a2),a3]
  ·have ho':=ho
   unfold oneB at ho'
   simp only [Bool.and_eq_true,decide_eq_true_eq] at ho'
   obtain ⟨b1,b2⟩:=a7.resolve_left (by rw [ho];simp)
   have hk:lev8 c.1.2 = true:=a2.resolve_left (fun e => by rw [e] at ho';simp at ho')
   rw [cntQ_eq h _ _ (by omega)] at b2
   have hcc:=cctOf_ok (t:=t) (a:=c.1.2) (b:=c.1.1.getD 0 []) (by rw [h,hk,b1];rfl)
   rw [b2] at hcc
   exact ⟨hcc,by omega⟩
end Go.Proofs.YtgngidchldajhaaGreat
namespace Go.Proofs.YtgngidchldajhaaGreat
open Go.RowKit
set_option maxHeartbeats 4000000 in
theorem a_nodes9 (f:List (List Int)) (h1:f.length ≤ 1048576) (h2:sumLen f ≤ 1048576):AFn Tryz.prog 22 [eLL f] (· = [.val (.int (sumLen f:Nat))]):=by
 have hfm:(f.map eL).length = f.length:=List.length_map _
 refine AFn.of_runs (cfg_ok 19) Tryz.func22 rfl rfl rfl (by simp only [List.length_cons,List.length_nil];decide) ?_
 have hres:Tryz.f22.results.toList = [.tmp 2]:=rfl
 have hrts:Tryz.f22.resultTypes.toList = [2]:=rfl
 simp only [argRegs,argAV1,eL,eI,eLL,eB,Nat.zero_add,Nat.reduceAdd]
 intro M
 refine RunK.of ?_
 repeat' (first|with_reducible (first|refine Q1 ?_|refine Q2 ?_|refine Q3 ?_|refine Q4 ?_|refine Q5 ?_|refine Q6 ?_|refine Q7 ?_|refine Q8 ?_|refine Q9 ?_|refine Qa ?_|refine Qb ?_|refine Qc ?_|refine Qd ?_|refine Qe ?_|refine Qf ?_)|((with_reducible refine Qo ?_ ?_);focus rfl)|((with_reducible first|refine QT 5 (l:=?_) ?_ ?_|refine QF 5 (l:=?_) ?_ ?_);rotate_left 1;focus (simp only [Zu,Nat.reduceSub,Nat.reduceBEq];with_reducible rfl))|((with_reducible first|refine QS (cfg_ok 19) Tab.none (s':=?_) ?_ ?_|refine QC (b:=?_) ?_ ?_);rotate_left 1;focus ((with_reducible refine QW ?_);simp only [Zg,seval,if_true,if_false,reduceCtorEq,Nat.reduceEqDiff];with_reducible rfl)))
 refine RunK.loop (β:=Nat) (γ:=Unit) (fun i => ⟨[(0,.c (.val (.sl 1 (f.map eL)))),(3,.c (.val (.int (sumLen (f.take i):Nat)))),(4,.c (.val (.int i)))],[]⟩) (fun i => i ≤ f.length) (fun i => f.length - i)
  (fun _ => ⟨[(3,.c (.val (.int (sumLen f:Nat))))],[]⟩) (fun _ => True) 0 (Nat.zero_le _) ?_ ?_ ?_
 ·(repeat' (first|with_reducible refine Qn|((with_reducible refine Qr ?_ ?_);focus (first|with_reducible rfl|(simp only [Zz,Nat.reduceBEq,List.take_zero,show sumLen [] = 0 from rfl,Int.natCast_zero];done)|rfl))|((with_reducible refine Qj (o':=?_) ?_ ?_ ?_);rotate_left 1;focus rfl)|((with_reducible refine Qw ?_ ?_);(focus (first|with_reducible rfl|(simp only [Zv,List.take_zero,show sumLen [] = 0 from rfl,Int.natCast_zero];done)));focus (first|exact id|exact (fun h => nomatch h)|exact (fun _ => rfl)))))
 ·intro i hi
  have hi:i ≤ f.length:=hi
  have hw:=w64_succ (n:=i) (by omega)
  by_cases h:i < f.length
  ·have i1:((i:Int) < (f.length:Int)) = True:=eq_true (by omega)
   have i2:((0:Int) ≤ (i:Int)) = True:=eq_true (by omega)
   have hg:(f.map eL)[i]? = some (eL f[i]):=by rw [List.getElem?_map,List.getElem?_eq_getElem h];rfl
   have hs:=sumLen_take_succ f i h
   have hle:=sumLen_take f (i + 1)
   have hlm:(f[i].map eI).length = f[i].length:=List.length_map _
   have w1:w64 (((sumLen (f.take i):Nat):Int) + (f[i].length:Int)) = ((sumLen (f.take (i + 1)):Nat):Int):=by rw [hs,w64_eq (by omega)];omega
   simp only [eL] at hg
   repeat' (first|with_reducible (first|refine Q1 ?_|refine Q2 ?_|refine Q3 ?_|refine Q4 ?_|refine Q5 ?_|refine Q6 ?_|refine Q7 ?_|refine Q8 ?_|refine Q9 ?_|refine Qa ?_|refine Qb ?_|refine Qc ?_|refine Qd ?_|refine Qe ?_|refine Qf ?_)|((with_reducible refine Qo ?_ ?_);focus rfl)|((with_reducible first|refine QT 5 (l:=?_) ?_ ?_|refine QF 5 (l:=?_) ?_ ?_);rotate_left 1;focus (simp only [Zu,Nat.reduceSub,Nat.reduceBEq];with_reducible rfl))|((with_reducible first|refine QS (cfg_ok 19) Tab.none (s':=?_) ?_ ?_|refine QC (b:=?_) ?_ ?_);rotate_left 1;focus ((with_reducible refine QW ?_);simp only [Zg,seval,if_true,if_false,reduceCtorEq,Nat.reduceEqDiff,i1,i2,hfm,hg,hlm,w1,hw,Int.toNat_natCast];with_reducible rfl)))
   refine roundK.on (i + 1) ⟨h,by omega⟩ ?_
   (repeat' (first|with_reducible refine Qn|((with_reducible refine Qr ?_ ?_);focus (first|with_reducible rfl|(simp only [Zz,Nat.reduceBEq];done)|rfl))|((with_reducible refine Qj (o':=?_) ?_ ?_ ?_);rotate_left 1;focus rfl)|((with_reducible refine Qw ?_ ?_);(focus (first|with_reducible rfl|(simp only [Zv];done)));focus (first|exact id|exact (fun h => nomatch h)|exact (fun _ => rfl)))))
  ·have i1:((i:Int) < (f.length:Int)) = False:=eq_false (by omega)
   obtain rfl:i = f.length:=by omega
   rw [List.take_length]
   repeat' (first|with_reducible (first|refine Q1 ?_|refine Q2 ?_|refine Q3 ?_|refine Q4 ?_|refine Q5 ?_|refine Q6 ?_|refine Q7 ?_|refine Q8 ?_|refine Q9 ?_|refine Qa ?_|refine Qb ?_|refine Qc ?_|refine Qd ?_|refine Qe ?_|refine Qf ?_)|((with_reducible refine Qo ?_ ?_);focus rfl)|((with_reducible first|refine QT 5 (l:=?_) ?_ ?_|refine QF 5 (l:=?_) ?_ ?_);rotate_left 1;focus (simp only [Zu,Nat.reduceSub,Nat.reduceBEq];with_reducible rfl))|((with_reducible first|refine QS (cfg_ok 19) Tab.none (s':=?_) ?_ ?_|refine QC (b:=?_) ?_ ?_);rotate_left 1;focus ((with_reducible refine QW ?_);simp only [Zg,seval,if_true,if_false,reduceCtorEq,Nat.reduceEqDiff,i1,hfm];with_reducible rfl)))
   refine roundK.out () trivial ?_
   (repeat' (first|with_reducible refine Qn|((with_reducible refine Qr ?_ ?_);focus (first|with_reducible rfl|(simp only [Zz,Nat.reduceBEq];done)|rfl))|((with_reducible refine Qj (o':=?_) ?_ ?_ ?_);rotate_left 1;focus rfl)|((with_reducible refine Qw ?_ ?_);(focus (first|with_reducible rfl|(simp only [Zv];done)));focus (first|exact id|exact (fun h => nomatch h)|exact (fun _ => rfl)))))
 intro _ _
 repeat' (first|with_reducible (first|refine Q1 ?_|refine Q2 ?_|refine Q3 ?_|refine Q4 ?_|refine Q5 ?_|refine Q6 ?_|refine Q7 ?_|refine Q8 ?_|refine Q9 ?_|refine Qa ?_|refine Qb ?_|refine Qc ?_|refine Qd ?_|refine Qe ?_|refine Qf ?_)|((with_reducible refine Qo ?_ ?_);focus rfl)|((with_reducible first|refine QT 5 (l:=?_) ?_ ?_|refine QF 5 (l:=?_) ?_ ?_);rotate_left 1;focus (simp only [Zu,Nat.reduceSub,Nat.reduceBEq];with_reducible rfl))|((with_reducible first|refine QS (cfg_ok 19) Tab.none (s':=?_) ?_ ?_|refine QC (b:=?_) ?_ ?_);rotate_left 1;focus ((with_reducible refine QW ?_);simp only [Zg,seval,if_true,if_false,reduceCtorEq,Nat.reduceEqDiff];with_reducible rfl)))
 (refine Ends.mk (by simp) (rs:=?_) (ks:=?_) hres hrts ?_ ?_ ?_;rotate_left 2;(focus (simp only [Ze,Zg,seval,if_true,if_false,reduceCtorEq,Nat.reduceEqDiff];with_reducible rfl));(focus simp);focus (first|with_reducible rfl|(simp only [Zv];done)))
end Go.Proofs.YtgngidchldajhaaGreat
namespace Go.Proofs.YtgngidchldajhaaGreat
open Go.RowKit
def rowA:Obj→Option (List AC)
 | .lit _ [r] => some r
 | .row _ [r] _ => some (r.map .val)
 | _ => none
section
variable {P:Program} {cfg:Cfg} {M:Nat→Prop} {ops:Array Oper} {s s':St} {w0:W0} {w:World} {Ok:Nat→Prop} {N:Nat} {σ:Asg} {a:Act} {fs:List Fr} {Q:Exit→St→Prop} {T:Tab P} {H:List (Nat × Obj)}
theorem rdCs.toA:∀ {x:List D} {us:List Value},rdCs (Zn σ H w) w us x→relCs σ H w (x.map .val) us
 | [],us,h => List.eq_nil_of_length_eq_zero (by rw [h.len];rfl)
 | y :: x,us,h => by
  obtain ⟨u,us',rfl,h3,h4⟩:=h.cons_inv
  exact ⟨u,us',rfl,h3.one,h3,rdCs.toA h4⟩
theorem relCs.len:∀ {x:List AC} {us:List Value},relCs σ H w x us→us.length = x.length
 | [],_,h => by rw [show _ = [] from h];rfl
 | y :: x,_,⟨u,us',e,_,_,h⟩ => by rw [e,List.length_cons,List.length_cons,relCs.len h]
theorem Sim.rowA (h:Sim w0 Ok N σ s a w) {key:Nat} {o:Obj} (hk:look key s.heap = some o) {r:List AC} (hr:rowA o = some r) :
  o.len = 1∧0 < o.k∧∃ us,us.length = o.k∧Row w (slv (σ.g key) o.len (σ.cap key)) o.k o.len us (σ.g key)∧relCs σ s.heap w r us:=by
 unfold Go.Proofs.YtgngidchldajhaaGreat.rowA at hr
 split at hr
 ·rename_i k r'
  cases hr
  obtain ⟨ds,hrow,hkp,hel⟩:=(h.rows key _ hk).row
  obtain ⟨c,d,e,hl,hc,hd⟩:=(show relRs σ s.heap w k [r] ds from hel)
  have hd:d = []:=hd
  subst hd
  rw [List.append_nil] at e
  subst e
  exact ⟨rfl,hkp,ds,hl,hrow,hc⟩
 ·rename_i k r' d
  cases hr
  obtain ⟨ds,hrow,hkp,hel⟩:=RowOK.rd h.ok1 h.rows h.disj hk
  obtain ⟨c,e,e1,hl,hcl,hc,he⟩:=hel.cons_inv
  have he:e = []:=by
   have h1:=hrow.1
   rw [e1,List.length_append,hcl] at h1
   simp only [List.length_cons,List.length_nil] at h1
   exact List.eq_nil_of_length_eq_zero (by omega)
  subst he
  rw [List.append_nil] at e1
  subst e1
  exact ⟨rfl,hkp,ds,hcl,hrow,hc.toA⟩
 ·cases hr
theorem ROps.cut (C:CfgOK P cfg) (T:Tab P) (n:Nat) {l:List Oper} {Q:St→Prop} {s1:St} (ha:Work (aopsT cfg T ops (l.take n) s) (some s1)) (h:ROps P cfg M ops (l.drop n) Q s1):ROps P cfg M ops l Q s:=by
 have ha:aopsT cfg T ops (l.take n) s = some s1:=ha
 have cut:∀ (l m:List Oper) (s:St),aopsT cfg T ops l s = some s1→ROps P cfg M ops m Q s1→ROps P cfg M ops (l ++ m) Q s:=by
  intro l
  induction l with
  | nil => intro m s h1 h2;simp only [aopsT,Option.some.injEq] at h1;subst h1;exact h2
  | cons o l ih =>
   intro m s h1 h2
   simp only [aopsT] at h1
   obtain ⟨s2,h3,h4⟩:=bind_some h1
   exact ROps.stepT C h3 (ih m s2 h4 h2)
 have:=cut _ _ s ha h
 rwa [List.take_append_drop] at this
theorem relCs.toD:∀ {x:List D} {us:List Value},relCs σ H w (x.map .val) us→rdCs (Zn σ H w) w us x
 | [],us,h => by rw [show us = [] from h];exact rdCs.nil
 | y :: x,_,⟨u,us',e,_,h2,h⟩ => by rw [e];exact rdCs.cons h2 (relCs.toD h)
structure AFnS (P:Program) (f:FuncId) (ds:List (List D)) (cs:List D):Prop where
 call:∀ args w,(callFunc f args).run P w = .ok (.enter f args) w
 fn:∀ (A:Nat→Prop) w vs,(∀ b,A b→b < w.heap.size)→relArgs A w ds vs→Calls P f vs.toArray w (fun e w' => ∃ us,e = .returned (.agg us.toArray)∧Below w.heap.size w w'∧rdCs (fun b => A b ∨ w.heap.size ≤ b) w' us cs)
def EndsS (cfg:Cfg) (fn:Func) (cs:List D) (e:Exit) (s:St):Prop :=
 (e = .normal ∨ e = .ret)∧∃ t ty key o z,fn.results = #[.cell t ty]∧look t s.regs = some (.optr key 0 0)∧look key s.heap = some o∧rowA o = some (cs.map .val)∧cfg.ty ty = some (z,true)∧z.length = cs.length
theorem AFnS.of_runs (C:CfgOK P cfg) {f:FuncId} {fn:Func} {c:Code} (hf:P.funcs[f]? = some fn) (hb:fn.body = some c) (hname:(fn.name == "runtime.NumGoroutine") = false) (hN:fn.ntmps = cfg.N) {ds:List (List D)} (hd:ds.length ≤ fn.ntmps) {cs:List D}
  (h:∀ M,Runs P cfg M c (EndsS cfg fn cs) ⟨argRegs 0 ds,[]⟩):AFnS P f ds cs:=by
 refine ⟨enters_of hf hname hb,fun A w vs hA hv => ?_⟩
 have hlen:=hv.len
 refine calls_of_wp hf hb ?_
 have hS:=start_sim (A:=A) (N:=cfg.N) (n:=fn.ntmps - vs.length) hv (by omega)
 refine h _ ⟨w,fun _ => False⟩ A _ _ w _ rfl (by simpa using hS) (fun e s' hE σ' a' w' hS' => ?_)
 obtain ⟨he,t,ty,key,o,z,hres,ht,hk,hr,hty,hzl⟩:=hE
 obtain ⟨zv,ti,d,t1,t2,t3,t4,t5,t6,t7,t8⟩:=C.ty ty z true hty
 obtain ⟨hlen1,hkp,us,hul,hrow,hus⟩:=hS'.rowA hk hr
 obtain ⟨_,b,hg,ep⟩:=hS'.regs t _ ht o hk
 rw [Nat.zero_mul,Nat.zero_add] at ep
 rw [hg] at hrow
 have hrd:=hus.toD
 have hcl:us.length = cs.length:=hrd.len
 have hrange:w'.rangeAt b 0 us:=fun q v hq => by rw [Nat.zero_add];exact hrow.cells q v hq
 have hi:(P.info? ty).map (·.size) = some us.length:=by rw [t1,hcl,← hzl,← t3];rfl
 have hload:(loadVar ty ⟨b,0,none⟩).run P w' = .ok (.agg us.toArray) w':=run_loadVar_mid w' b 0 ty us d hrange t6 t7 hi
 have ep':a'.tmps.getD t undef = .pointer (some ⟨b,0,none⟩):=ep
 have hrun:(results fn a'.tmps).run P w' = .ok (.agg us.toArray) w':=by
  unfold results
  rw [hres,Array.mapM_eq_mapM_toList]
  rw [Array.getD_eq_getD_getElem?] at ep'
  simp [ep',asAddr,hload]
 have hm:∀ b,Zn σ' s'.heap w' b→b < w'.heap.size→A b ∨ w.heap.size ≤ b:=fun b hb _ => by
  rcases hS'.ok2 b hb.2.1 with h1|h1
  ·exact .inl h1
  ·rcases h1 with h1|h1
   ·exact .inr h1
   ·exact h1.elim
 have hfin:a'.defers = []∧∃ v,(results fn a'.tmps).run P w' = .ok v w'∧∃ us,Ending.returned v = .returned (.agg us.toArray)∧Below w.heap.size w w'∧rdCs (fun b => A b ∨ w.heap.size ≤ b) w' us cs:=⟨hS'.defers,_,hrun,us,rfl,hS'.below.below,hrd.mono hm⟩
 rcases he with rfl|rfl <;> exact hfin
end
end Go.Proofs.YtgngidchldajhaaGreat
namespace Go.Proofs.YtgngidchldajhaaGreat
open Go.RowKit
def nxtH (h:Int):Int:=IntKind.u64.wrap (IntKind.u64.wrap (h * 6364136223846793005) + 1442695040888963407)
def nxtB (h:Int):Int:=wrap64 (bits BinOp.and IntKind.u64 (nxtH h / 8589934592) 16777215)
def nxtX (code:List Int) (i:Nat) (h:Int):Int:=if hi:i < code.length then wrap64 (nxtB h + code[i]) else nxtB h
def nxtF (code:List Int) (s:Nat × Int) (n:Int):Int × Nat × Int:=if n < 1 then (0,s) else ((nxtX code s.1 s.2).tmod n,if s.1 < code.length then s.1 + 1 else s.1,nxtH s.2)
theorem nxtB_bd (h:Int):0 ≤ nxtB h∧nxtB h ≤ 16777215:=by
 have h0:0 ≤ nxtH h∧nxtH h < 18446744073709551616:=by unfold nxtH IntKind.wrap;simp [IntKind.signed,IntKind.bits];omega
 have e:=bits_and_u64_nat (nxtH h / 8589934592).toNat 16777215 (by omega) (by omega)
 have e1:(((nxtH h / 8589934592).toNat:Nat):Int) = nxtH h / 8589934592:=by omega
 rw [e1] at e
 have hle:(nxtH h / 8589934592).toNat &&& 16777215 ≤ 16777215:=Nat.and_le_right
 unfold nxtB
 have e2:((16777215:Nat):Int) = 16777215:=rfl
 rw [e2] at e
 rw [e]
 unfold wrap64
 omega
theorem nxtX_bd {code:List Int} (hc:∀ c ∈ code,0 ≤ c∧c < 256) (i:Nat) (h:Int):0 ≤ nxtX code i h∧nxtX code i h ≤ 16777470:=by
 have h1:=nxtB_bd h
 unfold nxtX
 split
 ·rename_i hi
  have h2:=hc code[i] (List.getElem_mem _)
  unfold wrap64
  omega
 ·omega
theorem nxtF_bd {code:List Int} (hc:∀ c ∈ code,0 ≤ c∧c < 256) (s:Nat × Int) (n:Int):0 ≤ (nxtF code s n).1∧((nxtF code s n).1 < n ∨ (n < 1∧(nxtF code s n).1 = 0)):=by
 unfold nxtF
 split
 ·rename_i h;exact ⟨Int.le_refl _,.inr ⟨h,rfl⟩⟩
 ·rename_i h
  have h1:=nxtX_bd hc s.1 s.2
  show 0 ≤ (nxtX code s.1 s.2).tmod n∧((nxtX code s.1 s.2).tmod n < n ∨ _)
  rw [Int.tmod_eq_emod_of_nonneg h1.1]
  exact ⟨Int.emod_nonneg _ (by omega),.inl (Int.emod_lt_of_pos _ (by omega))⟩
def Byt (w:World) (b:Nat) (oa:Option Addr) (code:List Int):Prop:=(∀ c ∈ code,0 ≤ c∧c < 256)∧(code = [] ∨ ∃ b2 off,oa = some ⟨b2,off,none⟩∧b2 ≠ b∧∀ i (h:i < code.length),w.cell? ⟨b2,off + i,none⟩ = some (.int .u8 code[i]))
theorem row_set {w:World} {b k cap0:Nat} {ds:List Value} (hr:Row w (slv (some b) 1 cap0) k 1 ds (some b)) (j:Nat) (u:Value):Row (w.setCell ⟨b,j,none⟩ u) (slv (some b) 1 cap0) k 1 (ds.set j u) (some b):=(hr.store j u).1
theorem bel_set {w0:World} {w:World} {b:Nat} (h:Bel ⟨w0,fun c => c = b⟩ w) (j:Nat) (u:Value):Bel ⟨w0,fun c => c = b⟩ (w.setCell ⟨b,j,none⟩ u) :=
 ⟨h.os,h.tape,h.output,by simpa using h.size,fun k hk hn => (heap_setCell_other w ⟨b,j,none⟩ k u (fun e => hn e)).trans (h.block k hk hn)⟩
theorem row_drew {w:World} {b k cap0:Nat} {ds:List Value} (hr:Row w (slv (some b) 1 cap0) k 1 ds (some b)) (n:Nat):Row (w.drewN n) (slv (some b) 1 cap0) k 1 ds (some b):=hr
theorem bel_drew {w0:World} {w:World} {b:Nat} (h:Bel ⟨w0,fun c => c = b⟩ w) (n:Nat):Bel ⟨w0,fun c => c = b⟩ (w.drewN n):=⟨h.os,h.tape,h.output,h.size,h.block⟩
theorem bel_refl (w:World) (b:Nat):Bel ⟨w,fun c => c = b⟩ w:=⟨rfl,rfl,rfl,Nat.le_refl _,fun _ _ _ => rfl⟩
def RetN (w:World) (b:Nat) (oa:Option Addr) (cap cap0:Nat) (code:List Int) (r:Int × Nat × Int) (e:Ending) (w':World):Prop :=
 e = .returned (.int .i64 r.1)∧Row w' (slv (some b) 1 cap0) 3 1 [.slice oa code.length cap,.int .i64 r.2.1,.int .u64 r.2.2] (some b)∧Bel ⟨w,fun c => c = b⟩ w'
set_option maxRecDepth 100000 in
set_option maxHeartbeats 1000000 in
theorem c_l01Next (w:World) (b:Nat) (oa:Option Addr) (code:List Int) (cap cap0:Nat) (s:Nat × Int) (n:Int) (hr:Row w (slv (some b) 1 cap0) 3 1 [.slice oa code.length cap,.int .i64 s.1,.int .u64 s.2] (some b)) (hB:Byt w b oa code) (hn:In64 n) (hat:s.1 ≤ code.length) (hl:code.length ≤ 1000000000) :
  Calls Tryz.prog 119 #[.pointer (some ⟨b,0,none⟩),.int .i64 n] w (RetN w b oa cap cap0 code (nxtF code s n)):=by
 obtain ⟨i,h⟩:=s
 have c0:=hr.cells 0 _ rfl
 have c1:=hr.cells 1 _ rfl
 have c2:=hr.cells 2 _ rfl
 have f0:=hr.frozen 0
 have f1:=hr.frozen 1
 have f2:=hr.frozen 2
 have hlt:=hr.lt b rfl
 simp only at c0 c1 c2 hat
 have HR:=Lib.hid hr
 by_cases hn1:n < 1
 ·have hF:nxtF code (i,h) n = (0,i,h):=if_pos hn1
  rw [hF]
  clear hr hB hF
  go_enter Tryz.func119,Tryz.ntmps119
  go_wp2
  go_ret
  exact ⟨rfl,HR.out,bel_refl w b⟩
 ·have hF:nxtF code (i,h) n = ((nxtX code i h).tmod n,if i < code.length then i + 1 else i,nxtH h):=if_neg hn1
  rw [hF]
  by_cases ha:i < code.length
  ·obtain ⟨b2,off,e,hne,hg⟩:=hB.2.resolve_left (fun e => by rw [e] at ha;cases ha)
   have hgi:=hg i ha
   clear hg
   have hc:=hB.1 code[i] (List.getElem_mem _)
   have hX:nxtX code i h = wrap64 (nxtB h + code[i]):=dif_pos ha
   rw [hX,if_pos ha]
   obtain ⟨c,hce⟩:∃ c,c = code[i]:=⟨_,rfl⟩
   rw [← hce] at hgi hc ⊢
   have hwc:wrap64 c = c:=by unfold wrap64;omega
   subst e
   clear hr hB hce hF hX
   go_enter Tryz.func119,Tryz.ntmps119
   go_wp2
   go_quiet (fail)
   go_wp2
   go_quiet (fail)
   go_wp2
   go_ret
   exact ⟨rfl,row_set (row_drew (row_set HR.out 2 _) _) 1 _,bel_set (bel_drew (bel_set (bel_refl w b) 2 _) _) 1 _⟩
  ·have hX:nxtX code i h = nxtB h:=dif_neg ha
   rw [hX,if_neg ha]
   clear hr hB hF hX
   go_enter Tryz.func119,Tryz.ntmps119
   go_wp2
   go_quiet (fail)
   go_wp2
   go_ret
   exact ⟨rfl,row_drew (row_set HR.out 2 _) _,bel_drew (bel_set (bel_refl w b) 2 _) _⟩
def hshS (m:Int) (h c:Int):Int:=IntKind.u64.wrap (IntKind.u64.wrap (IntKind.u64.wrap (h * 1099511628211) + c) + m)
def hshF (m h0:Int) (code:List Int):Int:=code.foldl (hshS m) h0
theorem hshF_snoc (m h0:Int) (code:List Int) (k:Nat) (h:k < code.length):hshF m h0 (code.take (k + 1)) = hshS m (hshF m h0 (code.take k)) code[k]:=by
 unfold hshF
 rw [List.take_succ_eq_append_getElem h,List.foldl_append];rfl
def RetP (w:World) (oa:Option Addr) (cap:Nat) (code:List Int) (h:Int) (e:Ending) (w':World):Prop :=
 e = .returned (.pointer (some ⟨w.heap.size,0,none⟩))∧Row w' (slv (some w.heap.size) 1 1) 3 1 [.slice oa code.length cap,.int .i64 0,.int .u64 h] (some w.heap.size)∧Below w.heap.size w w'
theorem cell_lt {w:World} {b off:Nat} {v:Value} (h:w.cell? ⟨b,off,none⟩ = some v):b < w.heap.size:=by
 rcases Nat.lt_or_ge b w.heap.size with h1|h1
 ·exact h1
 ·rw [World.cell?] at h
  simp [Array.getElem?_eq_none h1] at h
theorem byt_below {w w':World} {n b off:Nat} {v:Value} (hb:Below n w w') (hlt:b < n) (h:w.cell? ⟨b,off,none⟩ = some v):w'.cell? ⟨b,off,none⟩ = some v:=by
 rw [World.cell?] at h ⊢
 rw [hb.block b hlt]
 exact h
set_option maxRecDepth 100000 in
set_option maxHeartbeats 2000000 in
theorem c_l01From (w:World) (oa:Option Addr) (code:List Int) (cap:Nat) (hB:Byt w w.heap.size oa code) (hcap:code.length ≤ cap) (hnil:oa = none→cap = 0) (hl:code.length ≤ 1000000000) :
  Calls Tryz.prog 70 #[.slice oa code.length cap] w (RetP w oa cap code (hshF 11 (5381 + code.length) (code.take 4096))):=by
 unfold RetP
 have HB:=Lib.hid hB
 obtain ⟨h0,hh0⟩:∃ h0,h0 = 5381 + (code.length:Int):=⟨_,rfl⟩
 rw [← hh0]
 have HH:=Lib.hid hh0
 clear hB hh0
 go_enter Tryz.func70,Tryz.ntmps70
 go_wp2
 go_loopw [4] (fun i wr => ∃ k:Nat,k ≤ code.length∧k ≤ 4096∧i = .int .i64 k∧Row wr (slv (some w.heap.size) 1 1) 3 1 [.slice oa code.length cap,.int .i64 0,.int .u64 (hshF 11 h0 (code.take k))] (some w.heap.size)∧Below w.heap.size w wr) (fun i _ => code.length - (intOf i).toNat)
 case atStart =>
  refine ⟨0,Nat.zero_le _,Nat.zero_le _,rfl,?_,?_⟩
  ·rw [List.take_zero]
   show Row _ _ 3 1 [_,_,.int .u64 h0] _
   rw [HH.out]
   exact Row.lit w #[.slice oa code.length cap,.int .i64 0,.int .u64 _] _ 3 1 (by decide) rfl
  ·exact (Below.refl _ _).alloc (Nat.le_refl _) _
 case round =>
  obtain ⟨k,hk,hk2,rfl,hrow,hbel⟩:=hrel
  have c0:=hrow.cells 0 _ rfl
  have c2:=hrow.cells 2 _ rfl
  have f2:=hrow.frozen 2
  have hlt:=hrow.lt _ rfl
  have HR:=Lib.hid hrow
  have HL:=Lib.hid hbel
  clear hrow hbel
  by_cases hlt1:k < code.length
  ·by_cases hlt2:k < 4096
   ·have hB:=HB.out
    obtain ⟨b2,off,e,hne,hg⟩:=hB.2.resolve_left (fun e => by rw [e] at hlt1;cases hlt1)
    have hgi:=byt_below HL.out (cell_lt (hg k hlt1)) (hg k hlt1)
    have hc:=hB.1 code[k] (List.getElem_mem _)
    have hst:=hshF_snoc 11 h0 code k hlt1
    obtain ⟨c,hce⟩:∃ c,c = code[k]:=⟨_,rfl⟩
    rw [← hce] at hgi hc hst
    subst e
    have HS:=Lib.hid hst
    clear hB hg hce hst
    obtain ⟨h,hh⟩:∃ h,h = hshF 11 h0 (code.take k):=⟨_,rfl⟩
    rw [← hh] at HR HS c2
    clear hh
    go_wp2_with fail
    go_region
    go_wp2_with fail
    go_roundw
    case rel =>
     refine ⟨k + 1,by omega,by omega,by go_num,?_,?_⟩
     ·rw [HS.out]
      exact row_set HR.out 2 _
     ·have hz:Below w.heap.size w (wr.setCell ⟨w.heap.size,2,none⟩ (.int .u64 (hshS 11 h c))):=HL.out.setCell (Nat.le_refl _) _
      exact ⟨hz.os,hz.tape,hz.output,hz.size,hz.block⟩
    case measure => simp [intOf];omega
   ·obtain rfl:k = 4096:=by omega
    go_wp2_with fail
    go_ret
    exact ⟨rfl,HR.out,HL.out⟩
  ·have e:code.take 4096 = code.take k:=by rw [List.take_of_length_le (by omega),List.take_of_length_le (by omega)]
   have HE:=Lib.hid e
   clear e
   go_wp2_with fail
   go_ret
   rw [HE.out]
   exact ⟨rfl,HR.out,HL.out⟩
end Go.Proofs.YtgngidchldajhaaGreat
namespace Go.Proofs.YtgngidchldajhaaGreat
open Go.RowKit
structure AFnP (P:Program) (f:FuncId) (ds:List (List D)) (r:List D):Prop where
 call:∀ args w,(callFunc f args).run P w = .ok (.enter f args) w
 fn:∀ (A:Nat→Prop) w vs,(∀ b,A b→b < w.heap.size)→relArgs A w ds vs →
  Calls P f vs.toArray w (fun e w' => ∃ b ds',e = .returned (.pointer (some ⟨b,0,none⟩))∧w.heap.size ≤ b∧Below w.heap.size w w'∧Row w' (slv (some b) 1 1) r.length 1 ds' (some b)∧0 < r.length∧rdCs (fun c => (A c ∨ w.heap.size ≤ c)∧c ≠ b) w' ds' r)
section
variable {P:Program} {cfg:Cfg} {M:Nat→Prop} {ops:Array Oper} {s s':St} {w0:W0} {w:World} {Ok:Nat→Prop} {N:Nat} {σ:Asg} {a:Act} {fs:List Fr} {Q:Exit→St→Prop} {T:Tab P} {H:List (Nat × Obj)}
theorem rdR_one {A:Nat→Prop} {w:World} {k:Nat} {ds:List Value} {r:List D} (h:rdR k A w ds [r]):rdCs A w ds r:=by
 obtain ⟨c,e,rfl,_,_,h1,h2⟩:=h.cons_inv
 have he:e = []:=List.eq_nil_of_length_eq_zero (by rw [h2.len];simp)
 rw [he,List.append_nil];exact h1
theorem ROps.callR (C:CfgOK P cfg) {o:Oper} {l:List Oper} {Q:St→Prop} (hg:o.guard = Option.none) {d:Nat} (hd:o.dst = some d) (hdN:d < cfg.N) {f:Operand} {args:Array Operand} {ts:Array TypeId} (ho:o.op = .call ⟨.value f,args,ts⟩) {g:FuncId} (hf:((opv s.regs f).bind avD).bind fnId = some g)
  {ds:List (List D)} (hds:aargs cfg (fun k => look k s.heap) s.regs args.toList ts.toList = some ds) (hs:opRefs s.regs args.toList = []) {r:List D} (hfn:AFnP P g ds r) (hfr:fresh s d = true) (h:∀ b,ROps P cfg M ops l Q ⟨insR d (.optr d 0 0) s.regs,insR d (.pin (some b) 1 r.length [r]) s.heap⟩):ROps P cfg M ops (o :: l) Q s:=by
 intro w0 Ok σ a w Q' hM hS hQ
 refine wpList_step (fun K hK => ?_)
 have hw:awanted ops s.regs o = some true:=by unfold awanted;rw [hg]
 rw [awanted_spec hS hw]
 simp only [if_true]
 obtain ⟨_,l2⟩:=aargs_rel C hS hds
 have hfv:a.eval f = .func (.func g) #[] #[]:=fnId_rel hS hf
 have hrun:(execOp a.eval o).run P w = .ok (.enter g (args.map a.eval)) w:=by
  unfold execOp
  rw [ho]
  simp [resolve,Deferred.ofValue,hfv,invoke,hfn.call]
 have hcall:=hfn.fn (Zn σ s.heap w) w (args.toList.map a.eval) (fun _ h => h.1) (l2 hs)
 unfold Oper.wp
 rw [hrun,Oper.upon_enter]
 have e:(args.toList.map a.eval).toArray = args.map a.eval:=by rw [← Array.toList_map,Array.toArray_toList]
 rw [← e]
 refine hcall.mono ?_
 rintro e w' ⟨b,ds',rfl,hb,hB,hrow,hk,hrd⟩
 have hfree:=fresh_free hfr
 obtain ⟨σ',k0,k1,k2,hZ,hS'⟩:=hS.new hB d (.row r.length [r] false) hfree (some b) 1 [] ds' hrow hk (fun σ' hok hF hg' hgo hZ hst => by
  show rdR r.length (Zn σ' _ w') w' ds' [r]
  refine rdR.single hk rfl (hrd.mono (fun c hc hlt => ?_))
  rcases hc.1 with h1|h1
  ·exact (hZ c h1).1
  ·refine ⟨hlt,by rw [hok];exact hS.ok1 c (.inl (Nat.le_trans hS.below.size h1)),fun q u hq e => ?_⟩
   simp only [look] at hq
   by_cases hqd:d = q
   ·subst hqd
    rw [hg'] at e
    cases e
    exact hc.2 rfl
   ·rw [if_neg hqd] at hq
    rw [hgo q (fun e => hqd e.symm)] at e
    have:=fp_lt hS hq c (fp_out e)
    omega) (fun c hc => by
   have hc:c ∈ [b] ++ []:=hc
   rw [List.append_nil,List.mem_singleton] at hc
   rw [hc];exact hb) (by simp)
 have hS2:=Sim.setObj hS' (key:=d) (u:=.row r.length [r] false) (ob:=.pin (some b) 1 r.length [r]) (by simp [look]) rfl rfl rfl (fun H' hm _ ds _ hel => by
  have hel:rdR r.length (Zn σ' _ w') w' ds [r]:=hel
  exact ⟨k1,k2,hel.mono (fun c hc _ => hm c hc)⟩)
 have hS3:Sim w0 Ok cfg.N σ' ⟨s.regs,insR d (.pin (some b) 1 r.length [r]) s.heap⟩ a w':=hS2.forget (fun _ _ h => h) (fun q o' ho' => by
  rw [look_ins] at ho'
  rw [look_ins]
  by_cases e:d = q
  ·rw [if_pos e] at ho' ⊢;exact ho'
  ·rw [if_neg e] at ho' ⊢
   simp only [look]
   rw [if_neg e];exact ho')
 show K (a.put o.dst _) _
 rw [hd]
 refine hK _ _ (h b w0 Ok σ' _ _ Q' hM (Sim.ins hS3 hdN ?_) hQ)
 intro o' ho'
 rw [look_ins,if_pos rfl] at ho'
 cases ho'
 exact ⟨Nat.zero_lt_one,b,k1,by simp⟩
end
def eU (c:Int):List D:=[.raw (.int .u8 c)]
def dCode (code:List Int):D:=.sl 1 (code.map eU)
def eCode (code:List Int):List D:=[dCode code]
def srcD (code:List Int) (s:Nat × Int):List D:=[.sl 1 (code.map eU),.int s.1,.raw (.int .u64 s.2)]
def Bytes (code:List Int):Prop:=∀ c ∈ code,0 ≤ c∧c < 256
theorem rdU {A:Nat→Prop} {w:World}:∀ {code:List Int} {ds:List Value} {d:Nat} {hk:0 < 1},rdL (RK 1 hk (RC d)) A w ds (code.map eU)→ds = code.map fun c => Value.int .u8 c
 | [],_,_,_,h => h
 | c :: code,ds,d,hk,⟨c1,d1,e,h1,h2⟩ => by
  obtain ⟨_,_,h3⟩:=h1
  have h3:=rdL_one1.1 h3
  have hc:c1 = [Value.int .u8 c]:=by
   have:rdV A w (c1.headD undef) (.raw (.int .u8 c)):=by
    obtain ⟨x,rfl⟩:∃ x,c1 = [x]:=by
     have:=(RC d).rd_len h3
     rw [RC_k] at this
     match c1,this with
     | [x],_ => exact ⟨x,rfl⟩
    exact ⟨d,h3⟩
   have hl:=(RC d).rd_len h3
   rw [RC_k] at hl
   match c1,hl,this with
   | [x],_,this => rw [show x = _ from (rdV_raw.1 this).1]
  rw [e,hc,rdU h2];rfl
theorem byt_of {A:Nat→Prop} {w:World} {v:Value} {code:List Int} {b:Nat} (hb:¬ A b) (hc:Bytes code) (h:rdV A w v (.sl 1 (code.map eU))):∃ oa cap,v = .slice oa code.length cap∧code.length ≤ cap∧cap ≤ maxLen∧(oa = none→cap = 0)∧Byt w b oa code:=by
 obtain ⟨oa,cap,ds,rfl,h1,h2,h3,h4,h5⟩:=rdV_sl.1 h
 rw [List.length_map] at h1 ⊢
 refine ⟨oa,cap,rfl,h1,h2,h3,hc,?_⟩
 obtain ⟨d,hk,h4⟩:=h4
 have e:=rdU h4
 rcases h5 with h5|⟨b2,off,h5,h6,h7⟩
 ·left
  rw [h5] at e
  cases code with
  | nil => rfl
  | cons => cases e
 ·by_cases hn:code = []
  ·exact .inl hn
  ·refine .inr ⟨b2,off,h5,fun e => hb (e ▸ h6),fun i hi => h7 i _ ?_⟩
   rw [e,List.getElem?_map,List.getElem?_eq_getElem hi];rfl
theorem nxtF_at {code:List Int} {s:Nat × Int} {n:Int} (h:s.1 ≤ code.length):(nxtF code s n).2.1 ≤ code.length:=by
 unfold nxtF
 split
 ·exact h
 ·show (if s.1 < code.length then s.1 + 1 else s.1) ≤ _
  split <;> omega
noncomputable def nxtG (code:List Int) (k:Nat) (xs:List (List D)) (post:List (List D)):Option (List Res × List (List D)):=by
 classical
 exact if h:∃ p:(Nat × Int) × Int,p.1.1 ≤ code.length∧k = 3∧xs = [srcD code p.1]∧post = [eI p.2] then some ([.val (.int (nxtF code h.choose.1 h.choose.2).1)],[srcD code (nxtF code h.choose.1 h.choose.2).2]) else none
noncomputable def nxtE (code:List Int):PinE:=⟨true,nxtG code⟩
theorem srcD_inj {code:List Int} {s s':Nat × Int} (h:srcD code s = srcD code s'):s = s':=by
 unfold srcD at h
 simp only [List.cons.injEq,D.int.injEq,D.raw.injEq,Value.int.injEq,true_and,and_true] at h
 exact Prod.ext (by omega) h.2
theorem nxtE_eq (code:List Int) (s:Nat × Int) (n:Int) (h:s.1 ≤ code.length):nxtG code 3 [srcD code s] [eI n] = some ([.val (.int (nxtF code s n).1)],[srcD code (nxtF code s n).2]):=by
 unfold nxtG
 have hx:∃ p:(Nat × Int) × Int,p.1.1 ≤ code.length∧3 = 3∧[srcD code s] = [srcD code p.1]∧[eI n] = [eI p.2]:=⟨(s,n),h,rfl,rfl,rfl⟩
 rw [dif_pos hx]
 obtain ⟨_,_,h2,h3⟩:=hx.choose_spec
 have e1:=srcD_inj (List.cons.inj h2).1
 have e2:n = hx.choose.2:=by
  exact D.int.inj (List.cons.inj (List.cons.inj h3).1).1
 rw [← e1,← e2]
section
variable {P:Program} {f:FuncId} {code:List Int} (hc:Bytes code) (eg:∀ args w,(callFunc f args).run P w = .ok (.enter f args) w)
 (hw:∀ (w:World) (b:Nat) (oa:Option Addr) (cap cap0:Nat) (s:Nat × Int) (n:Int),Row w (slv (some b) 1 cap0) 3 1 [.slice oa code.length cap,.int .i64 s.1,.int .u64 s.2] (some b)→Byt w b oa code→In64 n→s.1 ≤ code.length→code.length ≤ 1000000000 →
  Calls P f #[.pointer (some ⟨b,0,none⟩),.int .i64 n] w (RetN w b oa cap cap0 code (nxtF code s n)))
include hc eg hw
theorem nxt_ok (hl:code.length ≤ 1000000000) (k:Nat) (xs:List (List D)) (post:List (List D)) (x:List Res × List (List D)) (hx:(nxtE code).fn k xs post = some x):AEp P f (nxtE code).ptr k xs post (fun rs xs' => rs = x.1∧xs' = x.2):=by
 have hx:nxtG code k xs post = some x:=hx
 have key:∃ (s:Nat × Int) (n:Int),s.1 ≤ code.length∧k = 3∧xs = [srcD code s]∧post = [eI n]:=by
  unfold nxtG at hx
  split at hx
  ·rename_i h;obtain ⟨p,h1,h2,h3,h4⟩:=h;exact ⟨p.1,p.2,h1,h2,h3,h4⟩
  ·cases hx
 obtain ⟨s,n,h1,rfl,rfl,rfl⟩:=key
 rw [nxtE_eq code s n h1] at hx
 cases hx
 refine ⟨eg,fun A w us og cap0 ds hA hu hrow hk hrd hb => ?_⟩
 obtain ⟨b,hog⟩:=hrow.some_of (j:=0) Nat.zero_lt_one
 subst hog
 obtain ⟨cap1,hcv,_,_⟩:=hrow.slice
 have hb:=hb b rfl
 obtain ⟨u,us',rfl,hu1,hu2⟩:=hu
 have hu2:us' = []:=hu2
 subst hu2
 obtain ⟨rfl,hn⟩:=rdV_int.1 hu1
 have hrd:=rdR_one hrd
 obtain ⟨v0,ds1,rfl,hv0,hrd⟩:=hrd.cons_inv
 obtain ⟨v1,ds2,rfl,hv1,hrd⟩:=hrd.cons_inv
 obtain ⟨v2,ds3,rfl,hv2,hrd⟩:=hrd.cons_inv
 have hd3:ds3 = []:=List.eq_nil_of_length_eq_zero hrd.len
 subst hd3
 obtain ⟨rfl,hi⟩:=rdV_int.1 hv1
 obtain ⟨rfl,_⟩:=rdV_raw.1 hv2
 obtain ⟨oa,cap,rfl,hcap,hcm,hnil,hB⟩:=byt_of hb hc hv0
 refine (hw w b oa cap cap0 s n hrow hB hn h1 hl).mono ?_
 rintro e w' ⟨rfl,hrow',hbel⟩
 have hbd:=nxtF_bd hc s n
 have hin:In64 (nxtF code s n).1:=by unfold In64 at hn ⊢;omega
 have hat:=nxtF_at (n:=n) h1
 refine ⟨_,_,_,[.slice oa code.length cap,.int .i64 (nxtF code s n).2.1,.int .u64 (nxtF code s n).2.2],[.int .i64 (nxtF code s n).1],[],[],rfl,⟨rfl,rfl⟩,⟨hbel.os,hbel.tape,hbel.output,hbel.size,fun c hc hne => hbel.block c hc (fun e => hne (by show some b = some c;rw [show c = b from e]))⟩,rfl,List.nodup_nil,(by simp),?_,rfl,hrow',?_⟩
 ·exact ⟨_,[],[],[],[],[],rfl,rfl,rfl,rfl,⟨rdV_int.2 ⟨rfl,hin⟩,rfl,rfl⟩,rfl,rfl,rfl⟩
 ·refine rdR.single (by decide) rfl (.cons ((hv0.frame (fun c hA' hlt => hbel.block c hlt (fun e => hb (e ▸ hA')))).mono (fun c hA' _ => ⟨.inl hA',by simp,fun e => hb (by cases e;exact hA')⟩)) (.cons (rdV_int.2 ⟨rfl,?_⟩) (.cons (rdV_raw.2 ⟨rfl,rfl⟩) .nil)))
  unfold In64;omega
end
section
variable {P:Program} {f:FuncId} {code:List Int} (hc:Bytes code)
include hc
theorem frm_ok (eg:∀ args w,(callFunc f args).run P w = .ok (.enter f args) w) {xs:List (List D)} {us0:List Value} (hxs:∀ A w us,relArgs A w xs us→us = us0) {h:Int}
  (hw:∀ (w:World) (oa:Option Addr) (cap:Nat),Byt w w.heap.size oa code→code.length ≤ cap→(oa = none→cap = 0)→Calls P f (.slice oa code.length cap :: us0).toArray w (RetP w oa cap code h)) :
  AFnP P f (eCode code :: xs) (srcD code (0,h)):=by
 refine ⟨eg,fun A w vs hA hv => ?_⟩
 obtain ⟨v,us,rfl,hv1,hv2⟩:=hv
 obtain rfl:=hxs _ _ _ hv2
 have hv1:rdV A w v (.sl 1 (code.map eU)):=hv1
 obtain ⟨oa,cap,rfl,hcap,hcm,hnil,hB⟩:=byt_of (b:=w.heap.size) (fun h => Nat.lt_irrefl _ (hA _ h)) hc hv1
 refine (hw w oa cap hB hcap hnil).mono ?_
 rintro e w' ⟨rfl,hrow,hbel⟩
 refine ⟨_,_,rfl,Nat.le_refl _,hbel,hrow,(by show 0 < 3;omega),?_⟩
 refine .cons ((hv1.frame (fun c hA' hlt => hbel.block c hlt)).mono (fun c hA' _ => ⟨.inl hA',by have:=hA c hA';omega⟩)) (.cons (rdV_int.2 ⟨rfl,by unfold In64;omega⟩) (.cons (rdV_raw.2 ⟨rfl,rfl⟩) .nil))
end
theorem nxt_l01Next {code:List Int} (hc:Bytes code) (hl:code.length ≤ 1000000000) (k:Nat) (xs:List (List D)) (post:List (List D)) (x:List Res × List (List D)) (hx:(nxtE code).fn k xs post = some x):AEp Tryz.prog 119 (nxtE code).ptr k xs post (fun rs xs' => rs = x.1∧xs' = x.2) :=
 nxt_ok hc (enters_of Tryz.func119 rfl rfl) (fun w b oa cap cap0 s n h1 h2 h3 h4 h5 => c_l01Next w b oa code cap cap0 s n h1 h2 h3 h4 h5) hl k xs post x hx
def src0 (code:List Int):Nat × Int:=(0,hshF 11 (5381 + code.length) (code.take 4096))
theorem p_l01From {code:List Int} (hc:Bytes code) (hl:code.length ≤ 1000000000):AFnP Tryz.prog 70 [eCode code] (srcD code (src0 code)) :=
 frm_ok (xs:=[]) hc (enters_of Tryz.func70 rfl rfl) (us0:=[]) (fun _ _ _ h => h) (fun w oa cap h1 h2 h3 => c_l01From w oa code cap h1 h2 h3 hl)
end Go.Proofs.YtgngidchldajhaaGreat

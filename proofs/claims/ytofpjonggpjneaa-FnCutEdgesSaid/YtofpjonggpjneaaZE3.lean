/- Lemmas (3). -/
import Derived.Test.YtofpjonggpjneaaZE1
import Derived.Test.YtofpjonggpjneaaZE2
set_option linter.unusedSimpArgs false
set_option linter.unusedVariables false
namespace Go.Proofs.Ytofpjonggpjneaa
open Go.RowKit
def RetOO {α β:Type} (R:Rep α) (S:Rep β) (w:World) (x:α) (y:β):Ending→World→Prop :=
 fun e w' => ∃ u1 u2 m,e = .returned (.tuple #[u1,u2])∧(w.heap.size ≤ m∧m ≤ w'.heap.size)∧Own R w.heap.size m w' [u1] x∧Own S m w'.heap.size w' [u2] y∧Below w.heap.size w w'
def RetOOC {α β:Type} (R:Rep α) (S:Rep β) (w:World) (x:α) (y:β) (code:Int):Ending→World→Prop :=
 fun e w' => ∃ u1 u2 m,e = .returned (.tuple #[u1,u2,.int .i64 code])∧(w.heap.size ≤ m∧m ≤ w'.heap.size)∧Own R w.heap.size m w' [u1] x∧Own S m w'.heap.size w' [u2] y∧Below w.heap.size w w'
theorem getD_get {t:List Int} {i:Nat} (h:i < t.length):t.getD i 0 = t[i]:=by simp [h]
theorem Below.of_alloc_heap {w W w2:World} {o:Obj} (b:Below W.heap.size W w2) (e:W.heap = (w.alloc o).heap) (e1:W.os = w.os) (e2:W.tape = w.tape) (e3:W.output = w.output):Below w.heap.size w w2 :=
 ⟨b.os.trans e1,b.tape.trans e2,b.output.trans e3,by have:=b.size;rw [e] at this;simp at this;omega,
  fun k hk => (b.block k (by rw [e];simp;omega)).trans (by rw [e];exact Below.heap_alloc w o k hk)⟩
theorem Below.of_heap_eq {w W w2:World} (b:Below W.heap.size W w2) (e:W.heap = w.heap) (e1:W.os = w.os) (e2:W.tape = w.tape) (e3:W.output = w.output):Below w.heap.size w w2:=by
 rw [e] at b
 exact ⟨b.os.trans e1,b.tape.trans e2,b.output.trans e3,by have:=b.size;rw [e] at this;exact this,fun k hk => (b.block k hk).trans (by rw [e])⟩
theorem Rd.two {α:Type} {R:Rep α} {w W:World} {u1 u2:Value} {x y:List α} {E:TypeId} (h1:Rd (RS R) w [u1] x) (h2:Rd (RS R) w [u2] y) (e:W.heap = (w.alloc (.cells #[u1,u2] E)).heap) :
  Rd (RS (RS R)) W [.slice (some ⟨w.heap.size,0,none⟩) 2 2] [x,y]:=by
 refine Rd.of_heap (w:=w.alloc (.cells #[u1,u2] E)) ?_ e
 have hb:Below w.heap.size w (w.alloc (.cells #[u1,u2] E)):=(Below.refl _ _).alloc (Nat.le_refl _) _
 refine ⟨some ⟨w.heap.size,0,none⟩,2,[u1,u2],rfl,Nat.le_refl _,by decide,by simp,⟨[u1],[u2],rfl,h1.below hb (Nat.le_refl _),⟨[u2],[],rfl,h2.below hb (Nat.le_refl _),rfl⟩⟩,.inr ⟨w.heap.size,0,rfl,by simp,fun j u hj => ?_⟩⟩
 rw [Nat.zero_add,World.cell?_alloc_at _ _ _ _ rfl]
 simpa using hj
theorem Rd.none' {w:World} {oa:Option Addr} {c:Nat} (hc:c ≤ maxLen) (hn:oa = none→c = 0):Rd (RS RI) w [.slice oa 0 c] [] :=
 ⟨oa,c,[],rfl,Nat.zero_le _,hc,hn,rfl,.inl rfl⟩
set_option maxRecDepth 100000 in
set_option maxHeartbeats 1000000 in
theorem c_spec_l04End (v:Value) (t:List Int) (n:Nat) (w:World) (h:Rd (RS RI) w [v] t) (hn:n < t.length) (hsz:t.length ≤ 1000000) :
  Calls Try.prog 163 #[v,.int .i64 n] w (RetQ w (.int .i64 (endOf t n:Nat))):=by
 obtain ⟨oa,c1,I1⟩:=h.ints
 obtain rfl:=I1.val
 have m1:=I1.le;have m2:=I1.capLe
 unfold maxLen at m2
 obtain ⟨b,off,rfl,hb,hc⟩:=I1.get hn
 have gn:=hc n hn
 have HC:=Lib.hid hc
 have HN:=Lib.hid hn
 have hw0:IntKind.i64.wrap ((n:Int) + 1) = (n:Int) + 1:=IntWalk.i64_in _ (by omega)
 obtain ⟨x,hx⟩:∃ x:Int,x = t[n]'hn:=⟨_,rfl⟩
 rw [← hx] at gn
 have HX:=Lib.hid hx
 have in0:(0:Int) ≤ (n:Int):=by omega
 have in1:(n:Int) < (t.length:Int):=by omega
 obtain ⟨tl,htl⟩:∃ tl,tl = t.length:=⟨_,rfl⟩
 rw [← htl] at in1 m1 hsz
 rw [← htl]
 have HTL:=Lib.hid htl
 clear hc I1 h hx htl
 go_enter Try.func163,Try.ntmps163
 go_wp2_with fail
 go_loopw [5] (fun i wr => ∃ k:Nat,n + 1 ≤ k∧k ≤ tl∧i = .int .i64 k∧Hid (∀ j,n < j→j < k→t.getD n 0 < t.getD j 0)∧∃ nd,wr = w.drewN nd) (fun i _ => tl - (intOf i).toNat)
 case atStart => exact ⟨n + 1,Nat.le_refl _,by have:=HTL.out;have:=HN.out;omega,by go_num,Lib.hid (fun j h1 h2 => by omega),0,rfl⟩
 case round =>
  obtain ⟨k,hnk,hk,rfl,hall,nd,rfl⟩:=hrel
  by_cases hlt:k < tl
  ·have hlt2:k < t.length:=by rw [← HTL.out];exact hlt
   have gk:=HC.out k hlt2
   obtain ⟨y,hy⟩:∃ y,y = t[k]:=⟨_,rfl⟩
   rw [← hy] at gk
   have ik0:(0:Int) ≤ (k:Int):=by omega
   have ik1:(k:Int) < (tl:Int):=by omega
   have ik2:decide ((k:Int) < (tl:Int)) = true:=decide_eq_true ik1
   by_cases hgt:x < y
   ·have hd:decide (x < y) = true:=decide_eq_true hgt
    have HALL:Hid (∀ j,n < j→j < k + 1→t.getD n 0 < t.getD j 0):=Lib.hid (by
     intro j h1 h2
     by_cases hj:j = k
     ·subst hj;rw [getD_get HN.out,getD_get hlt2,← hy,← HX.out];exact hgt
     ·exact hall.out j h1 (by omega))
    clear hgt hy
    go_wp2_with fail
    go_quiet (fail)
    go_wp2_with fail
    go_roundw
    case rel => exact ⟨k + 1,by omega,by omega,by go_num,HALL,(by first|exact drewN1 _ _|exact drewN2 _ _ _|exact drewN3 _ _ _ _)⟩
    case measure => simp [intOf];omega
   ·have hd:decide (x < y) = false:=decide_eq_false hgt
    have HE:=Lib.hid (endOf_eq (t:=t) hnk (by omega) hall.out (.inr (by rw [getD_get HN.out,getD_get hlt2,← hy,← HX.out];exact hgt)))
    clear hgt hy
    go_wp2_with fail
    go_quiet (fail)
    go_wp2_with fail
    go_ret
    exact ⟨by rw [HE.out];rfl,by first|exact drewN1 _ _|exact drewN2 _ _ _|exact drewN3 _ _ _ _⟩
  ·obtain rfl:k = tl:=by omega
   have HE:=Lib.hid (endOf_eq (t:=t) hnk (by rw [← HTL.out];omega) hall.out (.inl HTL.out))
   have ij3:decide ((k:Int) < (k:Int)) = false:=by simp
   go_wp2_with fail
   go_quiet (fail)
   go_wp2_with fail
   go_ret
   exact ⟨by rw [HE.out];rfl,by first|exact drewN1 _ _|exact drewN2 _ _ _|exact drewN3 _ _ _ _⟩
theorem endOf_le {t:List Int} {n:Nat} (hn:n < t.length):n + 1 ≤ endOf t n∧endOf t n ≤ t.length:=by
 unfold endOf
 have:=(List.takeWhile_sublist (fun l => decide (t.getD n 0 < l)) (l:=t.drop (n + 1))).length_le
 rw [List.length_drop] at this
 omega
theorem sub_take_succ (xs:List Int) (x:Int) (k:Nat) (h:k < xs.length):(xs.take (k + 1)).map (· - x) = (xs.take k).map (· - x) ++ [xs[k] - x]:=by
 rw [List.take_succ_eq_append_getElem h,List.map_append];rfl
set_option maxRecDepth 100000 in
set_option maxHeartbeats 2000000 in
theorem c_impl_cutAbove (v:Value) (t:List Int) (n:Nat) (w:World) (h:Rd (RS RI) w [v] t) (h8:lev8 t = true) (h0:0 < n) (hn:n < t.length) :
  Calls Try.prog 109 #[v,.int .i64 n] w (RetOO (RS RI) (RS RI) w (canon (cutT t n)) (canon (cutB t n))):=by
 have hlev:=lev8_lev h8
 have hl8:=lev8_len h8
 have hcl:=cuts_lev h8 h0 hn
 obtain ⟨e1,e2⟩:=endOf_le hn
 have HT:=Lib.hid h
 obtain ⟨oa,c1,I1⟩:=h.ints
 obtain rfl:=I1.val
 have m1:=I1.le;have m2:=I1.capLe
 unfold maxLen at m2
 obtain ⟨b,off,rfl,hb,hc⟩:=I1.get hn
 have gn:=hc n hn
 have HC:=Lib.hid hc
 have HN:=Lib.hid hn
 have HLB:=Lib.hid hlev.bd
 have hw0:IntKind.i64.wrap ((n:Int) + 1) = (n:Int) + 1:=IntWalk.i64_in _ (by omega)
 obtain ⟨x,hx⟩:∃ x:Int,x = t[n]'hn:=⟨_,rfl⟩
 rw [← hx] at gn
 have HX:=Lib.hid hx
 have HCL:=Lib.hid hcl
 have hxb:0 ≤ x∧x ≤ 8:=by have:=hlev.bd n hn;rw [hx];omega
 obtain ⟨xb1,xb2⟩:=hxb
 have in0:(0:Int) ≤ (n:Int):=by omega
 have in1:(n:Int) < (t.length:Int):=by omega
 obtain ⟨tl,htl⟩:∃ tl,tl = t.length:=⟨_,rfl⟩
 rw [← htl] at in1 m1 hl8 e2
 rw [← htl]
 have HTL:=Lib.hid htl
 obtain ⟨e,he⟩:∃ e,e = endOf t n:=⟨_,rfl⟩
 rw [← he] at e1 e2
 have HE:=Lib.hid he
 clear hc I1 h hx htl hlev hcl h8 he
 go_enter Try.func109,Try.ntmps109
 go_wp2_with fail
 go_loopw [6] (fun i wr => ∃ k:Nat,n + 1 ≤ k∧k ≤ tl∧i = .int .i64 k∧Hid (∀ j,n < j→j < k→t.getD n 0 < t.getD j 0)∧∃ nd,wr = w.drewN nd) (fun i _ => tl - (intOf i).toNat)
 case atStart => exact ⟨n + 1,Nat.le_refl _,by have:=HTL.out;have:=HN.out;omega,by go_num,Lib.hid (fun j h1 h2 => by omega),0,rfl⟩
 case round =>
  obtain ⟨k,hnk,hk,rfl,hall,nd,rfl⟩:=hrel
  by_cases hgo:k < tl∧x < t.getD k 0
  ·obtain ⟨hlt,hgt⟩:=hgo
   have hlt2:k < t.length:=by rw [← HTL.out];exact hlt
   have gk:=HC.out k hlt2
   rw [getD_get hlt2] at hgt
   obtain ⟨y,hy⟩:∃ y,y = t[k]:=⟨_,rfl⟩
   rw [← hy] at gk hgt
   have ik0:(0:Int) ≤ (k:Int):=by omega
   have ik1:(k:Int) < (tl:Int):=by omega
   have ik2:decide ((k:Int) < (tl:Int)) = true:=decide_eq_true ik1
   have hd:decide (x < y) = true:=decide_eq_true hgt
   have HALL:Hid (∀ j,n < j→j < k + 1→t.getD n 0 < t.getD j 0):=Lib.hid (by
    intro j h1 h2
    by_cases hj:j = k
    ·subst hj;rw [getD_get HN.out,getD_get hlt2,← hy,← HX.out];exact hgt
    ·exact hall.out j h1 (by omega))
   clear hgt hy
   go_wp2_with fail
   go_quiet (fail)
   go_wp2_with fail
   go_roundw
   case rel => exact ⟨k + 1,by omega,by omega,by go_num,HALL,(by first|exact drewN1 _ _|exact drewN2 _ _ _|exact drewN3 _ _ _ _)⟩
   case measure => simp [intOf];omega
  ·have HK:Hid (k = e):=Lib.hid (by
    rw [HE.out]
    refine (endOf_eq (t:=t) hnk (by rw [← HTL.out];omega) hall.out ?_).symm
    rw [getD_get HN.out,← HX.out,← HTL.out]
    by_cases hlt:k < tl
    ·exact .inr (fun h => hgo ⟨hlt,h⟩)
    ·exact .inl (by omega))
   have hcn:¬ c1 = n:=by omega
   have hmn:n ≤ e:=by omega
   have hmc:e ≤ c1:=by omega
   have ic1:n ≤ c1:=by omega
   have hcnt:((e - n:Nat):Int) = (e:Int) - n:=by omega
   have R1:Rd (RS RI) w [.slice (some ⟨b,off,none⟩) n c1] (t.take n):=by
    have:=HT.out.part 0 n (Nat.zero_le _) (by omega) c1 (by omega) (by unfold maxLen;omega) (by simp)
    simpa [Addr.add] using this
   have R2:Rd (RS RI) w [.slice (some ⟨b,off + e,none⟩) (tl - e) (c1 - e)] (t.drop e):=by
    have:=HT.out.part e t.length (by have:=HTL.out;omega) (Nat.le_refl _) (c1 - e) (by have:=HTL.out;omega) (by unfold maxLen;omega) (by simp)
    rw [← HTL.out] at this
    rw [HTL.out,List.take_length,← HTL.out] at this
    simpa [Addr.add,show ¬ e = 0 by omega] using this
   have R3:c1 = e→Rd (RS RI) w [.slice (some ⟨b,off,none⟩) 0 0] (t.drop e):=fun h => by
    rw [List.drop_of_length_le (by have:=HTL.out;omega)]
    exact Rd.none' (by decide) (by simp)
   obtain ⟨ct,hct⟩:∃ ct,ct = cutT t n:=⟨_,rfl⟩
   have hct2:t.take n ++ t.drop e = ct:=by rw [hct,HE.out];rfl
   have hcl1:=lev8_lev HCL.out.1
   have hcl2:=lev8_len HCL.out.1
   have hbl1:=lev8_lev HCL.out.2
   have hbl2:=lev8_len HCL.out.2
   rw [← hct] at hcl1 hcl2
   have HCA:Hid (∀ (W:World) (v:Value),Rd (RS RI) W [v] ct→Calls Try.prog 105 #[v] W (RetO (RS RI) W (canon ct))):=Lib.hid (fun W v r => c_impl_canonical 13 v ct W r hcl1 (by omega) (by omega))
   have HCB:Hid (∀ (W:World) (v:Value),Rd (RS RI) W [v] (cutB t n)→Calls Try.prog 105 #[v] W (RetO (RS RI) W (canon (cutB t n)))):=Lib.hid (fun W v r => c_impl_canonical 13 v (cutB t n) W r hbl1 (by omega) (by omega))
   have HCC:Hid (∀ (W w':World) (u2:Value),Below w.heap.size w w'→Rd (RS RI) w [u2] (t.drop e)→W.heap = (w'.alloc (.cells #[.slice (some ⟨b,off,none⟩) n c1,u2] 24)).heap→Calls Try.prog 162 #[.slice (some ⟨w'.heap.size,0,none⟩) 2 2] W (RetO (RS RI) W ct)):=Lib.hid (by
    intro W w' u2 hb hr hW
    have:=c_slicesConcat (.slice (some ⟨w'.heap.size,0,none⟩) 2 2) [t.take n,t.drop e] W (Rd.two (R1.below hb (Nat.le_refl _)) (hr.below hb (Nat.le_refl _)) hW) (by have:=HTL.out;simp [sumLen];omega)
    simpa [hct2] using this)
   have HCT:=Lib.hid hct
   have EGC:=Lib.hid (enters (P:=Try.prog) (f:=162) Try.func162 (by kernel_rfl) rfl)
   have EGN:=Lib.hid (enters (P:=Try.prog) (f:=105) Try.func105 (by kernel_rfl) rfl)
   obtain ⟨m,hm⟩:∃ m,e - n = m:=⟨_,rfl⟩
   rw [hm] at hcnt
   have HR2:=Lib.hid R2
   have HR3:=Lib.hid R3
   have hem:e = n + m:=by omega
   have HEM:=Lib.hid hem
   have hgo2:k < tl→¬ x < t.getD k 0:=fun h1 h2 => hgo ⟨h1,h2⟩
   clear R1 R2 R3 hct hct2 hcl1 hcl2 hbl1 hbl2 hgo hem
   have key:∀ (y:Int),(k < tl→w.cell? ⟨b,off + k,none⟩ = some (.int .i64 y)∧decide (x < y) = false)→True:=fun _ _ => trivial
   by_cases hlt:k < tl
   case' pos =>
    have hlt2:k < t.length:=by rw [← HTL.out];exact hlt
    have gk:=HC.out k hlt2
    have hgt:¬ x < t[k]:=fun h => hgo2 hlt (by rw [getD_get hlt2];exact h)
    obtain ⟨y,hy⟩:∃ y:Int,y = t[k]'hlt2:=⟨_,rfl⟩
    rw [← hy] at gk hgt
    have ik1:(k:Int) < (tl:Int):=by omega
    have ik2:decide ((k:Int) < (tl:Int)) = true:=decide_eq_true ik1
    have hd:decide (x < y) = false:=decide_eq_false hgt
    clear hgt hy
   case' neg =>
    have ik2:decide ((k:Int) < (tl:Int)) = false:=decide_eq_false (by omega)
   all_goals
    have ik0:(0:Int) ≤ (k:Int):=by omega
    obtain rfl:=HK.out
    clear hgo2 key
    go_wp2_with fail
    go_quiet (fail)
    go_wp2_with fail
    go_loopw [7,35] (fun o i wr => ∃ (q:Nat) (z:List Int),q ≤ m∧i = .int .i64 q∧Hid (z = ((t.drop n).take q).map (· - x))∧Hid (z.length = q)∧(∃ oa cap,o = .slice oa z.length cap)∧Hid (Own (RS RI) w.heap.size wr.heap.size wr [o] z)∧Below w.heap.size w wr) (fun _ i _ => m - (intOf i).toNat)
    case atStart => exact ⟨0,[],Nat.zero_le _,rfl,Lib.hid rfl,Lib.hid rfl,⟨_,_,rfl⟩,Lib.hid ((Own.empty (R:=RI) (w:=w.drewN _) 2 w.heap.size (Nat.le_refl _)).top _ (by simp)),((Below.drewN _ _ _).alloc (Nat.le_refl _) _)⟩
    case round =>
     obtain ⟨q,z,hq,rfl,hz,hzl,⟨o1,cap1,rfl⟩,hown,hbel⟩:=hrel
     have hsz1:=hbel.size
     by_cases hlq:q < m
     ·have hlq2:n + q < t.length:=by have:=HTL.out;omega
      have g3:wr.cell? ⟨b,off + n + q,none⟩ = some (.int .i64 t[n + q]):=by rw [Nat.add_assoc];exact (hbel.cell (p:=⟨b,off + (n + q),none⟩) hb).trans (HC.out _ hlq2)
      have gn3:wr.cell? ⟨b,off + n,none⟩ = some (.int .i64 x):=(hbel.cell (p:=⟨b,off + n,none⟩) hb).trans gn
      obtain ⟨y2,hy2⟩:∃ y2:Int,y2 = t[n + q]'hlq2:=⟨_,rfl⟩
      have hyb:=HLB.out (n + q) hlq2
      have hnx:((t.drop n).take (q + 1)).map (· - x) = z ++ [y2 - x]:=by
       rw [hz.out,sub_take_succ _ _ _ (by rw [List.length_drop];omega),List.getElem_drop,← hy2]
      rw [← hy2] at g3 hyb
      obtain ⟨yb1,yb2⟩:=hyb
      have hw1:IntKind.i64.wrap (y2 - x) = y2 - x:=IntWalk.i64_in _ (by omega)
      have HN2:=Lib.hid hnx
      have hzb:z.length ≤ 8:=by rw [hzl.out];omega
      have iq0:(0:Int) ≤ (q:Int):=by omega
      have iq1:(q:Int) < (m:Int):=by omega
      clear hy2 hnx
      go_wp2_with (at_builtin;refine StopAt (o:=⟨some 47,_,_,_,_,_⟩) ?_)
      refine Stop.go ?_
      refine wpList_snoc (w:=wr) (R:=RI) rfl _ _ 24 rfl 2 (.int .i64 0) 1 8 tI64 rfl (.slice o1 z.length cap1) z (y2 - x) [.int .i64 (y2 - x)] w.heap.size wr.heap.size wr.heap.size rfl hown.out (Own.int ⟨by omega,by omega⟩) (Nat.le_refl _) hsz1 2 rfl rfl (by omega) (by omega) ?_
      intro oa1 cap1' w1 hown1 c1a c1b hbel1
      have hb3:=hbel.trans hbel1
      obtain ⟨z',hz'⟩:∃ z',z' = z ++ [y2 - x]:=⟨_,rfl⟩
      have HZ:Hid (z' = ((t.drop n).take (q + 1)).map (· - x)):=Lib.hid (by rw [hz',HN2.out])
      have e1:z.length + 1 = z'.length:=by rw [hz'];simp
      have HZL:Hid (z'.length = q + 1):=Lib.hid (by rw [← e1,hzl.out])
      rw [← hz',e1] at hown1
      have HO1:Hid (Own (RS RI) w.heap.size w1.heap.size w1 [.slice oa1 z'.length cap1'] z'):=hown1
      rw [e1]
      clear hown1 hbel1 hown e1 hz'
      go_wp2_with fail
      go_roundw
      case rel => exact ⟨q + 1,z',by omega,by go_num,HZ,HZL,⟨_,_,rfl⟩,HO1,hb3⟩
      case measure => simp [intOf];omega
     ·have hfin:Hid (z = cutB t n):=Lib.hid (by
       rw [hz.out,show q = m by omega]
       unfold cutB
       rw [← HE.out,List.drop_take,getD_get hn,← HX.out]
       have:=HEM.out
       rw [show k - n = m by omega])
      by_cases hck:c1 = k∧¬ k < tl
      case' pos => first|exact absurd hlt hck.2|(obtain ⟨hck1,hck2⟩:=hck;have hrc:=HR3.out hck1;obtain rfl:tl = k:=(by omega);obtain rfl:=hck1)
      case' neg => have hrc:=HR2.out;have hck2:¬ c1 = k:=fun h => hck ⟨h,by omega⟩;clear hck
      all_goals
       have HRC:=Lib.hid hrc
       go_wp2_with fail
       go_region_law (first
        | (refine step_call rfl 162 _ _ rfl EGC.out #[.slice (some ⟨wr.heap.size,0,none⟩) 2 2] (by simp [Act.eval]) ?_;refine Calls.mono (HCC.out _ wr _ hbel HRC.out (by rfl)) ?_;rintro e w2 ⟨u,rfl,o2,b2⟩;obtain ⟨ou,cu,rfl,lu1,lu2⟩:=o2.val;have bA:Below wr.heap.size wr w2:=Below.of_alloc_heap b2 rfl rfl rfl rfl;refine ⟨_,rfl,?_⟩)
        | (refine step_call rfl 105 _ _ rfl EGN.out #[.slice ou ct.length cu] (by simp [Act.eval]) ?_;refine Calls.mono (HCA.out _ _ (o2.rd.of_heap (by rfl))) ?_;rintro e w3 ⟨u3,rfl,o3,b3⟩;have bB:Below w2.heap.size w2 w3:=Below.of_heap_eq b3 rfl rfl rfl rfl;refine ⟨_,rfl,?_⟩)
        | (refine step_call rfl 105 _ _ rfl EGN.out #[.slice o1 z.length cap1] (by simp [Act.eval]) ?_;refine Calls.mono (HCB.out _ _ (hfin.out ▸ (((hown.out.below bA (Nat.le_refl _)).below bB bA.size).rd.of_heap (by rfl)))) ?_;rintro e w4 ⟨u4,rfl,o4,b4⟩;have bC:Below w3.heap.size w3 w4:=Below.of_heap_eq b4 rfl rfl rfl rfl;refine ⟨_,rfl,?_⟩))
       all_goals
        go_wp2_with fail
        go_ret2
        have s2:=bA.size
        have s3:=bB.size
        have s4:=bC.size
        exact ⟨_,_,w3.heap.size,rfl,⟨by omega,s4⟩,by rw [← HCT.out];exact (o3.below bC (Nat.le_refl _)).mono (by have:=o2;omega) (Nat.le_refl _),o4,hbel.trans ((bA.trans (bB.mono s2) |>.trans (bC.mono (by omega))).mono hsz1)⟩
set_option maxRecDepth 100000 in
set_option maxHeartbeats 2000000 in
theorem c_spec_l04Cut (v:Value) (t:List Int) (n:Nat) (w:World) (h:Rd (RS RI) w [v] t) (h8:lev8 t = true) (h0:0 < n) (hn:n < t.length) :
  Calls Try.prog 111 #[v,.int .i64 n] w (RetOO (RS RI) (RS RI) w (canon (cutT t n)) (canon (cutB t n))):=by
 have hlev:=lev8_lev h8
 have hl8:=lev8_len h8
 have hcl:=cuts_lev h8 h0 hn
 obtain ⟨e1,e2⟩:=endOf_le hn
 have hend:=c_spec_l04End v t n w h hn (by omega)
 have HT:=Lib.hid h
 obtain ⟨oa,c1,I1⟩:=h.ints
 obtain rfl:=I1.val
 have m1:=I1.le;have m2:=I1.capLe
 unfold maxLen at m2
 obtain ⟨b,off,rfl,hb,hc⟩:=I1.get hn
 have gn:=hc n hn
 have HC:=Lib.hid hc
 have HLB:=Lib.hid hlev.bd
 obtain ⟨x,hx⟩:∃ x:Int,x = t[n]'hn:=⟨_,rfl⟩
 rw [← hx] at gn
 have HX:=Lib.hid hx
 have HCL:=Lib.hid hcl
 have hxb:0 ≤ x∧x ≤ 8:=by have:=hlev.bd n hn;rw [hx];omega
 obtain ⟨xb1,xb2⟩:=hxb
 have in0:(0:Int) ≤ (n:Int):=by omega
 have in1:(n:Int) < (t.length:Int):=by omega
 obtain ⟨k,he⟩:∃ k,k = endOf t n:=⟨_,rfl⟩
 rw [← he] at e1 e2 hend
 obtain ⟨tl,htl⟩:∃ tl,tl = t.length:=⟨_,rfl⟩
 rw [← htl] at in1 m1 hl8 e2 hend
 rw [← htl]
 have HTL:=Lib.hid htl
 have HE:=Lib.hid he
 have hnk:n + 1 ≤ k:=e1
 have ic1:n ≤ c1:=by omega
 have R1:Rd (RS RI) w [.slice (some ⟨b,off,none⟩) n c1] (t.take n):=by
  have:=HT.out.part 0 n (Nat.zero_le _) (by omega) c1 (by omega) (by unfold maxLen;omega) (by simp)
  simpa [Addr.add] using this
 have R2:Rd (RS RI) w [.slice (some ⟨b,off + k,none⟩) (tl - k) (c1 - k)] (t.drop k):=by
  have:=HT.out.part k t.length (by omega) (Nat.le_refl _) (c1 - k) (by omega) (by unfold maxLen;omega) (by simp)
  rw [← htl] at this
  rw [htl,List.take_length,← htl] at this
  simpa [Addr.add,show ¬ k = 0 by omega] using this
 have R3:c1 = k→Rd (RS RI) w [.slice (some ⟨b,off,none⟩) 0 (c1 - k)] (t.drop k):=fun h => by
  rw [List.drop_of_length_le (by omega)]
  exact Rd.none' (by unfold maxLen;omega) (by simp)
 obtain ⟨ct,hct⟩:∃ ct,ct = cutT t n:=⟨_,rfl⟩
 have hct2:t.take n ++ t.drop k = ct:=by rw [he,hct];rfl
 have hcl1:=lev8_lev hcl.1
 have hcl2:=lev8_len hcl.1
 have hbl1:=lev8_lev hcl.2
 have hbl2:=lev8_len hcl.2
 have HCA:Hid (∀ (W:World) (v:Value),Rd (RS RI) W [v] ct→Calls Try.prog 112 #[v] W (RetO (RS RI) W (canon ct))):=Lib.hid (fun W v r => c_spec_l03Canon 8 v ct W r (hct ▸ hcl1) (hct ▸ hcl2) (by have:=hct ▸ hcl2;omega))
 have HCB:Hid (∀ (W:World) (v:Value),Rd (RS RI) W [v] (cutB t n)→Calls Try.prog 112 #[v] W (RetO (RS RI) W (canon (cutB t n)))):=Lib.hid (fun W v r => c_spec_l03Canon 8 v (cutB t n) W r hbl1 (by omega) (by omega))
 have EGO:=Lib.hid (enters (P:=Try.prog) (f:=164) Try.func164 (by kernel_rfl) rfl)
 have EGN:=Lib.hid (enters (P:=Try.prog) (f:=112) Try.func112 (by kernel_rfl) rfl)
 have HR1:=Lib.hid R1
 have HR2:=Lib.hid R2
 have HR3:=Lib.hid R3
 have htk:(t.take n).length = n:=by rw [List.length_take];omega
 have HTK:=Lib.hid htk
 have hdl:(t.take n).length + (t.drop k).length ≤ 1000000000:=by rw [htk,List.length_drop];omega
 have HDL:=Lib.hid hdl
 have HCT:=Lib.hid hct
 have HCT2:=Lib.hid hct2
 obtain ⟨tA,hA⟩:∃ tA,tA = t.take n:=⟨_,rfl⟩
 obtain ⟨tB,hB⟩:∃ tB,tB = t.drop k:=⟨_,rfl⟩
 rw [← hA] at HR1 HTK
 rw [← hB] at HR2 HR3
 rw [← hA,← hB] at HDL HCT2
 clear hc I1 h hx htl hlev hcl h8 he R1 R2 R3 hct hct2 hcl1 hcl2 hbl1 hbl2 htk hdl hA hB
 go_enter Try.func111,Try.ntmps111
 go_wp2_with (go_at_call 163;refine hend.mono ?_;rintro e wq ⟨rfl,nd,rfl⟩)
 go_loopw [7,8] (fun o i wr => ∃ (q:Nat) (z:List Int),n + q ≤ k∧i = .int .i64 (n + q:Nat)∧Hid (z = ((t.drop n).take q).map (· - x))∧Hid (z.length = q)∧(∃ oa cap,o = .slice oa z.length cap)∧Hid (Own (RS RI) w.heap.size wr.heap.size wr [o] z)∧Below w.heap.size w wr) (fun _ i _ => k - (intOf i).toNat)
 case atStart => exact ⟨0,[],by omega,rfl,Lib.hid rfl,Lib.hid rfl,⟨_,_,rfl⟩,Lib.hid ((Own.empty (R:=RI) (w:=w.drewN _) 2 w.heap.size (Nat.le_refl _)).top _ (by simp)),((Below.drewN _ _ _).alloc (Nat.le_refl _) _)⟩
 case round =>
  obtain ⟨q,z,hq,rfl,hz,hzl,⟨o1,cap1,rfl⟩,hown,hbel⟩:=hrel
  have hsz1:=hbel.size
  obtain ⟨p,hp⟩:∃ p,p = n + q:=⟨_,rfl⟩
  rw [← hp]
  rw [← hp] at hq
  have HP:=Lib.hid hp
  by_cases hlq:p < k
  ·have hlq2:p < t.length:=by have:=HTL.out;omega
   have g3:wr.cell? ⟨b,off + p,none⟩ = some (.int .i64 t[p]):=(hbel.cell (p:=⟨b,off + p,none⟩) hb).trans (HC.out _ hlq2)
   have gn3:wr.cell? ⟨b,off + n,none⟩ = some (.int .i64 x):=(hbel.cell (p:=⟨b,off + n,none⟩) hb).trans gn
   obtain ⟨y2,hy2⟩:∃ y2:Int,y2 = t[p]'hlq2:=⟨_,rfl⟩
   have hyb:=HLB.out p hlq2
   have hnx:((t.drop n).take (q + 1)).map (· - x) = z ++ [y2 - x]:=by
    rw [hz.out,sub_take_succ _ _ _ (by rw [List.length_drop];omega),List.getElem_drop,hy2]
    simp only [hp]
   rw [← hy2] at g3 hyb
   obtain ⟨yb1,yb2⟩:=hyb
   have hw1:IntKind.i64.wrap (y2 - x) = y2 - x:=IntWalk.i64_in _ (by omega)
   have HN2:=Lib.hid hnx
   have hzb:z.length ≤ 8:=by rw [hzl.out];omega
   have iq0:(0:Int) ≤ (p:Int):=by omega
   have iq1:(p:Int) < (tl:Int):=by omega
   clear hy2 hnx hp
   go_wp2_with fail
   go_region_law (refine step_snoc (w:=wr) (R:=RI) rfl _ _ 24 rfl 2 (.int .i64 0) 1 8 tI64 rfl (.slice o1 z.length cap1) z (y2 - x) [.int .i64 (y2 - x)] w.heap.size wr.heap.size wr.heap.size rfl hown.out (Own.int ⟨by omega,by omega⟩) (Nat.le_refl _) hsz1 2 rfl rfl (by omega) (by omega) ⟨rfl,rfl,rfl,rfl⟩ ?_;intro oa1 cap1' w1 hown1 c1a c1b hbel1)
   all_goals
    have hb3:=hbel.trans hbel1
    obtain ⟨z',hz'⟩:∃ z',z' = z ++ [y2 - x]:=⟨_,rfl⟩
    have HZ:Hid (z' = ((t.drop n).take (q + 1)).map (· - x)):=Lib.hid (by rw [hz',HN2.out])
    have e1:z.length + 1 = z'.length:=by rw [hz'];simp
    have HZL:Hid (z'.length = q + 1):=Lib.hid (by rw [← e1,hzl.out])
    rw [← hz',e1] at hown1
    have HO1:Hid (Own (RS RI) w.heap.size w1.heap.size w1 [.slice oa1 z'.length cap1'] z'):=hown1
    rw [e1]
    clear hown1 hbel1 hown e1 hz'
    go_wp2_with fail
    go_roundw
    case rel => exact ⟨q + 1,z',by have:=HP.out;omega,by rw [HP.out];go_num,HZ,HZL,⟨_,_,rfl⟩,HO1,hb3⟩
    case measure => simp [intOf];omega
  ·have hfin:Hid (z = cutB t n):=Lib.hid (by
    rw [hz.out]
    unfold cutB
    rw [← HE.out,List.drop_take,getD_get hn,← HX.out]
    rw [show k - n = q by omega])
   clear hp
   by_cases hck:c1 = k
   case' pos => have hrc:=HR3.out hck;obtain rfl:tl = k:=(by omega);have hck':=eq_true hck;clear hck
   case' neg => have hrc:=HR2.out
   all_goals
    have HRC:=Lib.hid hrc
    go_wp2_with fail
    go_region_law (first
     | (refine step_call rfl 164 _ _ rfl EGO.out #[.slice (some ⟨b,off,none⟩) n c1] (by simp [Act.eval,Act.put]) ?_;refine Calls.mono (c_spec_l01Own _ _ _ ((HR1.out.below hbel (Nat.le_refl _)).of_heap (by rfl)) (by rw [HTK.out];omega)) ?_;rintro e w2 ⟨u,rfl,o2,b2⟩;have bA:Below wr.heap.size wr w2:=Below.of_heap_eq b2 rfl rfl rfl rfl;refine ⟨_,rfl,?_⟩)
     | (refine step_extI (w:=w2) rfl _ _ 24 rfl 2 tI64 u tA wr.heap.size w2.heap.size rfl o2 _ tB rfl ((HRC.out.below (hbel.trans (bA.mono hsz1)) (Nat.le_refl _)).of_heap (by rfl)) (Nat.le_refl _) bA.size HDL.out ct HCT2.out ?_;intro oa3 cap3 w3 o3 q1 q2 bB0)
     | (refine step_call rfl 112 _ _ rfl EGN.out #[.slice oa3 ct.length cap3] (by simp [Act.eval]) ?_;refine Calls.mono (HCA.out _ _ (o3.rd.of_heap (by rfl))) ?_;rintro e w4 ⟨u4,rfl,o4,b4⟩;have bC:Below w3.heap.size w3 w4:=Below.of_heap_eq b4 rfl rfl rfl rfl;refine ⟨_,rfl,?_⟩)
     | (refine step_call rfl 112 _ _ rfl EGN.out #[.slice o1 z.length cap1] (by simp [Act.eval]) ?_;refine Calls.mono (HCB.out _ _ (hfin.out ▸ ((((hown.out.below bA (Nat.le_refl _)).below bB0 (Nat.le_refl _)).below bC (Nat.le_trans bA.size bB0.size)).rd.of_heap (by rfl)))) ?_;rintro e w5 ⟨u5,rfl,o5,b5⟩;have bD:Below w4.heap.size w4 w5:=Below.of_heap_eq b5 rfl rfl rfl rfl;refine ⟨_,rfl,?_⟩))
    all_goals
     go_wp2_with fail
     go_ret2
     have s2:=bA.size
     have s3:=bB0.size
     have s4:=bC.size
     have s5:=bD.size
     exact ⟨_,_,w4.heap.size,rfl,⟨by omega,s5⟩,by rw [← HCT.out];exact (o4.below bD (Nat.le_refl _)).mono (by show w.heap.size ≤ w3.heap.size;omega) (Nat.le_refl _),o5,hbel.trans (((bA.trans bB0).trans (bC.mono (by omega)) |>.trans (bD.mono (by omega))).mono hsz1)⟩
end Go.Proofs.Ytofpjonggpjneaa
namespace Go.Proofs.Ytofpjonggpjneaa
open Go.RowKit
def graftL (u:List Int) (n:Nat) (v:List Int):List Int:=u.take (endOf u n) ++ (v.map (· + (u.getD n 0 + 1)) ++ u.drop (endOf u n))
end Go.Proofs.Ytofpjonggpjneaa
namespace Go.Proofs.Ytofpjonggpjneaa
open Go.RowKit
end Go.Proofs.Ytofpjonggpjneaa
namespace Go.Proofs.Ytofpjonggpjneaa
open Go.RowKit
theorem nearStep_bd {near:List (List Int)} {i:Nat} {k B:Int} (h:∀ x ∈ near,∀ y ∈ x,0 ≤ y∧y < B) (hi:(i:Int) < B) (hk:k < B):∀ x ∈ nearStep near i k,∀ y ∈ x,0 ≤ y∧y < B:=by
 intro x hx y hy
 have h0:∀ (near:List (List Int)) (j:Nat) (z:Int),(∀ x ∈ near,∀ y ∈ x,0 ≤ y∧y < B)→0 ≤ z→z < B→∀ x ∈ near.set j (near.getD j [] ++ [z]),∀ y ∈ x,0 ≤ y∧y < B:=by
  intro near j z h z0 z1 x hx y hy
  rcases List.mem_or_eq_of_mem_set hx with hx|rfl
  ·exact h x hx y hy
  ·rcases List.mem_append.1 hy with hy|hy
   ·by_cases hj:j < near.length
    ·simp only [List.getD_eq_getElem?_getD,List.getElem?_eq_getElem hj,Option.getD_some] at hy
     exact h _ (List.getElem_mem hj) y hy
    ·simp [List.getD_eq_getElem?_getD,List.getElem?_eq_none (Nat.le_of_not_lt hj)] at hy
   ·rw [List.mem_singleton] at hy;subst hy;exact ⟨z0,z1⟩
 unfold nearStep at hx
 split at hx
 ·exact h0 _ _ _ (h0 near i k h ‹_› hk) (by omega) hi x hx y hy
 ·exact h x hx y hy
theorem nearTo_bd (t:List Int):∀ i,i ≤ t.length→∀ x ∈ nearTo t i,∀ y ∈ x,0 ≤ y∧y < t.length
 | 0,_,x,hx,y,hy => by rw [nearTo,List.mem_replicate] at hx;rw [hx.2] at hy;cases hy
 | i + 1,hi,x,hx,y,hy => by
  have:=(parS_lt t (t.getD i 0 - 1) i).2
  exact nearStep_bd (nearTo_bd t i (by omega)) (by omega) (by show parAt t i < _;unfold parAt;omega) x hx y hy
def movedL (base:Nat) (k:Nat) (others:List Int) (nd:Int):List Int:=others.map (fun x => (base:Int) + x) ++ (if k = 0 then [nd] else [])
def addTo (base:Nat) (nvs:List (List Int)) (nd:Int):Nat→List (List Int)
 | 0 => []
 | k + 1 => addTo base nvs nd k ++ [movedL base k (nvs.getD k []) nd]
theorem addTo_len (base:Nat) (nvs:List (List Int)) (nd:Int):∀ k,(addTo base nvs nd k).length = k
 | 0 => rfl
 | k + 1 => by rw [addTo,List.length_append,addTo_len base nvs nd k];rfl
def graft1 (near:List (List Int)) (nd:Int) (v:List Int):List (List Int) :=
 (near ++ addTo near.length (nears v) nd v.length).set nd.toNat ((near ++ addTo near.length (nears v) nd v.length).getD nd.toNat [] ++ [(near.length:Int)])
theorem graft1_len (near:List (List Int)) (nd:Int) (v:List Int):(graft1 near nd v).length = near.length + v.length:=by
 unfold graft1
 rw [List.length_set,List.length_append,addTo_len]
def graftTo (u:List Int) (nodes:List Int) (list:List (List Int)):Nat→List (List Int)
 | 0 => nears u
 | i + 1 => graft1 (graftTo u nodes list i) (nodes.getD i 0) (list.getD i [])
theorem graftTo_len (u:List Int) (nodes:List Int) (list:List (List Int)):∀ i,i ≤ list.length→(graftTo u nodes list i).length = u.length + sumLen (list.take i)
 | 0,_ => by rw [graftTo];unfold nears;rw [nearTo_len];simp [sumLen]
 | i + 1,hi => by
  rw [graftTo,graft1_len,graftTo_len u nodes list i (by omega),sumLen_take_succ list i (by omega)]
  simp [show i < list.length by omega]
  omega
theorem getD_len {near:List (List Int)} {B:Nat} (h:∀ x ∈ near,x.length ≤ B) (i:Nat):(near.getD i []).length ≤ B:=by
 by_cases hi:i < near.length
 ·simp only [List.getD_eq_getElem?_getD,List.getElem?_eq_getElem hi,Option.getD_some];exact h _ (List.getElem_mem hi)
 ·simp [List.getD_eq_getElem?_getD,List.getElem?_eq_none (Nat.le_of_not_lt hi)]
theorem addTo_each {base:Nat} {nvs:List (List Int)} {nd:Int} {B:Nat} (h:∀ x ∈ nvs,x.length ≤ B):∀ k,∀ y ∈ addTo base nvs nd k,y.length ≤ B + 1
 | 0,y,hy => by cases hy
 | k + 1,y,hy => by
  rw [addTo] at hy
  rcases List.mem_append.1 hy with hy|hy
  ·exact addTo_each h k y hy
  ·rw [List.mem_singleton] at hy
   subst hy
   have:=getD_len h k
   generalize nvs.getD k [] = g at this ⊢
   unfold movedL
   rw [List.length_append,List.length_map]
   split
   ·rw [List.length_singleton];omega
   ·rw [List.length_nil];omega
theorem graft1_each {near:List (List Int)} {nd:Int} {v:List Int} {B:Nat} (h:∀ x ∈ near,x.length ≤ B) (hv:v.length ≤ 8) (hB:17 ≤ B):∀ y ∈ graft1 near nd v,y.length ≤ B + 1:=by
 have h1:∀ y ∈ near ++ addTo near.length (nears v) nd v.length,y.length ≤ B:=by
  intro y hy
  rcases List.mem_append.1 hy with hy|hy
  ·exact h y hy
  ·have:=addTo_each (B:=16) (fun x hx => by have:=nearTo_each v v.length x hx;omega) _ y hy
   omega
 intro y hy
 unfold graft1 at hy
 rcases List.mem_or_eq_of_mem_set hy with hy|rfl
 ·have:=h1 y hy;omega
 ·have:=getD_len h1 nd.toNat
  rw [List.length_append,List.length_singleton]
  omega
theorem graftTo_each {u:List Int} {nodes:List Int} {list:List (List Int)} (hu:u.length ≤ 8) (hl:∀ v ∈ list,v.length ≤ 8):∀ i,∀ y ∈ graftTo u nodes list i,y.length ≤ 17 + i
 | 0,y,hy => by have:=nearTo_each u u.length y hy;omega
 | i + 1,y,hy => by
  have:=graft1_each (graftTo_each hu hl i) (getD_len hl i) (by omega) y hy
  omega
def graftN (u:List Int) (nodes:List Int) (list:List (List Int)):List Int:=treeF 9 (graftTo u nodes list list.length) 0 (-1)
def graftOk (u:List Int) (nodes:List Int) (list:List (List Int)):Bool :=
 treeOk 9 (graftTo u nodes list list.length) 0 (-1) && Nat.ble (treeSm 9 (graftTo u nodes list list.length) 0 (-1)) 13
section
variable {α:Type} {R:Rep α}
theorem OwnF.snoc {w w':World} {v v':Value} {xs:List α} {x:α} {c:List Value} {ds:List Value} {og og':Option Nat} {F G:List Nat}
  (hel:ownL R w ds xs F) (hF:(og.toList ++ F).Nodup) (hlt:∀ b,b ∈ og.toList ++ F→b < w.heap.size) (hx:OwnF R G w c x) (hd:∀ b,b ∈ G→b ∉ og.toList ++ F)
  (h:Appended w w' v' R.k (xs.length + 1) (ds ++ c) og og') :
  OwnF (RS R) (og'.toList ++ (F ++ G)) w' [v'] (xs ++ [x])∧(∀ b,b ∈ og'.toList ++ (F ++ G)→b ∈ og.toList ++ F ∨ b ∈ G ∨ w.heap.size ≤ b)∧ChgF (og.toList ++ F) w w':=by
 obtain ⟨h1,h2,h3⟩:=h
 have hGl:=hx.lt
 have hFx:∀ b,b ∈ F ++ G→w'.heap[b]? = w.heap[b]?:=by
  intro b hb
  refine h2.block b ?_ ?_
  ·rcases List.mem_append.1 hb with hb|hb
   ·exact hlt b (by simp [hb])
   ·exact hGl b hb
  ·intro e
   rcases List.mem_append.1 hb with hb|hb
   ·exact (List.nodup_append.1 hF).2.2 b (by simp [← e]) b hb rfl
   ·exact hd b hb (by simp [← e])
 have hel':ownL R w' (ds ++ c) (xs ++ [x]) (F ++ G):=(hel.append (ownL.single hx.1)).frame hFx
 refine ⟨⟨⟨v',og',ds ++ c,F ++ G,rfl,by simpa using h1,hel',rfl⟩,?_⟩,?_,?_⟩
 ·have hFG:(F ++ G).Nodup:=List.nodup_append.2 ⟨(List.nodup_append.1 hF).2.1,hx.2,fun b hb b' hb' e => by subst e;exact hd b hb' (by simp [hb])⟩
  refine List.nodup_append.2 ⟨by cases og' <;> simp,hFG,fun b hb b' hb' e => ?_⟩
  subst e
  have hbo:og' = some b:=by simpa using hb
  rcases h3 with h3|⟨g,h3,hg⟩
  ·rcases List.mem_append.1 hb' with hb'|hb'
   ·exact (List.nodup_append.1 hF).2.2 b (by simp [← h3,hbo]) b hb' rfl
   ·exact hd b hb' (by simp [← h3,hbo])
  ·rw [hbo] at h3
   cases h3
   rcases List.mem_append.1 hb' with hb'|hb'
   ·have:=hlt b (by simp [hb']);omega
   ·have:=hGl b hb';omega
 ·intro b hb
  simp only [List.mem_append,Option.mem_toList] at hb
  rcases hb with hb|hb|hb
  ·rcases h3 with h3|⟨g,h3,hg⟩
   ·exact .inl (by simp [← h3,hb])
   ·rw [hb] at h3;cases h3;exact .inr (.inr hg)
  ·exact .inl (by simp [hb])
  ·exact .inr (.inl hb)
 ·exact (ChgF.of_grown h2).mono (fun b hb => by simp [Option.mem_toList.1 hb])
theorem wpList_snocF {P:Program} {w:World} {ops:Array Oper} {rest:List Oper} {o:Oper} {a:Act} {Q:Exit→Act→World→Prop} (hgd:o.guard = none) (s x:Operand) (t:TypeId)
  (ho:o.op = .call { callee:=.builtin .append,args:=#[s,x],argTypes:=#[t,t] })
  (e:TypeId) (z:Value) (k bytes:Nat) (T:ST P t e z k bytes) (hk:R.k = k)
  (v:Value) (xs:List α) (y:α) (c:List Value) (F G:List Nat) (hs:a.eval s = v) (hv:OwnF (RS R) F w [v] xs) (hy:OwnF R G w c y) (hd:∀ b,b ∈ G→b ∉ F) (E:TypeId)
  {H:Nat} (hx:a.eval x = .slice (some ⟨H,0,none⟩) 1 1) (hH:H = w.heap.size)
  (hbytes:(xs.length + 1) * bytes ≤ 140737488355328) (h63:xs.length + 1 ≤ 140737488355328)
  (h:∀ oa cap w' F',OwnF (RS R) F' w' [.slice oa (xs.length + 1) cap] (xs ++ [y])→xs.length + 1 ≤ cap→cap ≤ 9223372036854775807→(∀ b,b ∈ F'→b ∈ F ∨ b ∈ G ∨ w.heap.size ≤ b)→ChgF F w w'→wpList P ops Q rest (a.put o.dst (.slice oa (xs.length + 1) cap)) w') :
  wpList P ops Q (o :: rest) a (w.alloc (.cells c.toArray E)):=by
 subst hk
 have hlt:=hv.lt
 obtain ⟨⟨v',og,ds,F0,h1,hrow,hel,rfl⟩,hn⟩:=hv
 simp only [List.cons.injEq,and_true] at h1
 subst h1
 refine wpList_append1 (w:=w) hgd s x t ho e z R.k bytes T v xs.length ds og hs hrow E c hx hH (R.rd_len (R.own_rd hy.1)) (R.rd_one (R.own_rd hy.1)) hbytes (by unfold maxLen;omega) ?_
 intro v1 w1 og1 happ
 obtain ⟨k1,k2,k3⟩:=OwnF.snoc (v:=v) hel hn hlt hy hd happ
 obtain ⟨oa,cap,e1,q1,q2⟩:=(OwnF.rd k1).val
 subst e1
 rw [List.length_append,List.length_singleton] at *
 unfold maxLen at q2
 exact h oa cap w1 _ k1 q1 (by omega) k2 k3
theorem OwnF.setRow {w:World} {v:Value} {xs:List α} {F:List Nat} (h:OwnF (RS R) F w [v] xs) (hk:R.k = 1) (i:Nat) (hi:i < xs.length) :
  ∃ g cap a,v = .slice (some ⟨g,0,none⟩) xs.length cap∧xs.length ≤ cap∧cap ≤ 9223372036854775807∧g < w.heap.size∧g ∈ F∧w.cell? ⟨g,i,none⟩ = some a∧Rd R w [a] xs[i] ∧
   ∀ (w1:World) (y:α) (u:Value) (G:List Nat),Below w.heap.size w w1→OwnF R G w1 [u] y→(∀ b,b ∈ G→w.heap.size ≤ b) →
    w1.cell? ⟨g,i,none⟩ = some a∧w1.frozen? ⟨g,i,none⟩ = false∧∃ F',OwnF (RS R) F' (w1.setCell ⟨g,i,none⟩ u) [v] (xs.set i y)∧(∀ b,b ∈ F'→b ∈ F ∨ w.heap.size ≤ b)∧ChgF F w (w1.setCell ⟨g,i,none⟩ u):=by
 have hlt:=h.lt
 have hnd:=h.2
 obtain ⟨g,cap,d1,c,d2,F1,G0,F2,hv,hc1,hc2,rfl,hcl,hd1,hx,hrow,hK⟩:=h.lens i hi
 rw [hk] at hcl hd1
 rw [Nat.mul_one] at hd1
 match c,hcl with
 | [a],_ =>
 have hcell:w.cell? ⟨g,i,none⟩ = some a:=hrow.cells i a (by rw [List.getElem?_append_right (by omega),hd1];simp)
 have hgl:=hlt g (by simp)
 refine ⟨g,cap,a,hv,hc1,hc2,hgl,by simp,hcell,Rd.of (R.own_rd hx),?_⟩
 intro w1 y u G hbel hy hGl
 have hn1:=List.nodup_cons.1 hnd
 have hrow1:Row w1 v R.k xs.length (d1 ++ ([a] ++ d2)) (some g):=hrow.frame (fun g' hg' => by cases hg';exact hbel.block g hgl)
 obtain ⟨hst,hgr⟩:=hrow1.store i u
 have hset:(d1 ++ ([a] ++ d2)).set i u = d1 ++ ([u] ++ d2):=by
  rw [List.set_append_right _ _ (by omega),hd1,Nat.sub_self];rfl
 rw [hset] at hst
 have hsub:∀ b,b ∈ F1 ++ F2→b ≠ g:=fun b hm e => hn1.1 (by
  subst e
  rcases List.mem_append.1 hm with hm|hm
  ·simp [hm]
  ·simp [hm])
 have hfr:∀ b,b ∈ F1 ++ F2→(w1.setCell ⟨g,i,none⟩ u).heap[b]? = w.heap[b]?:=by
  intro b hm
  rw [heap_setCell_other w1 ⟨g,i,none⟩ b u (hsub b hm)]
  refine hbel.block b (hlt b ?_)
  rcases List.mem_append.1 hm with hm|hm
  ·simp [hm]
  ·simp [hm]
 have hy':R.own (w1.setCell ⟨g,i,none⟩ u) [u] y G:=R.own_frame hy.1 (fun b hb => heap_setCell_other w1 ⟨g,i,none⟩ b u (by have:=hGl b hb;show b ≠ g;omega))
 have hG:∀ b,b ∈ G→b ∉ g :: (F1 ++ F2):=fun b hb hm => by
  have h1:=hGl b hb
  have:b < w.heap.size:=by
   rcases List.mem_cons.1 hm with rfl|hm
   ·exact hgl
   ·rcases List.mem_append.1 hm with hm|hm
    ·exact hlt b (by simp [hm])
    ·exact hlt b (by simp [hm])
  omega
 have hnd':(g :: (F1 ++ (G ++ F2))).Nodup:=by
  have h2:=List.nodup_append.1 hn1.2
  have h3:=List.nodup_append.1 h2.2.1
  refine List.nodup_cons.2 ⟨?_,?_⟩
  ·intro hm
   simp only [List.mem_append] at hm
   rcases hm with hm|hm|hm
   ·exact hsub g (by simp [hm]) rfl
   ·exact hG g hm (by simp)
   ·exact hsub g (by simp [hm]) rfl
  ·refine List.nodup_append.2 ⟨h2.1,List.nodup_append.2 ⟨hy.2,h3.2.1,fun b hb b' hb' e => ?_⟩,fun b hb b' hb' e => ?_⟩
   ·subst e;exact hG b hb (by simp [hb'])
   ·subst e
    rcases List.mem_append.1 hb' with hb'|hb'
    ·exact hG b hb' (by simp [hb])
    ·exact h2.2.2 b hb b (by simp [hb']) rfl
 refine ⟨hrow1.cells i a (by rw [List.getElem?_append_right (by omega),hd1];simp),hrow1.frozen i,_,hK _ [u] y G (by rw [hk];rfl) hy' hfr hst hnd',?_,?_⟩
 ·intro b hb
  simp only [List.mem_cons,List.mem_append] at hb
  rcases hb with hb|hb|hb|hb
  ·exact .inl (by simp [hb])
  ·exact .inl (by simp [hb])
  ·exact .inr (hGl b hb)
  ·exact .inl (by simp [hb])
 ·refine (Below.chgF hbel).trans ((ChgF.of_grown hgr).mono (fun b hb => ?_))
  simp at hb
  simp [hb]
end
end Go.Proofs.Ytofpjonggpjneaa
namespace Go.Proofs.Ytofpjonggpjneaa
open Go.RowKit
def listsTo (n:Nat):List (List Int):=(List.range n).flatMap levels
theorem mem_listsTo {t:List Int} {n:Nat} (h:LevP t) (hn:t.length ≤ n):t ∈ listsTo n:=by
 have hp:=h.pos
 exact List.mem_flatMap.2 ⟨t.length - 1,List.mem_range.2 (by omega),mem_levels _ t h (by omega)⟩
theorem graft_check:trees8.all (fun u => (List.range u.length).all fun n => (listsTo (8 - u.length)).all fun v =>
  graftOk u [(n:Int)] [v] && (levQ (graftL u n v) && decide (graftN u [(n:Int)] [v] = canon (graftL u n v)))) = true:=by decide +kernel
theorem graft_ok {t:List Int} (h:lev8 t = true) {n:Nat} (hn:n < t.length) {v:List Int} (hv:LevP v) (h8:t.length + v.length ≤ 8) :
  graftOk (canon t) [(n:Int)] [v] = true∧lev8 (graftL (canon t) n v) = true∧graftN (canon t) [(n:Int)] [v] = canon (graftL (canon t) n v):=by
 have hl:=canon_len (lev8_lev h)
 have h1:=List.all_eq_true.1 (trees8_all graft_check h) n (List.mem_range.2 (by rw [hl];exact hn))
 have h2:=List.all_eq_true.1 h1 v (mem_listsTo hv (by rw [hl];omega))
 rw [Bool.and_eq_true,Bool.and_eq_true,decide_eq_true_eq] at h2
 exact ⟨h2.1,levQ_lev8 h2.2.1,h2.2.2⟩
end Go.Proofs.Ytofpjonggpjneaa
namespace Go.Proofs.Ytofpjonggpjneaa
def grs (u v:List Int):List (List Int):=(List.range u.length).map fun n => canon (graftL u n v)
def gsOk (u:List Int):Bool:=(listsTo (8 - u.length)).all fun v => ((List.range u.length).all fun n => levQ (graftL u n v)) && decide (cntOf (grs (canon u) v) = sumOf (grs u v))
theorem gs_check0:(levels 0).all gsOk = true:=by decide +kernel
theorem gs_check1:(levels 1).all gsOk = true:=by decide +kernel
theorem gs_check2:(levels 2).all gsOk = true:=by decide +kernel
theorem gs_check3:(levels 3).all gsOk = true:=by decide +kernel
theorem gs_check4:(levels 4).all gsOk = true:=by decide +kernel
theorem gs_check5:(levels 5).all gsOk = true:=by decide +kernel
theorem gs_check6:(levels 6).all gsOk = true:=by decide +kernel
theorem gs_ok {u v:List Int} (hu:lev8 u = true) (hv:lev8 v = true) (h:u.length + v.length ≤ 8):(∀ n,n < u.length→lev8 (graftL u n v) = true)∧cntOf (grs (canon u) v) = sumOf (grs u v):=by
 have hup:=(lev8_lev hu).pos
 have hvp:=(lev8_lev hv).pos
 have hk:gsOk u = true:=by
  have hc:∀ k,k < 7→(levels k).all gsOk = true:=fun k hk => by
   have h:k = 0 ∨ k = 1 ∨ k = 2 ∨ k = 3 ∨ k = 4 ∨ k = 5 ∨ k = 6:=by omega
   rcases h with rfl|rfl|rfl|rfl|rfl|rfl|rfl
   ·exact gs_check0
   ·exact gs_check1
   ·exact gs_check2
   ·exact gs_check3
   ·exact gs_check4
   ·exact gs_check5
   ·exact gs_check6
  exact List.all_eq_true.1 (hc (u.length - 1) (by omega)) u (mem_levels (u.length - 1) u (lev8_lev hu) (by omega))
 have h2:=List.all_eq_true.1 hk v (mem_listsTo (lev8_lev hv) (by omega))
 rw [Bool.and_eq_true,decide_eq_true_eq] at h2
 exact ⟨fun n hn => levQ_lev8 (List.all_eq_true.1 h2.1 n (List.mem_range.2 hn)),h2.2⟩
end Go.Proofs.Ytofpjonggpjneaa

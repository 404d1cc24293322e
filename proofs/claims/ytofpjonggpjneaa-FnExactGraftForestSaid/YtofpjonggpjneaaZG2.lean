/- Lemmas (2). -/
import Derived.Deep.RegionHeld3
import Derived.Deep.RegionLaw
import Derived.Lib.AppendZeros
import Derived.Lib.SliceRun
import Derived.Test.YtofpjonggpjneaaZG0
import Derived.Test.YtofpjonggpjneaaZG1
set_option linter.unusedSimpArgs false
set_option linter.unusedVariables false
namespace Go.Proofs.Ytofpjonggpjneaa
open Go.RowKit
def Small (bs:List (List Int)):Prop:=∀ b ∈ bs,∀ x ∈ b,0 ≤ x∧x ≤ 1000000000
theorem LevP.small {t:List Int} (h:LevP t) (hl:t.length ≤ 1000000000):∀ x ∈ t,0 ≤ x∧x ≤ 1000000000:=by
 intro x hx
 obtain ⟨i,hi,rfl⟩:=List.getElem_of_mem hx
 have:=h.bd i hi
 omega
theorem Small.of_lev {bs:List (List Int)} (h:∀ b ∈ bs,LevP b) (hl:sumLen bs ≤ 1000000000):Small bs:=fun b hb => (h b hb).small (Nat.le_trans (sumLen_mem hb) hl)
theorem sumLen_take (bs:List (List Int)) (k:Nat):sumLen (bs.take k) ≤ sumLen bs:=by
 have h:sumLen bs = sumLen (bs.take k) + sumLen (bs.drop k):=by rw [← sumLen_append,List.take_append_drop]
 omega
theorem rootOn_take_succ (bs:List (List Int)) (k:Nat) (h:k < bs.length):rootOn (bs.take (k + 1)) = rootOn (bs.take k) ++ bs[k].map (· + 1):=by
 rw [List.take_succ_eq_append_getElem h,rootOn_snoc]
theorem sumLen_take_get (bs:List (List Int)) (k:Nat) (h:k < bs.length):sumLen (bs.take k) + bs[k].length ≤ sumLen bs:=by
 have:=sumLen_take bs (k + 1)
 rw [List.take_succ_eq_append_getElem h,sumLen_append] at this
 simpa [sumLen] using this
theorem map_take_snoc (b:List Int) (m:Nat) (h:m < b.length):(b.take (m + 1)).map (· + 1) = (b.take m).map (· + 1) ++ [b[m] + 1]:=by
 rw [List.take_succ_eq_append_getElem h,List.map_append];rfl
theorem Own.lit1 {w:World} (e:TypeId) (lo:Nat) (x:Int) (hx:In64 x) (h:lo ≤ w.heap.size):Own (RS RI) lo (w.heap.size + 1) (w.alloc (.cells #[.int .i64 x] e)) [.slice (some ⟨w.heap.size,0,none⟩) 1 1] [x] :=
 Row.OwnIh (og:=some w.heap.size) (by simpa using Row.lit w #[.int .i64 x] e 1 1 (by decide) (by simp)) (by simpa using hx) (fun g hg => by cases hg;omega)
set_option maxRecDepth 100000 in
set_option maxHeartbeats 1000000 in
theorem c_impl_rootOn (v:Value) (bs:List (List Int)) (w:World) (h:Rd (RS (RS RI)) w [v] bs) (hs:Small bs) (hsz:sumLen bs ≤ 1000000000) :
  Calls Try.prog 129 #[v] w (RetO (RS RI) w (rootOn bs)):=by
 obtain ⟨oa,cap,L⟩:=h.lists
 obtain rfl:=L.val
 have m1:=L.le;have m2:=L.capLe
 have HS:=Lib.hid hs
 have HL:=Lib.hid L
 clear hs L h
 go_enter Try.func129,Try.ntmps129
 go_wp2_with fail
 go_loopw [3,11] (fun o i wr => ∃ (k:Nat) (r:List Int),k ≤ bs.length∧i = .int .i64 k∧Hid (r = rootOn (bs.take k))∧(∃ oa cap,o = .slice oa r.length cap)∧Hid (Own (RS RI) w.heap.size wr.heap.size wr [o] r)∧Below w.heap.size w wr) (fun _ i _ => bs.length - (intOf i).toNat)
 case atStart => exact ⟨0,[0],Nat.zero_le _,rfl,Lib.hid rfl,⟨_,_,rfl⟩,Lib.hid ((Own.lit1 (w:=w) 2 w.heap.size 0 (by unfold In64;omega) (Nat.le_refl _)).top _ (by simp)),(Below.refl _ _).alloc (Nat.le_refl _) _⟩
 case round =>
  obtain ⟨k,r,hk,rfl,hr,⟨o1,cap1,rfl⟩,hown,hbel⟩:=hrel
  have hsz1:=hbel.size
  obtain ⟨wo,hwo⟩:∃ wo:World,wo = wr:=⟨_,rfl⟩
  subst hwo
  by_cases hlt:k < bs.length
  ·obtain ⟨b,off,rfl,hb,hc⟩:=HL.out.get hlt
   obtain ⟨oi,ci,g1,hrd,q1,q2⟩:=hc k hlt
   have g2:wo.cell? ⟨b,off + k,none⟩ = some (.slice oi bs[k].length ci):=(hbel.cell (p:=⟨b,off + k,none⟩) hb).trans g1
   obtain ⟨x,hx⟩:∃ x,x = bs[k]:=⟨_,rfl⟩
   have hsm:∀ y ∈ x,0 ≤ y∧y ≤ 1000000000:=by rw [hx];exact HS.out _ (List.getElem_mem hlt)
   have hlen:=sumLen_take_get bs k hlt
   have hrl:=rootOn_len (bs.take k)
   have hnx:=rootOn_take_succ bs k hlt
   rw [← hx] at g2 hrd q1 hlen hnx
   obtain ⟨oa2,c2,I⟩:=hrd.ints
   rw [← hr.out] at hrl hnx
   have hval:=I.val
   simp only [Value.slice.injEq,true_and] at hval
   obtain ⟨rfl,rfl⟩:=hval
   have HI:=Lib.hid I
   have HN:=Lib.hid hnx
   have HX:=Lib.hid hx
   have hrb:r.length + x.length ≤ 1000000001:=by omega
   clear hc g1 hx hrd I hnx hrl hlen
   go_wp2_with fail
   go_loopw [3,17] (fun o i wr => ∃ (m:Nat) (z:List Int),m ≤ x.length∧i = .int .i64 m∧Hid (z = r ++ (x.take m).map (· + 1))∧(∃ oa cap,o = .slice oa z.length cap)∧Hid (Own (RS RI) w.heap.size wr.heap.size wr [o] z)∧Below w.heap.size w wr) (fun _ i _ => x.length - (intOf i).toNat)
   case atStart => exact ⟨0,r,Nat.zero_le _,rfl,Lib.hid (by simp),⟨o1,cap1,rfl⟩,hown,hbel⟩
   case round =>
    obtain ⟨m,z,hm,rfl,hz,⟨o2,cap2,rfl⟩,hown2,hbel2⟩:=hrel
    have hsz2:=hbel2.size
    by_cases hlt2:m < x.length
    ·obtain ⟨b2,off2,rfl,hb2,hc2⟩:=HI.out.get hlt2
     have g3:wr.cell? ⟨b2,off2 + m,none⟩ = some (.int .i64 x[m]):=(hbel2.cell (p:=⟨b2,off2 + m,none⟩) hb2).trans (hc2 m hlt2)
     have hy:=hsm x[m] (List.getElem_mem hlt2)
     obtain ⟨y1,y2⟩:=hy
     have hms:=map_take_snoc x m hlt2
     obtain ⟨y,hy⟩:∃ y,y = x[m]:=⟨_,rfl⟩
     rw [← hy] at g3 y1 y2 hms
     have hll:z.length ≤ 1000000002:=by rw [hz.out];simp;omega
     have hw1:IntKind.i64.wrap (y + 1) = y + 1:=IntWalk.i64_in _ (by omega)
     have HM:=Lib.hid hms
     clear hc2 hy hms hsm
     go_wp2_with (at_builtin;refine StopAt (o:=⟨some 25,_,_,_,_,_⟩) ?_)
     refine Stop.go ?_
     refine wpList_snoc (o:=⟨some 25,_,_,_,_,_⟩) (w:=wr) (R:=RI) rfl _ _ 24 rfl 2 (.int .i64 0) 1 8 tI64 rfl (.slice o2 z.length cap2) z (y + 1) [.int .i64 (y + 1)] w.heap.size wr.heap.size wr.heap.size rfl hown2.out (Own.int ⟨by omega,by omega⟩) (Nat.le_refl _) hsz2 2 rfl rfl (by omega) (by omega) ?_
     intro oa1 cap1 w1 hown1 c1a c1b hbel1
     have hb3:=hbel2.trans hbel1
     obtain ⟨z',hz'⟩:∃ z',z' = z ++ [y + 1]:=⟨_,rfl⟩
     have HZ:Hid (z' = r ++ (x.take (m + 1)).map (· + 1)):=Lib.hid (by rw [hz',hz.out,HM.out,List.append_assoc])
     have e1:z.length + 1 = z'.length:=by rw [hz'];simp
     rw [← hz',e1] at hown1
     have HO1:Hid (Own (RS RI) w.heap.size w1.heap.size w1 [.slice oa1 z'.length cap1] z'):=hown1
     rw [e1]
     clear hown1 hbel1 hown2 hown e1 hz'
     go_wp2_with fail
     go_roundw
     case rel => exact ⟨m + 1,z',by omega,by go_num,HZ,⟨_,_,rfl⟩,HO1,hb3⟩
     case measure => simp [intOf];omega
    ·have HZ:Hid (z = rootOn (bs.take (k + 1))):=Lib.hid (by rw [HN.out,hz.out,List.take_of_length_le (by omega)])
     go_wp2_with fail
     go_roundw
     case rel => exact ⟨k + 1,z,by omega,by go_num,HZ,⟨_,_,rfl⟩,hown2,hbel2⟩
     case measure => simp [intOf];omega
  ·have hfin:bs.take k = bs:=List.take_of_length_le (by omega)
   go_wp2_with fail
   go_ret
   exact ⟨_,rfl,by rw [← hfin,← hr.out];exact hown.out,hbel⟩
theorem map_take_drop_set {t:List (List Int)} (f:List Int→List Int) (k:Nat) (h:k < t.length):((t.take k).map f ++ t.drop k).set k (f t[k]) = (t.take (k + 1)).map f ++ t.drop (k + 1):=by
 rw [List.set_append_right _ _ (by simp;omega)]
 have e:k - ((t.take k).map f).length = 0:=by simp;omega
 rw [e,List.drop_eq_getElem_cons h,List.set_cons_zero,List.take_succ_eq_append_getElem h,List.map_append]
 simp
theorem brs_few {t:List Int} (h:LevP t):(brs t).length + 1 ≤ t.length:=by
 have h1:=sumLen_brs h
 have:∀ bs:List (List Int),(∀ b ∈ bs,LevP b)→bs.length ≤ sumLen bs:=by
  intro bs
  induction bs with
  | nil => intro _;simp [sumLen]
  | cons b bs ih =>
   intro hb
   have:=ih (fun c hc => hb c (by simp [hc]))
   have:=(hb b (by simp)).pos
   simp only [sumLen,List.map_cons,List.sum_cons,List.length_cons] at *
   omega
 have:=this (brs t) (brs_lev h)
 omega
set_option maxRecDepth 100000 in
set_option maxHeartbeats 1000000 in
theorem c_impl_canonical:∀ (n:Nat) (v:Value) (t:List Int) (w:World),Rd (RS RI) w [v] t→LevP t→t.length ≤ n→t.length ≤ 13 →
  Calls Try.prog 105 #[v] w (RetO (RS RI) w (canon t)):=by
 intro n
 induction n with
 | zero => intro v t w h hl hn h13;have:=hl.pos;omega
 | succ n ih =>
  intro v t w h hl hn h13
  have hb:=c_impl_branchesOf v t w h hl (by omega)
  have eg:=enters (P:=Try.prog) (f:=158) Try.func158 (by kernel_rfl) rfl
  have hask:CmpAsk Try.prog 158 cmpD (fun _ => True):=fun w h1 h2 x y r1 r2 _ _ => c_impl_canonical1 h1 h2 x y w r1 r2
  have EG:=Lib.hid eg
  have HA:=Lib.hid hask
  have HL:=Lib.hid hl
  have IH:=Lib.hid ih
  have hfew:=brs_few hl
  have hbl:(brs t).length ≤ 12:=by omega
  clear eg hask h hl ih
  go_enter Try.func105,Try.ntmps105
  go_wp2_with (go_at_call 127;refine hb.mono ?_;rintro e w1 ⟨u,rfl,o1,b1⟩;obtain ⟨oa,cap,rfl,l1,l2⟩:=o1.val)
  clear hb
  have hsz1:=b1.size
  have hO1:Hid (Own (RS (RS RI)) w.heap.size w1.heap.size w1 [.slice oa (brs t).length cap] (brs t)):=o1
  clear o1
  go_loopw [10] (fun i wr => ∃ k:Nat,k ≤ (brs t).length∧i = .int .i64 k∧Hid (Own (RS (RS RI)) w.heap.size wr.heap.size wr [.slice oa (brs t).length cap] (((brs t).take k).map canon ++ (brs t).drop k))∧Below w.heap.size w wr) (fun i _ => (brs t).length - (intOf i).toNat)
  case atStart => exact ⟨0,Nat.zero_le _,rfl,by simpa using hO1,b1⟩
  case round =>
   obtain ⟨k,hk,rfl,hown,hbel⟩:=hrel
   have hsz2:=hbel.size
   clear hO1
   by_cases hlt:k < (brs t).length
   ·obtain ⟨g,cap',a,hv,_,_,hg1,hg2,hg3,hcell,hel,hK⟩:=hown.out.setElem (R:=RS RI) rfl k (by simp;omega)
    have hxk:(((brs t).take k).map canon ++ (brs t).drop k)[k]'(by simp;omega) = (brs t)[k]:=by
     rw [List.getElem_append_right (by simp;omega)]
     simp [List.getElem_drop]
     congr 1;omega
    rw [hxk] at hel
    have hlk:((List.take k (brs t)).map canon ++ (brs t).drop k).length = (brs t).length:=by simp;omega
    rw [hlk] at hv
    simp only [Value.slice.injEq,true_and] at hv
    obtain ⟨rfl,rfl⟩:=hv
    obtain ⟨oi,ci,rfl,_⟩:=hel.val
    have hmem:=List.getElem_mem hlt
    have hshort:=brs_short HL.out _ hmem
    have hc:=IH.out (.slice oi (brs t)[k].length ci) (brs t)[k] wr hel.rd (brs_lev HL.out _ hmem) (by omega) (by omega)
    have hset:=map_take_drop_set canon k hlt
    have HSET:=Lib.hid hset
    have HK:=Lib.hid hK
    obtain ⟨x,hx⟩:∃ x,x = (brs t)[k]:=⟨_,rfl⟩
    rw [← hx] at hc hcell HSET hshort
    clear hK hset hxk hlk hel hx hmem
    go_wp2_with (go_at_call 105;refine hc.mono ?_;rintro e w2 ⟨u,rfl,o2,b2⟩;obtain ⟨ou,cu,rfl,lu1,lu2⟩:=o2.val;obtain ⟨f1,f2,f3,f4⟩:=HK.out w2 (canon x) (.slice ou (canon x).length cu) wr.heap.size w2.heap.size o2 (Nat.le_refl _) b2.size b2;have HF:=Lib.hid (show Own (RS (RS RI)) w.heap.size w2.heap.size (w2.setCell ⟨g,k,none⟩ (.slice ou (canon x).length cu)) [.slice (some ⟨g,0,none⟩) (brs t).length cap] (((brs t).take (k + 1)).map canon ++ (brs t).drop (k + 1)) by rw [← HSET.out];exact f3);have hb3:Below w.heap.size w w2:=hbel.trans (b2.mono hsz2);have hb4:=hb3.setCell (p:=⟨g,k,none⟩) hg1 (.slice ou (canon x).length cu);clear f3 f4 o2 hc)
    go_roundw
    case rel => exact ⟨k + 1,by omega,by go_num,Lib.hid (HF.out.top _ (by simp)),hb4⟩
    case measure => simp [intOf];omega
   ·have hfin:((brs t).take k).map canon ++ (brs t).drop k = (brs t).map canon:=by
     rw [List.take_of_length_le (by omega),List.drop_of_length_le (by omega),List.append_nil]
    rw [hfin] at hown
    have hml:((brs t).map canon).length = (brs t).length:=by simp
    have hs:=c_SortFunc 158 cmpD cmpD_cmp (fun _ => True) EG.out HA.out _ ((brs t).map canon) w.heap.size wr.heap.size wr hown.out (fun _ _ => trivial) (by omega)
    have hlev:∀ b ∈ sortC cmpD ((brs t).map canon),LevP b:=by
     intro b hb
     rw [sortC_mem,List.mem_map] at hb
     obtain ⟨c,hc,rfl⟩:=hb
     exact canon_lev (brs_lev HL.out c hc)
    have hsum:sumLen (sortC cmpD ((brs t).map canon)) ≤ 1000000000:=by
     have:=rootOn_len (sortC cmpD ((brs t).map canon))
     rw [← canon_eq HL.out,canon_len HL.out] at this
     omega
    have HV:=Lib.hid hlev
    have HCE:=Lib.hid (canon_eq HL.out)
    clear hlev hfin hown
    go_wp2_with (go_at_call 157;refine hs.mono ?_;rintro e w3 ⟨rfl,o3,ch3⟩)
    have hb3:Below w.heap.size w w3:=hbel.trans (ch3.below (Nat.le_refl _) hsz2)
    have hr:=c_impl_rootOn _ _ w3 o3.rd (Small.of_lev HV.out hsum) hsum
    have hsz3:=hb3.size
    clear hs o3 ch3
    go_wp2_with (go_at_call 129;refine hr.mono ?_;rintro e w4 ⟨u,rfl,o4,b4⟩)
    go_ret
    refine ⟨_,rfl,?_,hb3.trans (b4.mono hsz3)⟩
    rw [HCE.out]
    exact o4.mono hsz3 (Nat.le_refl _)
end Go.Proofs.Ytofpjonggpjneaa
namespace Go.Proofs.Ytofpjonggpjneaa
open Go.RowKit
set_option maxRecDepth 100000 in
set_option maxHeartbeats 1000000 in
theorem c_spec_l03Parts (v:Value) (t:List Int) (w:World) (h:Rd (RS RI) w [v] t) (hl:LevP t) (hsz:t.length ≤ 1000000000) :
  Calls Try.prog 123 #[v] w (RetO (RS (RS RI)) w (brs t)):=by
 obtain ⟨oa,c1,I1⟩:=h.ints
 obtain rfl:=I1.val
 have m1:=I1.le;have m2:=I1.capLe
 unfold maxLen at m2
 have hp:=hl.pos
 obtain ⟨b,off,rfl,hb,hc⟩:=I1.get hp
 go_enter Try.func123,Try.ntmps123
 go_wp2_with fail
 go_loopw [3,4] (fun o i wr => ∃ k:Nat,k + 1 ≤ t.length∧i = .int .i64 (k + 1)∧(∃ oa cap,o = .slice oa (brTo t k).length cap)∧Own (RS (RS RI)) w.heap.size wr.heap.size wr [o] (brTo t k)∧Below w.heap.size w wr) (fun _ i _ => t.length + 1 - (intOf i).toNat)
 case atStart => exact ⟨0,hp,rfl,⟨_,_,rfl⟩,Own.empty (R:=RS RI) (w:=w) 24 w.heap.size (Nat.le_refl _) |>.top _ (by simp),(Below.refl _ _).alloc (Nat.le_refl _) _⟩
 case round =>
  obtain ⟨k,hk,rfl,⟨oa,cap,rfl⟩,hown,hbel⟩:=hrel
  have hsz1:=hbel.size
  by_cases hlt:k + 1 < t.length
  ·have g1:wr.cell? ⟨b,off + (k + 1),none⟩ = some (.int .i64 t[k + 1]):=(hbel.cell (p:=⟨b,off + (k + 1),none⟩) hb).trans (hc (k + 1) hlt)
   have hbd:=hl.bd (k + 1) hlt
   obtain ⟨q1,q2⟩:=hbd
   have hs1:=hl.succ hlt
   obtain ⟨q3,q4⟩:=hs1
   have hnl:=brTo_len t k
   by_cases he:t[k + 1] = 1
   ·have heb:(t[k + 1] == 1) = true:=by simp [he]
    have hnext:brTo t (k + 1) = (brTo t k ++ [[]]).set (brTo t k).length (([]:List Int) ++ [t[k + 1] - 1]):=by
     rw [brTo_succ t k hlt,he,brStep_one];simp
    have Hn:=Lib.hid hnext
    clear hc he hnext
    have hownA:=hown.below (w':=wr.alloc (.cells #[] 2)) ((Below.refl wr.heap.size wr).alloc (Nat.le_refl _) _) (Nat.le_refl _)
    have hnew:=Own.empty (R:=RI) (w:=wr) 2 wr.heap.size (Nat.le_refl _)
    go_wp2_with (at_builtin;refine wpList_snoc (o:=⟨some 21,_,_,_,_,_⟩) (w:=wr.alloc (.cells #[] 2)) rfl _ _ 30 rfl 24 (.slice none 0 0) 1 24 tI64S rfl _ (brTo t k) [] [.slice (some ⟨wr.heap.size,0,none⟩) 0 0] w.heap.size wr.heap.size (wr.heap.size + 1) rfl hownA hnew (by simp) hsz1 24 rfl (by simp) (by omega) (by omega) ?_;intro oa1 cap1 w1 hown1 c1a c1b hbel1;refine Stop.out ?_)
    have hbel2:=hbel.trans ((((Below.refl w.heap.size wr).alloc hsz1 _).trans hbel1))
    have hsz2:=hbel2.size
    have g2:=(hbel2.cell (p:=⟨b,off + (k + 1),none⟩) hb).trans (I1.row.resolve_left (by intro e;rw [e] at hp;simp at hp) |> fun ⟨b',o',e,_,h⟩ => by cases e;exact h (k + 1) hlt)
    obtain ⟨g,cap2,h0,m,ds,og,hv,hg1,hg2,hcell,hr0,hm,hog,hK⟩:=Own.inner hown1 (brTo t k).length (by simp) ((brTo t k).length + 1) (by simp)
    simp only [Value.slice.injEq,true_and] at hv
    obtain ⟨rfl,rfl⟩:=hv
    have hm0:m = 0:=by rw [hm];simp
    subst hm0
    have HK:=Lib.hid hK
    have hi1:(0:Int) ≤ (k:Int) + 1:=by omega
    have hi2:(k:Int) + 1 < (t.length:Int):=by omega
    have hi3:(0:Int) ≤ ((brTo t k).length:Int):=by omega
    have hi4:((brTo t k).length:Int) < ((brTo t k).length:Int) + 1:=by omega
    have hi5:((k:Int) + 1).toNat = k + 1:=by omega
    clear hK hm g1 hbel1 hbel hownA hnew
    refine Stop.go ?_
    go_wp2_with fail
    have hwr:IntKind.i64.wrap (t[k + 1] - 1) = t[k + 1] - 1:=IntWalk.i64_in _ (by omega)
    go_region_law ((refine step_append1 (w:=w1) (by rfl) _ _ 24 (by rfl) 2 (.int .i64 0) 1 8 tI64 h0 0 ds og (by rfl) hr0 2 [.int .i64 (t[k + 1] - 1)] (by rfl) (by simp) (by rfl) (by simp [Value.oneCell']) (by omega) (by unfold maxLen;omega) ⟨rfl,rfl,rfl,rfl⟩ ?_;intro h' w2 og' happ;obtain ⟨f1,f2,f3,f4⟩:=HK.out (t[k + 1] - 1) [.int .i64 (t[k + 1] - 1)] w1.heap.size w1.heap.size h' w2 og' (Own.int ⟨by omega,by omega⟩) (Nat.le_refl _) happ;obtain ⟨oa',cap',rfl,_⟩:=happ.1.val))
    all_goals
     have f5:=hbel2.trans (f4 hsz2)
     clear f4 happ hwr
     simp only [List.getElem_append_right (Nat.le_refl _),Nat.sub_self,List.getElem_singleton] at f3
     rw [← Hn.out] at f3
     simp only [Nat.zero_add] at f1 f2 f3 f5
     go_wp2_with fail
     go_roundw
     case rel => exact ⟨k + 1,by omega,by go_num,⟨some ⟨g,0,none⟩,cap1,by rw [Hn.out];simp⟩,f3,f5⟩
     case measure => simp [intOf];omega
   ·have heb:(t[k + 1] == 1) = false:=by simp [he]
    have hk0:0 < k:=by
     rcases Nat.eq_zero_or_pos k with rfl|h
     ·have h0:=hl.zero hp
      simp only [Nat.zero_add] at q3 q4 he
      omega
     ·exact h
    have hpos:0 < (brTo t k).length:=by
     obtain ⟨k',rfl⟩:∃ k',k = k' + 1:=⟨k - 1,by omega⟩
     exact brTo_pos hl k' (by omega)
    have hnext:brTo t (k + 1) = (brTo t k).set ((brTo t k).length - 1) ((brTo t k)[(brTo t k).length - 1] ++ [t[k + 1] - 1]):=by
     rw [brTo_succ t k hlt,brStep_more _ _ he hpos]
    have Hn:=Lib.hid hnext
    have hidx:(brTo t k).length - 1 < (brTo t k).length:=by omega
    have hea:=brTo_each t k ((brTo t k).length - 1) hidx
    clear hc he hnext
    obtain ⟨g,cap2,h0,m,ds,og,hv,hg1,hg2,hcell,hr0,hm,hog,hK⟩:=Own.inner hown ((brTo t k).length - 1) hidx _ rfl
    obtain ⟨n,hn⟩:∃ n,(brTo t k).length = n + 1:=⟨(brTo t k).length - 1,by omega⟩
    simp only [Value.slice.injEq,true_and] at hv
    obtain ⟨rfl,rfl⟩:=hv
    have HK:=Lib.hid hK
    have Hnn:=Lib.hid hn
    have hml:m ≤ k:=by omega
    have en:(brTo t k).length - 1 = n:=by omega
    rw [en] at hcell
    rw [hn]
    have Hen:=Lib.hid en
    have hnb:n < 1000000000:=by omega
    have hi1:(0:Int) ≤ (k:Int) + 1:=by omega
    have hi2:(k:Int) + 1 < (t.length:Int):=by omega
    have hi3:(0:Int) ≤ (n:Int):=by omega
    have hi4:(n:Int) < (n:Int) + 1:=by omega
    have hi5:((k:Int) + 1).toNat = k + 1:=by omega
    clear hK hm hn en hea
    go_wp2_with fail
    have hwr:IntKind.i64.wrap (t[k + 1] - 1) = t[k + 1] - 1:=IntWalk.i64_in _ (by omega)
    go_region_law ((refine step_append1 (w:=wr) (by rfl) _ _ 24 (by rfl) 2 (.int .i64 0) 1 8 tI64 h0 m ds og (by rfl) hr0 2 [.int .i64 (t[k + 1] - 1)] (by rfl) (by simp) (by rfl) (by simp [Value.oneCell']) (by omega) (by unfold maxLen;omega) ⟨rfl,rfl,rfl,rfl⟩ ?_;intro h' w2 og' happ;obtain ⟨f1,f2,f3,f4⟩:=HK.out (t[k + 1] - 1) [.int .i64 (t[k + 1] - 1)] wr.heap.size wr.heap.size h' w2 og' (Own.int ⟨by omega,by omega⟩) (Nat.le_refl _) happ;obtain ⟨oa',cap',rfl,_⟩:=happ.1.val;rw [Hen.out] at f1 f2))
    all_goals
     have f5:=hbel.trans (f4 hsz1)
     clear f4 happ hwr
     rw [← Hn.out] at f3
     rw [Hen.out] at f3 f5
     go_wp2_with fail
     go_roundw
     case rel => exact ⟨k + 1,by omega,by go_num,⟨some ⟨g,0,none⟩,cap,by rw [Hn.out];simp [Hnn.out]⟩,by rw [← Hnn.out];exact f3,f5⟩
     case measure => simp [intOf];omega
  ·have hfin:brTo t k = brs t:=brTo_all t k (by omega)
   rw [hfin] at hown
   have Hfin:=Lib.hid hfin
   clear hfin
   go_wp2_with fail
   go_ret
   exact ⟨_,rfl,by rw [Hfin.out];exact hown,hbel⟩
end Go.Proofs.Ytofpjonggpjneaa
namespace Go.Proofs.Ytofpjonggpjneaa
open Go.RowKit
theorem sortC_take_succ {t:List (List Int)} (f:List Int→List Int) (k:Nat) (h:k < t.length):sortC cmpD ((t.take (k + 1)).map f) = ins cmpD (f t[k]) (sortC cmpD ((t.take k).map f)):=by
 rw [List.take_succ_eq_append_getElem h,List.map_append,List.map_cons,List.map_nil,sortC_snoc]
set_option maxRecDepth 100000 in
set_option maxHeartbeats 2000000 in
theorem c_spec_l03Canon:∀ (n:Nat) (v:Value) (t:List Int) (w:World),Rd (RS RI) w [v] t→LevP t→t.length ≤ n→t.length ≤ 1000000 →
  Calls Try.prog 112 #[v] w (RetO (RS RI) w (canon t)):=by
 intro n
 induction n with
 | zero => intro v t w h hl hn h13;have:=hl.pos;omega
 | succ n ih =>
  intro v t w h hl hn h13
  have hb:=c_spec_l03Parts v t w h hl (by omega)
  have HL:=Lib.hid hl
  have IH:=Lib.hid ih
  have hfew:=brs_few hl
  have hbl:(brs t).length ≤ 1000000:=by omega
  clear h hl ih
  go_enter Try.func112,Try.ntmps112
  go_wp2_with (go_at_call 123;refine hb.mono ?_;rintro e w1 ⟨u,rfl,o1,b1⟩;obtain ⟨oa,cap,rfl,l1,l2⟩:=o1.val)
  clear hb
  have hsz1:=b1.size
  have hO1:Hid (Own (RS (RS RI)) w.heap.size w1.heap.size w1 [.slice oa (brs t).length cap] (brs t)):=o1
  clear o1
  go_loopw [4,5] (fun o i wr => ∃ (k:Nat) (ys:List (List Int)),k ≤ (brs t).length∧i = .int .i64 k∧Hid (ys = sortC cmpD (((brs t).take k).map canon))∧Hid (ys.length = k)∧(∃ g cap,o = .slice (some ⟨g,0,none⟩) ys.length cap)∧Hid (Own (RS (RS RI)) w1.heap.size wr.heap.size wr [o] ys)∧Below w1.heap.size w1 wr) (fun _ i _ => (brs t).length - (intOf i).toNat)
  case atStart => exact ⟨0,[],Nat.zero_le _,rfl,Lib.hid (by simp [sortC]),Lib.hid rfl,⟨_,_,rfl⟩,Lib.hid ((Own.empty (R:=RS RI) (w:=w1) 24 w1.heap.size (Nat.le_refl _)).top _ (by simp)),(Below.refl _ _).alloc (Nat.le_refl _) _⟩
  case round =>
   obtain ⟨k,ys,hk,rfl,hys,Hyl,⟨g0,cap0,rfl⟩,hown,hbel⟩:=hrel
   have hsz2:=hbel.size
   obtain ⟨wo,hwo⟩:∃ wo:World,wo = wr:=⟨_,rfl⟩
   subst hwo
   by_cases hlt:k < (brs t).length
   ·have hO2:=hO1.out.below hbel (Nat.le_refl _)
    obtain ⟨g,cap',h0,hv,q1,q2,hg1,hg2,hcell,hel⟩:=hO2.elem k hlt
    simp only [Value.slice.injEq,true_and] at hv
    obtain ⟨rfl,rfl⟩:=hv
    obtain ⟨oi,ci,rfl,_⟩:=hel.val
    have hmem:=List.getElem_mem hlt
    have hshort:=brs_short HL.out _ hmem
    have hc:=IH.out (.slice oi (brs t)[k].length ci) (brs t)[k] wo hel.rd (brs_lev HL.out _ hmem) (by omega) (by omega)
    have hst:=sortC_take_succ canon k hlt
    rw [← hys.out] at hst
    have HST:=Lib.hid hst
    obtain ⟨x,hx⟩:∃ x,x = canon (brs t)[k]:=⟨_,rfl⟩
    rw [← hx] at hc HST
    obtain ⟨xl,hxl⟩:∃ xl,xl = (brs t)[k].length:=⟨_,rfl⟩
    rw [← hxl] at hc hcell hshort
    have HX:=Lib.hid hx
    clear hst hel hmem hO2 hxl hx
    go_wp2_with (go_at_call 112;refine hc.mono ?_;rintro e w2 ⟨u,rfl,o2,b2⟩;obtain ⟨ou,cu,rfl,lu1,lu2⟩:=o2.val)
    have hown2:=hown.out.below b2 (Nat.le_refl _)
    have HO2:=Lib.hid hown2
    have HP:=Lib.hid o2
    have hbel2:=hbel.trans (b2.mono hsz2)
    have hsz3:=b2.size
    clear hown2 o2 hc hcell hown b2
    go_loopw [7] (fun i wr => ∃ (j:Nat),j ≤ ys.length∧i = .int .i64 j∧Hid (∀ q (h:q < ys.length),q < j→¬ cmpD x ys[q] < 0)∧∃ n,wr = w2.drewN n) (fun i _ => ys.length - (intOf i).toNat)
    case atStart => exact ⟨0,Nat.zero_le _,rfl,Lib.hid (fun q _ h => by omega),0,rfl⟩
    case round =>
     obtain ⟨j,hj,rfl,hall,nd,rfl⟩:=hrel
     have HO3:Hid (Own (RS (RS RI)) w1.heap.size wo.heap.size (w2.drewN nd) [.slice (some ⟨g0,0,none⟩) ys.length cap0] ys):=HO2.out.of_heap rfl
     have HP3:Hid (Own (RS RI) wo.heap.size w2.heap.size (w2.drewN nd) [.slice ou x.length cu] x):=HP.out.of_heap rfl
     have hbel3:Below w1.heap.size w1 (w2.drewN nd):=hbel2.trans (Below.drewN _ _ _)
     have hsz4:w2.heap.size = (w2.drewN nd).heap.size:=rfl
     by_cases hjl:j < ys.length
     ·obtain ⟨g',cap',h0,hv,q1',q2',hg1',hg2',hcell,hel⟩:=HO3.out.elem j hjl
      simp only [Value.slice.injEq,true_and] at hv
      obtain ⟨e1,e2⟩:=hv
      simp only [Option.some.injEq,Addr.mk.injEq,and_true] at e1
      subst e1;subst e2
      obtain ⟨oj,cj,rfl,_⟩:=hel.val
      have hls:=c_spec_l01Less _ _ ys[j] x (w2.drewN nd) hel.rd HP3.out.rd
      obtain ⟨yl,hyl'⟩:∃ yl,yl = ys[j].length:=⟨_,rfl⟩
      rw [← hyl'] at hls hcell
      clear hel hyl'
      by_cases hle:cmpL ys[j] x < 0
      ·have hd:decide (cmpL ys[j] x < 0) = true:=decide_eq_true hle
       rw [hd] at hls
       have HE:Hid (ins cmpD x ys = ys.take j ++ x :: ys.drop j):=Lib.hid (ins_at hj hall.out (fun _ => hle))
       clear hd hle
       go_wp2_with (first|(go_at_call 165;refine hls.mono ?_;rintro e w' ⟨rfl,nn,rfl⟩)|(at_builtin;refine StopAt (o:=⟨some 46,_,_,_,_,_⟩) ?_))
       refine Stop.go ?_
       have HO4:Own (RS (RS RI)) w1.heap.size wo.heap.size (w2.drewN (nd + nn)) [.slice (some ⟨g0,0,none⟩) ys.length cap0] ys:=HO2.out.of_heap rfl
       have HP4:Own (RS RI) wo.heap.size w2.heap.size (w2.drewN (nd + nn)) [.slice ou x.length cu] x:=HP.out.of_heap rfl
       have hbel4:Below w1.heap.size w1 (w2.drewN (nd + nn)):=hbel2.trans (Below.drewN _ _ _)
       have hsz5:wo.heap.size ≤ (w2.drewN (nd + nn)).heap.size:=hsz3
       have hle4:=HO4.val
       obtain ⟨d1,d2,t1l,t2l,t1,t2,t3,hcl,hmk⟩:=HO4.insRow (R:=RS RI) rfl hsz5 hsz2 HP4 j hj
       rw [← HE.out,← HST.out] at hmk
       obtain ⟨_,_,ev,le4,_⟩:=hle4
       simp only [Value.slice.injEq,true_and] at ev
       obtain ⟨rfl,rfl⟩:=ev
       have hyb:ys.length ≤ 1000000:=by rw [Hyl.out];omega
       have T1L:=Lib.hid t1l
       have T2L:=Lib.hid t2l
       have ELN:1 + (ys.length - j) = 1 + d2.length:=by omega
       clear hls hcell HO3 HP3 hbel3 hsz4 t1l t2l
       refine wpList_appendS rfl _ _ 30 rfl 24 (.slice none 0 0) 1 24 tI64S (.slice (some ⟨(w2.drewN (nd + nn)).heap.size,0,none⟩) 1 1) 1 [(.slice ou x.length cu)] (some (w2.drewN (nd + nn)).heap.size) rfl (by simpa using Row.lit (w2.drewN (nd + nn)) #[(.slice ou x.length cu)] 24 1 1 (by decide) (by simp)) _ _ _ d2 rfl (by have:=T2L.out;omega) (by intro h;cases h) (by intro a ha i u hi;cases ha;rw [Addr.add_lit];exact (hcl ((w2.drewN (nd + nn)).alloc _) ((Below.refl _ _).alloc (Nat.le_refl _) _)).2 i u hi) t2 (by have:=T2L.out;omega) (by unfold maxLen;omega) ?_
       intro vA wA ogA happA
       rw [ELN] at happA
       obtain ⟨oA,capA,rfl,pA1,pA2⟩:=happA.1.val
       unfold maxLen at pA2
       have lowA:=happA.low (B:=(w2.drewN (nd + nn)).heap.size) (by simp) (fun g hg => by cases hg;exact Nat.le_refl _)
       have belA:Below (w2.drewN (nd + nn)).heap.size (w2.drewN (nd + nn)) wA:=((Below.refl _ _).alloc (Nat.le_refl _) _).trans lowA.2
       have sA:=belA.size
       have HA:=Lib.hid happA.1
       have HogA:=Lib.hid lowA.1
       have CA:=(hcl wA belA).1
       clear happA lowA ELN
       go_wp2_with (at_builtin;refine StopAt (o:=⟨some 51,_,_,_,_,_⟩) ?_)
       refine Stop.go ?_
       refine wpList_appendS rfl _ _ 30 rfl 24 (.slice none 0 0) 1 24 tI64S (.slice (some ⟨wA.heap.size,0,none⟩) 0 0) 0 [] (some wA.heap.size) rfl (by simpa using Row.lit wA #[] 24 1 0 (by decide) (by simp)) (some ⟨g0,0,none⟩) j _ d1 rfl (by have:=T1L.out;omega) (fun h => by cases h) (by intro a ha i u hi;cases ha;rw [Addr.add_lit,Nat.zero_add];have:=(hcl (wA.alloc (.cells #[] 24)) (belA.alloc sA _)).1 i u hi;exact this) t1 (by have:=T1L.out;omega) (by unfold maxLen;omega) ?_
       intro vB wB ogB happB
       rw [Nat.zero_add,List.nil_append] at happB
       obtain ⟨oB,capB,rfl,pB1,pB2⟩:=happB.1.val
       unfold maxLen at pB2
       have lowB:=happB.low (B:=(w2.drewN (nd + nn)).heap.size) (Nat.le_trans sA (by simp)) (fun g hg => by cases hg;exact sA)
       have lowB2:=happB.low (B:=wA.heap.size) (by simp) (fun g hg => by cases hg;exact Nat.le_refl _)
       have belB2:Below wA.heap.size wA wB:=((Below.refl _ _).alloc (Nat.le_refl _) _).trans lowB2.2
       have belB:Below (w2.drewN (nd + nn)).heap.size (w2.drewN (nd + nn)) wB:=belA.trans (belB2.mono sA)
       have sB:=belB.size
       have hrA:Row wB (.slice oA (1 + d2.length) capA) 1 (1 + d2.length) ([(.slice ou x.length cu)] ++ d2) ogA:=HA.out.frame (fun g hg => belB2.block g (HA.out.lt g hg))
       obtain ⟨gA,hgA⟩:=hrA.some_of (j:=0) (by omega)
       subst hgA
       obtain ⟨oA',cA',eA,_,_,_,eA2⟩:=hrA.value
       simp only [Value.slice.injEq,true_and] at eA
       obtain ⟨rfl,rfl⟩:=eA
       simp only [Option.map_some] at eA2
       subst eA2
       have HRA:=Lib.hid hrA
       have HB:=Lib.hid happB.1
       have HogB:=Lib.hid lowB.1
       clear hrA happB lowB lowB2 CA
       go_wp2_with (at_builtin;refine StopAt (o:=⟨some 53,_,_,_,_,_⟩) ?_)
       refine Stop.go ?_
       refine wpList_appendS rfl _ _ 30 rfl 24 (.slice none 0 0) 1 24 tI64S (.slice oB j capB) j d1 ogB rfl HB.out (some ⟨gA,0,none⟩) _ _ ([(.slice ou x.length cu)] ++ d2) rfl (by simp <;> omega) (fun h => by cases h) (by intro a ha i u hi;cases ha;rw [Addr.add_lit,Nat.zero_add];exact HRA.out.cells i u hi) (fun u hu => (List.mem_append.1 hu).elim (fun h => by simp at h;subst h;exact t3) (t2 u)) (by have:=T2L.out;omega) (by have:=T2L.out;unfold maxLen;omega) ?_
       intro vC wC ogC happC
       have lowC:=happC.low (B:=(w2.drewN (nd + nn)).heap.size) sB HogB.out
       have belC:Below (w2.drewN (nd + nn)).heap.size (w2.drewN (nd + nn)) wC:=belB.trans lowC.2
       have hrC:=happC.1
       have eN:j + (1 + d2.length) = ys.length + 1:=by have:=T1L.out;have:=T2L.out;omega
       rw [eN,List.singleton_append] at hrC
       have hfin:=hmk wC vC ogC belC hrC lowC.1
       obtain ⟨gC,hgC⟩:=hrC.some_of (j:=0) (by omega)
       subst hgC
       obtain ⟨capC,hvC,_,_⟩:=hrC.slice
       subst hvC
       have HFIN:=Lib.hid hfin
       clear hfin hrC happC lowC HA HB HRA HogA HogB eN
       have hfl:(sortC cmpD (((brs t).take (k + 1)).map canon)).length = ys.length + 1:=by rw [sortC_length];simp;rw [Hyl.out];omega
       obtain ⟨zs,hzs⟩:∃ zs,zs = sortC cmpD (((brs t).take (k + 1)).map canon):=⟨_,rfl⟩
       rw [← hzs] at HFIN hfl
       have hkz:zs.length = k + 1:=by rw [hfl,Hyl.out]
       rw [← hfl] at HFIN
       rw [← hfl]
       have HZ:=Lib.hid hzs
       have HKZ:=Lib.hid hkz
       clear hzs hfl hkz
       go_wp2_with fail
       go_roundw
       case rel => exact ⟨k + 1,zs,by omega,by go_num,HZ,HKZ,⟨_,_,rfl⟩,HFIN,hbel4.trans (belC.mono (by omega))⟩
       case measure => simp [intOf];omega
      ·have hd:decide (cmpL ys[j] x < 0) = false:=decide_eq_false hle
       rw [hd] at hls
       have HN:Hid (¬ cmpD x ys[j] < 0):=Lib.hid hle
       clear hd hle
       go_wp2_with (go_at_call 165;refine hls.mono ?_;rintro e w' ⟨rfl,nn,rfl⟩)
       go_roundw
       case rel =>
        refine ⟨j + 1,by omega,by go_num,Lib.hid (fun q h hq => ?_),(by first|exact drewN1 _ _|exact drewN2 _ _ _)⟩
        by_cases hqj:q = j
        ·subst hqj;have:=HN.out;omega
        ·have:=hall.out q h (by omega);omega
       case measure => simp [intOf];omega
     ·obtain rfl:j = ys.length:=by omega
      have HE:Hid (ins cmpD x ys = ys.take ys.length ++ x :: ys.drop ys.length):=Lib.hid (ins_at hj hall.out (fun h => by omega))
      go_wp2_with (at_builtin;refine StopAt (o:=⟨some 46,_,_,_,_,_⟩) ?_)
      all_goals
       refine Stop.go ?_
       have HO4:Own (RS (RS RI)) w1.heap.size wo.heap.size (w2.drewN nd) [.slice (some ⟨g0,0,none⟩) ys.length cap0] ys:=HO2.out.of_heap rfl
       have HP4:Own (RS RI) wo.heap.size w2.heap.size (w2.drewN nd) [.slice ou x.length cu] x:=HP.out.of_heap rfl
       have hbel4:Below w1.heap.size w1 (w2.drewN nd):=hbel2.trans (Below.drewN _ _ _)
       have hsz5:wo.heap.size ≤ (w2.drewN nd).heap.size:=hsz3
       have hle4:=HO4.val
       obtain ⟨d1,d2,t1l,t2l,t1,t2,t3,hcl,hmk⟩:=HO4.insRow (R:=RS RI) rfl hsz5 hsz2 HP4 ys.length hj
       rw [← HE.out,← HST.out] at hmk
       obtain ⟨_,_,ev,le4,_⟩:=hle4
       simp only [Value.slice.injEq,true_and] at ev
       obtain ⟨rfl,rfl⟩:=ev
       have hyb:ys.length ≤ 1000000:=by rw [Hyl.out];omega
       have T1L:=Lib.hid t1l
       have T2L:=Lib.hid t2l
       have hd2:d2 = []:=List.eq_nil_of_length_eq_zero (by omega)
       subst hd2
       clear HO3 HP3 hbel3 hsz4 t1l t2l
       refine wpList_appendS rfl _ _ 30 rfl 24 (.slice none 0 0) 1 24 tI64S (.slice (some ⟨(w2.drewN nd).heap.size,0,none⟩) 1 1) 1 [(.slice ou x.length cu)] (some (w2.drewN nd).heap.size) rfl (by simpa using Row.lit (w2.drewN nd) #[(.slice ou x.length cu)] 24 1 1 (by decide) (by simp)) _ _ _ ([]:List Value) rfl (by simp) (fun _ => rfl) (by intro a ha i u hi;simp at hi) t2 (by have:=T2L.out;omega) (by unfold maxLen;omega) ?_
       intro vA wA ogA happA
       rw [show 1 + (0:Nat) = 1 + ([]:List Value).length by rfl] at happA
       obtain ⟨oA,capA,rfl,pA1,pA2⟩:=happA.1.val
       unfold maxLen at pA2
       have lowA:=happA.low (B:=(w2.drewN nd).heap.size) (by simp) (fun g hg => by cases hg;exact Nat.le_refl _)
       have belA:Below (w2.drewN nd).heap.size (w2.drewN nd) wA:=((Below.refl _ _).alloc (Nat.le_refl _) _).trans lowA.2
       have sA:=belA.size
       have HA:=Lib.hid happA.1
       have HogA:=Lib.hid lowA.1
       have CA:=(hcl wA belA).1
       clear happA lowA
       go_wp2_with (at_builtin;refine StopAt (o:=⟨some 51,_,_,_,_,_⟩) ?_)
       refine Stop.go ?_
       refine wpList_appendS rfl _ _ 30 rfl 24 (.slice none 0 0) 1 24 tI64S (.slice (some ⟨wA.heap.size,0,none⟩) 0 0) 0 [] (some wA.heap.size) rfl (by simpa using Row.lit wA #[] 24 1 0 (by decide) (by simp)) (some ⟨g0,0,none⟩) ys.length _ d1 rfl (by have:=T1L.out;omega) (fun h => by cases h) (by intro a ha i u hi;cases ha;rw [Addr.add_lit,Nat.zero_add];have:=(hcl (wA.alloc (.cells #[] 24)) (belA.alloc sA _)).1 i u hi;exact this) t1 (by have:=T1L.out;omega) (by unfold maxLen;omega) ?_
       intro vB wB ogB happB
       rw [Nat.zero_add,List.nil_append] at happB
       obtain ⟨oB,capB,rfl,pB1,pB2⟩:=happB.1.val
       unfold maxLen at pB2
       have lowB:=happB.low (B:=(w2.drewN nd).heap.size) (Nat.le_trans sA (by simp)) (fun g hg => by cases hg;exact sA)
       have lowB2:=happB.low (B:=wA.heap.size) (by simp) (fun g hg => by cases hg;exact Nat.le_refl _)
       have belB2:Below wA.heap.size wA wB:=((Below.refl _ _).alloc (Nat.le_refl _) _).trans lowB2.2
       have belB:Below (w2.drewN nd).heap.size (w2.drewN nd) wB:=belA.trans (belB2.mono sA)
       have sB:=belB.size
       have hrA:Row wB (.slice oA (1 + ([]:List Value).length) capA) 1 (1 + ([]:List Value).length) ([(.slice ou x.length cu)] ++ ([]:List Value)) ogA:=HA.out.frame (fun g hg => belB2.block g (HA.out.lt g hg))
       obtain ⟨gA,hgA⟩:=hrA.some_of (j:=0) (by omega)
       subst hgA
       obtain ⟨oA',cA',eA,_,_,_,eA2⟩:=hrA.value
       simp only [Value.slice.injEq,true_and] at eA
       obtain ⟨rfl,rfl⟩:=eA
       simp only [Option.map_some] at eA2
       subst eA2
       have HRA:=Lib.hid hrA
       have HB:=Lib.hid happB.1
       have HogB:=Lib.hid lowB.1
       clear hrA happB lowB lowB2 CA
       go_wp2_with (at_builtin;refine StopAt (o:=⟨some 53,_,_,_,_,_⟩) ?_)
       refine Stop.go ?_
       refine wpList_appendS rfl _ _ 30 rfl 24 (.slice none 0 0) 1 24 tI64S (.slice oB ys.length capB) ys.length d1 ogB rfl HB.out (some ⟨gA,0,none⟩) _ _ ([(.slice ou x.length cu)] ++ ([]:List Value)) rfl (by simp <;> omega) (fun h => by cases h) (by intro a ha i u hi;cases ha;rw [Addr.add_lit,Nat.zero_add];exact HRA.out.cells i u hi) (fun u hu => (List.mem_append.1 hu).elim (fun h => by simp at h;subst h;exact t3) (t2 u)) (by have:=T2L.out;omega) (by have:=T2L.out;unfold maxLen;omega) ?_
       intro vC wC ogC happC
       have lowC:=happC.low (B:=(w2.drewN nd).heap.size) sB HogB.out
       have belC:Below (w2.drewN nd).heap.size (w2.drewN nd) wC:=belB.trans lowC.2
       have hrC:=happC.1
       have eN:ys.length + (1) = ys.length + 1:=by have:=T1L.out;have:=T2L.out;omega
       rw [eN,List.singleton_append] at hrC
       have hfin:=hmk wC vC ogC belC hrC lowC.1
       obtain ⟨gC,hgC⟩:=hrC.some_of (j:=0) (by omega)
       subst hgC
       obtain ⟨capC,hvC,_,_⟩:=hrC.slice
       subst hvC
       have HFIN:=Lib.hid hfin
       clear hfin hrC happC lowC HA HB HRA HogA HogB eN
       have hfl:(sortC cmpD (((brs t).take (k + 1)).map canon)).length = ys.length + 1:=by rw [sortC_length];simp;rw [Hyl.out];omega
       obtain ⟨zs,hzs⟩:∃ zs,zs = sortC cmpD (((brs t).take (k + 1)).map canon):=⟨_,rfl⟩
       rw [← hzs] at HFIN hfl
       have hkz:zs.length = k + 1:=by rw [hfl,Hyl.out]
       rw [← hfl] at HFIN
       rw [← hfl]
       have HZ:=Lib.hid hzs
       have HKZ:=Lib.hid hkz
       clear hzs hfl hkz
       go_wp2_with fail
       go_roundw
       case rel => exact ⟨k + 1,zs,by omega,by go_num,HZ,HKZ,⟨_,_,rfl⟩,HFIN,hbel4.trans (belC.mono (by omega))⟩
       case measure => simp [intOf];omega
   ·have hfin:(brs t).take k = brs t:=List.take_of_length_le (by omega)
    have hyc:rootOn ys = canon t:=by rw [canon_eq HL.out,hys.out,hfin]
    have hylev:∀ b ∈ ys,LevP b:=by
     intro b hb
     rw [hys.out,sortC_mem,List.mem_map] at hb
     obtain ⟨c,hc,rfl⟩:=hb
     exact canon_lev (brs_lev HL.out c (List.mem_of_mem_take hc))
    have hsum:sumLen ys ≤ 1000000:=by
     have:=rootOn_len ys
     rw [hyc,canon_len HL.out] at this
     omega
    have hyb:ys.length ≤ 1000000:=by rw [Hyl.out];omega
    have HYC:=Lib.hid hyc
    have HS:Hid (Small ys):=Lib.hid (Small.of_lev hylev (by omega))
    obtain ⟨oa9,cap9,L⟩:=hown.out.rd.lists
    have hval:=L.val
    simp only [Value.slice.injEq,true_and] at hval
    obtain ⟨rfl,rfl⟩:=hval
    have HLs:=Lib.hid L
    have hkb:¬ ((k:Int) < ((brs t).length:Int)):=by omega
    clear hfin hyc hylev L hown hlt
    go_wp2_with fail
    go_loopw [9,10] (fun o i wr => ∃ (q:Nat) (r:List Int),q ≤ ys.length∧i = .int .i64 q∧Hid (r = rootOn (ys.take q))∧(∃ oa cap,o = .slice oa r.length cap)∧Hid (Own (RS RI) wo.heap.size wr.heap.size wr [o] r)∧Below wo.heap.size wo wr) (fun _ i _ => ys.length - (intOf i).toNat)
    case atStart => exact ⟨0,[0],Nat.zero_le _,rfl,Lib.hid rfl,⟨_,_,rfl⟩,Lib.hid ((Own.lit1 (w:=wo) 2 wo.heap.size 0 (by unfold In64;omega) (Nat.le_refl _)).top _ (by simp)),(Below.refl _ _).alloc (Nat.le_refl _) _⟩
    case round =>
     obtain ⟨q,r,hq,rfl,hr,⟨o1,cap1,rfl⟩,hown,hbelq⟩:=hrel
     have hszq:=hbelq.size
     by_cases hlt:q < ys.length
     ·obtain ⟨b,off,e9,hb,hc⟩:=HLs.out.get hlt
      simp only [Option.some.injEq,Addr.mk.injEq,and_true] at e9
      obtain ⟨rfl,rfl⟩:=e9
      obtain ⟨oi,ci,g1,hrd,q1,q2⟩:=hc q hlt
      have g1':wo.cell? ⟨g0,q,none⟩ = some (.slice oi ys[q].length ci):=by rw [← g1,Nat.zero_add]
      obtain ⟨x,hx⟩:∃ x,x = ys[q]:=⟨_,rfl⟩
      have hsm:∀ y ∈ x,0 ≤ y∧y ≤ 1000000000:=by rw [hx];exact HS.out _ (List.getElem_mem hlt)
      have hlen:=sumLen_take_get ys q hlt
      have hrl:=rootOn_len (ys.take q)
      have hnx:=rootOn_take_succ ys q hlt
      rw [← hx] at g1' hrd q1 hlen hnx
      obtain ⟨oa2,c2,I⟩:=hrd.ints
      rw [← hr.out] at hrl hnx
      have hval:=I.val
      simp only [Value.slice.injEq,true_and] at hval
      obtain ⟨rfl,rfl⟩:=hval
      have HI:=Lib.hid I
      have HN:=Lib.hid hnx
      have hrb:r.length + x.length ≤ 1000000001:=by omega
      clear hc g1 hx hrd I hnx hrl hlen
      go_wp2_with fail
      go_loopw [9,11] (fun o i wr => ∃ (m:Nat) (z:List Int),m ≤ x.length∧i = .int .i64 m∧Hid (z = r ++ (x.take m).map (· + 1))∧(∃ oa cap,o = .slice oa z.length cap)∧Hid (Own (RS RI) wo.heap.size wr.heap.size wr [o] z)∧Below wo.heap.size wo wr) (fun _ i _ => x.length - (intOf i).toNat)
      case atStart => exact ⟨0,r,Nat.zero_le _,rfl,Lib.hid (by simp),⟨o1,cap1,rfl⟩,hown,hbelq⟩
      case round =>
       obtain ⟨m,z,hm,rfl,hz,⟨o2,cap2,rfl⟩,hown2,hbel2⟩:=hrel
       have hsz2':=hbel2.size
       have g2:wr.cell? ⟨g0,q,none⟩ = some (.slice oi x.length ci):=(hbel2.cell (p:=⟨g0,q,none⟩) hb).trans g1'
       by_cases hlt2:m < x.length
       ·obtain ⟨b2,off2,rfl,hb2,hc2⟩:=HI.out.get hlt2
        have g3:wr.cell? ⟨b2,off2 + m,none⟩ = some (.int .i64 x[m]):=(hbel2.cell (p:=⟨b2,off2 + m,none⟩) hb2).trans (hc2 m hlt2)
        have hy:=hsm x[m] (List.getElem_mem hlt2)
        obtain ⟨y1,y2⟩:=hy
        have hms:=map_take_snoc x m hlt2
        obtain ⟨y,hy⟩:∃ y,y = x[m]:=⟨_,rfl⟩
        rw [← hy] at g3 y1 y2 hms
        have hll:z.length ≤ 1000000002:=by rw [hz.out];simp;omega
        have hw1:IntKind.i64.wrap (y + 1) = y + 1:=IntWalk.i64_in _ (by omega)
        have HM:=Lib.hid hms
        clear hc2 hy hms hsm
        go_wp2_with (at_builtin;refine StopAt (o:=⟨some 80,_,_,_,_,_⟩) ?_)
        refine Stop.go ?_
        refine wpList_snoc (w:=wr) (R:=RI) rfl _ _ 24 rfl 2 (.int .i64 0) 1 8 tI64 rfl (.slice o2 z.length cap2) z (y + 1) [.int .i64 (y + 1)] wo.heap.size wr.heap.size wr.heap.size rfl hown2.out (Own.int ⟨by omega,by omega⟩) (Nat.le_refl _) hsz2' 2 rfl rfl (by omega) (by omega) ?_
        intro oa1 cap1 w1' hown1 c1a c1b hbel1
        have hb3:=hbel2.trans hbel1
        obtain ⟨z',hz'⟩:∃ z',z' = z ++ [y + 1]:=⟨_,rfl⟩
        have HZ:Hid (z' = r ++ (x.take (m + 1)).map (· + 1)):=Lib.hid (by rw [hz',hz.out,HM.out,List.append_assoc])
        have e1:z.length + 1 = z'.length:=by rw [hz'];simp
        rw [← hz',e1] at hown1
        have HO1':Hid (Own (RS RI) wo.heap.size w1'.heap.size w1' [.slice oa1 z'.length cap1] z'):=hown1
        rw [e1]
        clear hown1 hbel1 hown2 hown e1 hz'
        go_wp2_with fail
        go_roundw
        case rel => exact ⟨m + 1,z',by omega,by go_num,HZ,⟨_,_,rfl⟩,HO1',hb3⟩
        case measure => simp [intOf];omega
       ·have HZ:Hid (z = rootOn (ys.take (q + 1))):=Lib.hid (by rw [HN.out,hz.out,List.take_of_length_le (by omega)])
        go_wp2_with fail
        go_roundw
        case rel => exact ⟨q + 1,z,by omega,by go_num,HZ,⟨_,_,rfl⟩,hown2,hbel2⟩
        case measure => simp [intOf];omega
     ·have hfin:ys.take q = ys:=List.take_of_length_le (by omega)
      have HF:Hid (r = canon t):=Lib.hid (by rw [hr.out,hfin,HYC.out])
      clear hfin
      go_wp2_with fail
      go_ret
      exact ⟨_,rfl,by rw [← HF.out];exact hown.out.mono (Nat.le_trans hsz1 hsz2) (Nat.le_refl _),b1.trans ((hbel.trans (hbelq.mono hsz2)).mono hsz1)⟩
end Go.Proofs.Ytofpjonggpjneaa
namespace Go.Proofs.Ytofpjonggpjneaa
open Go.RowKit
section
variable {P:Program} {w:World}
theorem step_call {ops:Array Oper} {o:Oper} {a:Act} {K:Act→World→Prop} {Q:Exit→Act→World→Prop} {E:Prop} (hgd:o.guard = none) (f:FuncId) (args:Array Operand) (ts:Array TypeId)
  (ho:o.op = .call { callee:=.value (.func f),args:=args,argTypes:=ts }) (eg:∀ args w,(callFunc f args).run P w = .ok (.enter f args) w) (vs:Array Value) (hv:args.map a.eval = vs)
  (h:Calls P f vs w fun e w' => ∃ v,e = .returned v∧K (a.put o.dst v) w'):if Region.wanted o (yielded ops a.tmps) = true then Oper.wp P o a w K Q else E:=by
 have hw:Region.wanted o (yielded ops a.tmps) = true:=by simp [Region.wanted,hgd]
 rw [if_pos hw]
 subst hv
 unfold Oper.wp
 have hrun:(execOp a.eval o).run P w = .ok (.enter f (args.map a.eval)) w:=by
  simp [execOp,ho,resolve,invoke,Act.eval,Deferred.ofValue,eg]
 rw [hrun,Oper.upon_enter]
 refine h.mono ?_
 rintro e w' ⟨v,rfl,hk⟩
 exact hk
end
end Go.Proofs.Ytofpjonggpjneaa
namespace Go.Proofs.Ytofpjonggpjneaa
open Go.RowKit
def forest (list:List (List Int)):List (List Int):=sortC cmpT list
set_option maxRecDepth 100000 in
set_option maxHeartbeats 400000 in
theorem c_slicesClone (v:Value) (xs:List Int) (w:World) (h:Rd (RS RI) w [v] xs) (hsz:xs.length ≤ 1000000000) :
  Calls Try.prog 155 #[v] w (RetO (RS RI) w xs):=by
 obtain ⟨oa,c1,I1⟩:=h.ints
 obtain rfl:=I1.val
 have m1:=I1.le;have m2:=I1.capLe
 unfold maxLen at m2
 have q22:∀ (w:World) (a:Option Addr) (n c n' c':Nat),(binOp .eql 24 (.slice a n c) (.slice none n' c')).run Try.prog w = .ok (.bool a.isNone) w:=fun w a n c n' c' => Lib.run_eql_slice_nil w _ _ a n c n' c' tI64.ht
 cases oa with
 | none =>
  have hc:=I1.noneCap rfl
  have hx:xs = []:=List.eq_nil_of_length_eq_zero (by omega)
  subst hx;subst hc
  clear h I1
  go_enter Try.func155,Try.ntmps155
  go_wp2_with fail
  go_ret
  exact ⟨_,rfl,Own.nil _ _,Below.refl _ _⟩
 | some ad =>
 have I2:Ints (w.alloc (.cells #[] 2)) (.slice (some ad) xs.length c1) xs (some ad) c1:=by
  refine ⟨rfl,m1,I1.capLe,I1.noneCap,I1.bd,?_⟩
  rcases I1.row with h|⟨b,off,e,hb,hc⟩
  ·exact .inl h
  ·refine .inr ⟨b,off,e,by simp;omega,fun j hj => ?_⟩
   rw [World.cell?_alloc_lt _ _ _ hb];exact hc j hj
 have hrow:=Row.lit w #[] 2 1 0 (by decide) (by simp)
 have HI:=Lib.hid I2
 have HR:=Lib.hid hrow
 clear I2 hrow
 go_enter Try.func155,Try.ntmps155
 go_wp2_with (at_builtin;refine StopAt (o:=⟨some 7,_,_,_,_,_⟩) ?_)
 refine Stop.go ?_
 refine wpList_appendS rfl _ _ 24 rfl 2 (.int .i64 0) 1 8 tI64 (.slice (some ⟨w.heap.size,0,none⟩) 0 0) 0 [] (some w.heap.size) rfl (by simpa using HR.out) (some ad) xs.length c1 (xs.map (Value.int .i64)) rfl (by simp) (fun h => by cases h) (Row.cells_ints HI.out) (by intro u hu;obtain ⟨x,_,rfl⟩:=List.mem_map.1 hu;rfl) (by omega) (by unfold maxLen;omega) ?_
 intro v' w' og' happ
 rw [Nat.zero_add,List.nil_append] at happ
 have hlow:=happ.low (B:=w.heap.size) (by simp) (fun g hg => by cases hg;exact Nat.le_refl _)
 have hbel:Below w.heap.size w w':=((Below.refl w.heap.size w).alloc (Nat.le_refl _) (.cells #[] 2)).trans hlow.2
 have hown:Own (RS RI) w.heap.size w'.heap.size w' [v'] xs:=Row.OwnI (by simpa using happ.1) I1.bd hlow.1
 have HO:=Lib.hid hown
 obtain ⟨oa',cap',rfl,_⟩:=hown.val
 clear hown happ hlow
 go_wp2_with fail
 go_ret
 exact ⟨_,rfl,HO.out,hbel⟩
theorem take_snoc (xs:List (List Int)) (k:Nat) (h:k < xs.length):xs.take (k + 1) = xs.take k ++ [xs[k]]:=List.take_succ_eq_append_getElem h
set_option maxRecDepth 100000 in
set_option maxHeartbeats 1000000 in
theorem c_impl_cloneRows (v:Value) (bs:List (List Int)) (w:World) (h:Rd (RS (RS RI)) w [v] bs) (hsz:bs.length ≤ 1000000000) (hsl:∀ b ∈ bs,b.length ≤ 1000000000) :
  Calls Try.prog 172 #[v] w (RetO (RS (RS RI)) w bs):=by
 obtain ⟨oa,cap,L⟩:=h.lists
 obtain rfl:=L.val
 have m1:=L.le;have m2:=L.capLe
 have HL:=Lib.hid L
 have HS:=Lib.hid hsl
 clear L h hsl
 go_enter Try.func172,Try.ntmps172
 go_wp2_with fail
 go_loopw [3,9] (fun o i wr => ∃ (k:Nat) (r:List (List Int)),k ≤ bs.length∧i = .int .i64 k∧Hid (r = bs.take k)∧r.length ≤ 1000000000∧(∃ oa cap,o = .slice oa r.length cap)∧Hid (Own (RS (RS RI)) w.heap.size wr.heap.size wr [o] r)∧Below w.heap.size w wr) (fun _ i _ => bs.length - (intOf i).toNat)
 case atStart => exact ⟨0,[],Nat.zero_le _,rfl,Lib.hid rfl,by simp,⟨_,_,rfl⟩,Lib.hid ((Own.empty (R:=RS RI) (w:=w) 24 w.heap.size (Nat.le_refl _)).top _ (by simp)),(Below.refl _ _).alloc (Nat.le_refl _) _⟩
 case round =>
  obtain ⟨k,r,hk,rfl,hr,hrl,⟨o1,cap1,rfl⟩,hown,hbel⟩:=hrel
  have hsz1:=hbel.size
  by_cases hlt:k < bs.length
  ·obtain ⟨b,off,rfl,hb,hc⟩:=HL.out.get hlt
   obtain ⟨oi,ci,g1,hrd,q1,q2⟩:=hc k hlt
   have g2:wr.cell? ⟨b,off + k,none⟩ = some (.slice oi bs[k].length ci):=(hbel.cell (p:=⟨b,off + k,none⟩) hb).trans g1
   obtain ⟨x,hx⟩:∃ x,x = bs[k]:=⟨_,rfl⟩
   have hxl:x.length ≤ 1000000000:=by rw [hx];exact HS.out _ (List.getElem_mem hlt)
   have hnx:=take_snoc bs k hlt
   have hrlen:r.length = k:=by rw [hr.out];simp;omega
   have hr2:r.length + 1 ≤ 1000000000:=by omega
   rw [← hx] at g2 hrd q1 hnx
   rw [← hr.out] at hnx
   have hcl:=c_slicesClone _ x wr (hrd.below hbel (Nat.le_refl _)) hxl
   have HN:=Lib.hid hnx
   clear hc g1 hx hrd hnx hrlen
   go_wp2_with (first|(go_at_call 155;refine hcl.mono ?_;rintro e w2 ⟨u,rfl,o2,b2⟩;obtain ⟨ou,cu,rfl,lu1,lu2⟩:=o2.val)|(at_builtin;refine StopAt (o:=⟨some 17,_,_,_,_,_⟩) ?_))
   refine Stop.go ?_
   have hb2:=b2.size
   refine wpList_snoc (w:=w2) (R:=RS RI) rfl _ _ 30 rfl 24 (.slice none 0 0) 1 24 tI64S rfl (.slice o1 r.length cap1) r x [.slice ou x.length cu] w.heap.size wr.heap.size w2.heap.size rfl (hown.out.below b2 (Nat.le_refl _)) o2 hb2 hsz1 24 rfl rfl (by omega) (by omega) ?_
   intro oa1 cap1' w1 hown1 c1a c1b hbel1
   have hb3:=(hbel.trans (b2.mono hsz1)).trans hbel1
   obtain ⟨r',hr'⟩:∃ r',r' = r ++ [x]:=⟨_,rfl⟩
   have HR:Hid (r' = bs.take (k + 1)):=Lib.hid (by rw [hr',HN.out])
   have e1:r.length + 1 = r'.length:=by rw [hr'];simp
   rw [← hr',e1] at hown1
   have HO:Hid (Own (RS (RS RI)) w.heap.size w1.heap.size w1 [.slice oa1 r'.length cap1'] r'):=hown1
   rw [e1] at hr2
   rw [e1]
   clear hown1 hbel1 hown e1 hr' hcl o2
   go_wp2_with fail
   go_roundw
   case rel => exact ⟨k + 1,r',by omega,by go_num,HR,hr2,⟨_,_,rfl⟩,HO,hb3⟩
   case measure => simp [intOf];omega
  ·have hfin:Hid (r = bs):=Lib.hid (by rw [hr.out,List.take_of_length_le (by omega)])
   go_wp2_with fail
   go_ret
   exact ⟨_,rfl,by rw [← hfin.out];exact hown.out,hbel⟩
def nodesB (bs:List (List Int)):Int:=bs.foldl (fun a b => wrap64 (a + b.length)) 0
theorem nodesB_take_succ (bs:List (List Int)) (k:Nat) (h:k < bs.length):nodesB (bs.take (k + 1)) = wrap64 (nodesB (bs.take k) + bs[k].length):=by
 unfold nodesB
 rw [List.take_succ_eq_append_getElem h,List.foldl_append];rfl
theorem nodesB_eq (bs:List (List Int)) (h:sumLen bs ≤ 1000000000000000000):nodesB bs = sumLen bs:=by
 have:∀ (bs:List (List Int)) (n:Nat),n + sumLen bs ≤ 1000000000000000000→bs.foldl (fun a b => wrap64 (a + (b.length:Int))) (n:Int) = (n + sumLen bs:Nat):=by
  intro bs
  induction bs with
  | nil => intro n _;simp [sumLen]
  | cons b bs ih =>
   intro n hn
   simp only [sumLen,List.map_cons,List.sum_cons] at hn
   rw [List.foldl_cons]
   have e:wrap64 ((n:Int) + b.length) = ((n + b.length:Nat):Int):=by unfold wrap64;omega
   rw [e,ih (n + b.length) (by unfold sumLen;omega)]
   simp only [sumLen,List.map_cons,List.sum_cons]
   omega
 unfold nodesB;simpa using this bs 0 (by omega)
set_option maxRecDepth 100000 in
set_option maxHeartbeats 1000000 in
theorem c_impl_nodesIn (v:Value) (bs:List (List Int)) (w:World) (h:Rd (RS (RS RI)) w [v] bs) :
  Calls Try.prog 128 #[v] w (RetS w (.int .i64 (nodesB bs))):=by
 obtain ⟨oa,cap,L⟩:=h.lists
 obtain rfl:=L.val
 have m1:=L.le;have m2:=L.capLe
 have HL:=Lib.hid L
 clear L h
 go_enter Try.func128,Try.ntmps128
 go_wp2_with fail
 go_loop [3,8] (fun s i => ∃ (k:Nat),k ≤ bs.length∧i = .int .i64 k∧s = .int .i64 (nodesB (bs.take k))) (fun _ i => bs.length - (intOf i).toNat)
 case atStart => exact ⟨0,Nat.zero_le _,rfl,rfl⟩
 case round =>
  obtain ⟨k,hk,rfl,rfl⟩:=hrel
  by_cases hlt:k < bs.length
  ·obtain ⟨b,off,rfl,hb,hc⟩:=HL.out.get hlt
   obtain ⟨oi,ci,g1,hrd,q1,q2⟩:=hc k hlt
   have hnx:=nodesB_take_succ bs k hlt
   obtain ⟨x,hx⟩:∃ x,x = bs[k].length:=⟨_,rfl⟩
   obtain ⟨s,hs⟩:∃ s,s = nodesB (bs.take k):=⟨_,rfl⟩
   rw [← hx] at g1 q1 hnx
   rw [← hs] at hnx
   rw [← hs]
   have hw:IntKind.i64.wrap (s + (x:Int)) = wrap64 (s + x):=IntWalk.i64_left _
   obtain ⟨g,hg⟩:∃ g,g = wrap64 (s + x):=⟨_,rfl⟩
   rw [← hg] at hw hnx
   have HN:=Lib.hid hnx
   clear hc hrd hx hs hg hnx
   go_wp2_with fail
   go_round
   case rel => exact ⟨k + 1,by omega,by go_num,by rw [HN.out]⟩
   case measure => simp [intOf];omega
  ·have hfin:bs.take k = bs:=List.take_of_length_le (by omega)
   have HF:=Lib.hid hfin
   clear hfin
   go_wp2_with fail
   go_ret
   exact ⟨by simp [HF.out],rfl⟩
set_option maxRecDepth 100000 in
set_option maxHeartbeats 1000000 in
theorem c_spec_l03Nodes (v:Value) (bs:List (List Int)) (w:World) (h:Rd (RS (RS RI)) w [v] bs) :
  Calls Try.prog 137 #[v] w (RetS w (.int .i64 (nodesB bs))):=by
 obtain ⟨oa,cap,L⟩:=h.lists
 obtain rfl:=L.val
 have m1:=L.le;have m2:=L.capLe
 have HL:=Lib.hid L
 clear L h
 go_enter Try.func137,Try.ntmps137
 go_wp2_with fail
 go_loop [3,4] (fun s i => ∃ (k:Nat),k ≤ bs.length∧i = .int .i64 k∧s = .int .i64 (nodesB (bs.take k))) (fun _ i => bs.length - (intOf i).toNat)
 case atStart => exact ⟨0,Nat.zero_le _,rfl,rfl⟩
 case round =>
  obtain ⟨k,hk,rfl,rfl⟩:=hrel
  by_cases hlt:k < bs.length
  ·obtain ⟨b,off,rfl,hb,hc⟩:=HL.out.get hlt
   obtain ⟨oi,ci,g1,hrd,q1,q2⟩:=hc k hlt
   have hnx:=nodesB_take_succ bs k hlt
   obtain ⟨x,hx⟩:∃ x,x = bs[k].length:=⟨_,rfl⟩
   obtain ⟨s,hs⟩:∃ s,s = nodesB (bs.take k):=⟨_,rfl⟩
   rw [← hx] at g1 q1 hnx
   rw [← hs] at hnx
   rw [← hs]
   have hw:IntKind.i64.wrap (s + (x:Int)) = wrap64 (s + x):=IntWalk.i64_left _
   obtain ⟨g,hg⟩:∃ g,g = wrap64 (s + x):=⟨_,rfl⟩
   rw [← hg] at hw hnx
   have HN:=Lib.hid hnx
   clear hc hrd hx hs hg hnx
   go_wp2_with fail
   go_round
   case rel => exact ⟨k + 1,by omega,by go_num,by rw [HN.out]⟩
   case measure => simp [intOf];omega
  ·have hfin:bs.take k = bs:=List.take_of_length_le (by omega)
   have HF:=Lib.hid hfin
   clear hfin
   go_wp2_with fail
   go_ret
   exact ⟨by simp [HF.out],rfl⟩
end Go.Proofs.Ytofpjonggpjneaa
namespace Go.Proofs.Ytofpjonggpjneaa
open Go.RowKit
theorem madeCells_nils (n:Nat):(madeCells (Value.slice none 0 0).cells (n * 1)).toList = List.replicate n (Value.slice none 0 0):=by
 rw [Nat.mul_one];show (madeCells #[Value.slice none 0 0] n).toList = _
 rw [toList_madeCells_one]
theorem ownL_nils {α:Type} {R:Rep α} {w:World}:∀ n,ownL (RS R) w (List.replicate n (.slice none 0 0)) (List.replicate n []) []
 | 0 => ⟨rfl,rfl⟩
 | n + 1 => ⟨[.slice none 0 0],List.replicate n (.slice none 0 0),[],[],rfl,rfl,⟨.slice none 0 0,none,[],[],rfl,Row.nil w R.k,⟨rfl,rfl⟩,rfl⟩,ownL_nils n⟩
theorem Own.innerRow {w:World} {v:Value} {xss:List (List Int)} {lo hi:Nat} (h:Own (RS (RS RI)) lo hi w [v] xss) (i:Nat) (hi':i < xss.length) :
  ∃ g cap h0 og,v = .slice (some ⟨g,0,none⟩) xss.length cap∧xss.length ≤ cap∧cap ≤ 9223372036854775807∧w.cell? ⟨g,i,none⟩ = some h0∧Row w h0 1 xss[i].length (xss[i].map (Value.int .i64)) og∧(∀ x ∈ xss[i],In64 x) ∧
   ∀ (w':World) (ys:List Int),w.grownBy w' og→ys.length = xss[i].length→(∀ x ∈ ys,In64 x)→Row w' h0 1 ys.length (ys.map (Value.int .i64)) og→Own (RS (RS RI)) lo hi w' [v] (xss.set i ys)∧Chg lo hi w w':=by
 obtain ⟨og0,ds0,F,hrow,hel,hF,hlt⟩:=h.open
 obtain ⟨g,rfl⟩:=hrow.some_of hi'
 obtain ⟨cap,hv,hc1,hc2⟩:=hrow.slice
 obtain ⟨d1,c0,d2,F1,G,F2,rfl,rfl,hd1,hL1,⟨h0,og,ds,G',rfl,hr0,hel0,rfl⟩,hL2⟩:=hel.split i hi'
 have hd1':d1.length = i:=by rw [hd1];show i * 1 = i;omega
 obtain ⟨k1,k2,k3⟩:=ownL_ints hel0
 subst k1;subst k2
 have hcell:w.cell? ⟨g,i,none⟩ = some h0:=hrow.cells i h0 (by rw [List.getElem?_append_right (by omega),hd1'];simp)
 refine ⟨g,cap,h0,og,hv,hc1,by unfold maxLen at hc2;omega,hcell,hr0,k3,fun w' ys hgr hyl hyb hr' => ?_⟩
 have hn:=List.nodup_append.1 hF
 have hn1:=List.nodup_append.1 hn.2.1
 have hog:∀ b,og = some b→b ∉ F1 ++ F2∧b ≠ g:=by
  intro b hb
  refine ⟨fun hm => ?_,fun e => ?_⟩
  ·rcases List.mem_append.1 hm with hm|hm
   ·exact hn1.2.2 b hm b (by simp [hb]) rfl
   ·exact (List.nodup_append.1 hn1.2.1).2.2 b (by simp [hb]) b hm rfl
  ·subst e
   exact hn.2.2 b (by simp) b (by simp [hb]) rfl
 have hfr:∀ b,b ∈ F1 ++ F2→w'.heap[b]? = w.heap[b]?:=by
  intro b hb
  refine hgr.block b ?_ (fun e => (hog b e.symm).1 hb)
  rcases List.mem_append.1 hb with hb|hb
  ·exact hL1.lt b hb
  ·exact hL2.lt b hb
 have hgb:w'.heap[g]? = w.heap[g]?:=hgr.block g (hrow.lt g rfl) (fun e => (hog g e.symm).2 rfl)
 have hin:(RS RI).own w' [h0] ys og.toList:=hr'.ownI hyb
 have hjoin:=ownL.join (R:=RS RI) (x:=ys) hi' (hL1.frame fun b hb => hfr b (by simp [hb])) hin (hL2.frame fun b hb => hfr b (by simp [hb]))
 refine ⟨Own.mk' (og:=some g) (ds:=d1 ++ ([h0] ++ d2)) (F:=F1 ++ (og.toList ++ F2)) ?_ hjoin ?_ ?_,Chg.of_grown hgr (fun b hb => hlt b (by simp [hb]))⟩
 ·rw [List.length_set]
  exact hrow.frame (fun g' hg' => by cases hg';exact hgb)
 ·simpa using hF
 ·intro b hb
  exact hlt b (by simpa using hb)
def cnt_II (xss:List (List Int)):Nat:=sumLen xss
def mkd_II:List (List Int)→Int→List (List Int)
 | [],_ => []
 | x :: xs,k => marks x.length k :: mkd_II xs (k + x.length)
theorem mkd_II_len:∀ (xss:List (List Int)) (k:Int),(mkd_II xss k).length = xss.length
 | [],_ => rfl
 | x :: xs,k => by simp [mkd_II,mkd_II_len xs]
theorem mkd_II_get:∀ (xss:List (List Int)) (k:Int) (i:Nat) (h:i < xss.length),(mkd_II xss k)[i]'(by rw [mkd_II_len];exact h) = marks xss[i].length (k + sumLen (xss.take i))
 | x :: xs,k,0,h => by simp [mkd_II,sumLen]
 | x :: xs,k,i + 1,h => by
  simp only [mkd_II,List.getElem_cons_succ,List.take_succ_cons]
  rw [mkd_II_get xs (k + x.length) i (by simpa using h)]
  congr 1
  simp only [sumLen,List.map_cons,List.sum_cons]
  omega
def szII (xss:List (List Int)):Prop:=xss.length + sumLen xss ≤ 1048576
theorem cntb_II (xss:List (List Int)) (h:szII xss):cnt_II xss ≤ 1048576:=by unfold szII at h;unfold cnt_II;omega
theorem sumLen_take_succ (bs:List (List Int)) (k:Nat) (h:k < bs.length):sumLen (bs.take (k + 1)) = sumLen (bs.take k) + bs[k].length:=by
 rw [List.take_succ_eq_append_getElem h,sumLen_append];simp [sumLen]
set_option maxRecDepth 100000 in
set_option maxHeartbeats 1000000 in
theorem to_II (v:Value) (xs:List (List Int)) (w:World) (h:Rd (RS (RS RI)) w [v] xs) (hsz:szII xs) :
  Calls Try.prog 74 #[v] w (RetO (RS (RS RI)) w xs):=by
 obtain ⟨oa,cap,L⟩:=h.lists
 obtain rfl:=L.val
 have m1:=L.le;have m2:=L.capLe
 have HL:=Lib.hid L
 unfold szII at hsz
 clear L h
 go_enter Try.func74,Try.ntmps74
 go_wp2_with (at_make;refine wpList_makeRow rfl _ _ 30 rfl 24 (.slice none 0 0) 1 24 tI64S _ _ _ _ xs.length rfl rfl rfl rfl (by omega) (by unfold maxLen;omega) ?_;rintro v1 w1 hrow0 hgr0 rfl)
 rw [madeCells_nils] at hrow0
 have hb0:Below w.heap.size w w1:=Below.of_grown hgr0 (Nat.le_refl _) (fun g hg => by cases hg)
 have HO:Hid (Own (RS (RS RI)) w.heap.size w1.heap.size w1 [.slice (some ⟨w.heap.size,0,none⟩) xs.length xs.length] (List.replicate xs.length [])):=Lib.hid (Own.mk' (og:=some w.heap.size) (F:=[]) (ds:=List.replicate xs.length (.slice none 0 0)) (by rw [List.length_replicate];exact hrow0) (ownL_nils xs.length) (by simp) (fun b hb => by have:=hrow0.lt w.heap.size rfl;simp at hb;omega))
 clear hrow0 hgr0
 go_wp2_with fail
 go_loopw [4] (fun i wr => ∃ (k:Nat) (z:List (List Int)),k ≤ xs.length∧i = .int .i64 k∧Hid (z = xs.take k ++ List.replicate (xs.length - k) [])∧Hid (Own (RS (RS RI)) w.heap.size wr.heap.size wr [.slice (some ⟨w.heap.size,0,none⟩) xs.length xs.length] z)∧Below w.heap.size w wr) (fun i _ => xs.length - (intOf i).toNat)
 case atStart => exact ⟨0,_,Nat.zero_le _,rfl,Lib.hid (by simp),HO,hb0⟩
 case round =>
  obtain ⟨k,z,hk,rfl,hz,hown,hbel⟩:=hrel
  have hsz1:=hbel.size
  clear HO
  by_cases hlt:k < xs.length
  ·obtain ⟨b,off,rfl,hb,hc⟩:=HL.out.get hlt
   obtain ⟨oi,ci,g1,hrd,q1,q2⟩:=hc k hlt
   have g2:wr.cell? ⟨b,off + k,none⟩ = some (.slice oi xs[k].length ci):=(hbel.cell (p:=⟨b,off + k,none⟩) hb).trans g1
   have hzl:z.length = xs.length:=by rw [hz.out];simp;omega
   obtain ⟨g,cap',a,hv,_,_,hg1,hg2,hg3,hcell,hel,hK⟩:=hown.out.setElem (R:=RS RI) rfl k (by rw [hzl];exact hlt)
   rw [hzl] at hv
   simp only [Value.slice.injEq,Option.some.injEq,Addr.mk.injEq,and_true,true_and] at hv
   obtain ⟨rfl,rfl⟩:=hv
   obtain ⟨oz,cz,rfl,_⟩:=hel.val
   have hkz:k < z.length:=by omega
   obtain ⟨zl,hzl'⟩:∃ zl,zl = z[k].length:=⟨_,rfl⟩
   rw [← hzl'] at hcell hK
   have hset:z.set k xs[k] = xs.take (k + 1) ++ List.replicate (xs.length - (k + 1)) []:=by
    rw [hz.out,List.set_append_right _ _ (by simp;omega)]
    have e:k - (xs.take k).length = 0:=by simp;omega
    rw [e,show xs.length - k = (xs.length - (k + 1)) + 1 by omega,List.replicate_succ,List.set_cons_zero,List.take_succ_eq_append_getElem hlt,List.append_assoc,List.singleton_append]
   have hxl:xs[k].length ≤ 1048576:=by have:=sumLen_mem (List.getElem_mem hlt);omega
   have HK:=Lib.hid hK
   obtain ⟨x,hx⟩:∃ x,x = xs[k]:=⟨_,rfl⟩
   rw [← hx] at g2 q1 hrd hset hxl
   have HSET:=Lib.hid hset
   have hto:=to_I (.slice oi x.length ci) x wr (hrd.below hbel (Nat.le_refl _)) hxl
   clear hc g1 hrd hx hset hel hzl' hK
   go_wp2_with (go_at_call 73;refine hto.mono ?_;rintro e w2 ⟨u,rfl,o2,b2⟩;obtain ⟨ou,cu,rfl,lu1,lu2⟩:=o2.val;obtain ⟨f1,f2,f3,f4⟩:=HK.out w2 x (.slice ou x.length cu) wr.heap.size w2.heap.size o2 (Nat.le_refl _) b2.size b2;have HF:=Lib.hid f3;have hb3:Below w.heap.size w w2:=hbel.trans (b2.mono hsz1);have hb4:=hb3.setCell (p:=⟨w.heap.size,k,none⟩) (Nat.le_refl _) (.slice ou x.length cu);clear f3 f4 o2 hto)
   go_roundw
   case rel => exact ⟨k + 1,_,by omega,by go_num,HSET,Lib.hid (HF.out.top _ (by simp)),hb4⟩
   case measure => simp [intOf];omega
  ·have hfin:Hid (z = xs):=Lib.hid (by rw [hz.out,List.take_of_length_le (by omega),show xs.length - k = 0 by omega];simp)
   go_wp2_with fail
   go_ret
   exact ⟨_,rfl,hfin.out ▸ hown.out,hbel⟩
set_option maxRecDepth 100000 in
set_option maxHeartbeats 1000000 in
theorem eqv_II (v1 v2:Value) (xs:List (List Int)) (w:World) (h1:Rd (RS (RS RI)) w [v1] xs) (h2:Rd (RS (RS RI)) w [v2] xs) :
  Calls Try.prog 78 #[v1,v2] w (RetV w (.bool true)):=by
 obtain ⟨oa,cap,L1⟩:=h1.lists
 obtain ⟨ob,cap2,L2⟩:=h2.lists
 obtain rfl:=L1.val
 obtain rfl:=L2.val
 have m1:=L1.le;have m2:=L1.capLe;have m3:=L2.le;have m4:=L2.capLe
 have HL1:=Lib.hid L1
 have HL2:=Lib.hid L2
 have hne:((xs.length:Int) != (xs.length:Int)) = false:=by simp
 clear L1 L2 h1 h2
 go_enter Try.func78,Try.ntmps78
 go_wp2_with fail
 go_loopw [5] (fun i wr => ∃ k:Nat,k ≤ xs.length∧i = .int .i64 k∧∃ n,wr = w.drewN n) (fun i _ => xs.length - (intOf i).toNat)
 case atStart => exact ⟨0,Nat.zero_le _,rfl,0,rfl⟩
 case round =>
  obtain ⟨k,hk,rfl,n,rfl⟩:=hrel
  by_cases hlt:k < xs.length
  ·obtain ⟨b1,f1,rfl,hb1,hc1⟩:=HL1.out.get hlt
   obtain ⟨b2,f2,rfl,hb2,hc2⟩:=HL2.out.get hlt
   obtain ⟨o1,c1,g1,r1,_,_⟩:=hc1 k hlt
   obtain ⟨o2,c2,g2,r2,_,_⟩:=hc2 k hlt
   have HEQ:Hid (∀ a,Calls Try.prog 77 #[.slice o1 xs[k].length c1,.slice o2 xs[k].length c2] (w.drewN (n + a)) (RetQ (w.drewN (n + a)) (.bool true))):=Lib.hid (fun a => (c_laws_eqInt64S _ _ _ _ (w.drewN (n + a)) (r1.of_heap rfl) (r2.of_heap rfl)).mono fun e w' h => by simpa using h)
   obtain ⟨xl,hxl⟩:∃ xl,xl = xs[k].length:=⟨_,rfl⟩
   rw [← hxl] at g1 g2 HEQ
   have i1:(0:Int) ≤ (k:Int):=by omega
   have i2:(k:Int) < (xs.length:Int):=by omega
   clear hc1 hc2 r1 r2 hxl
   go_wp2_with fail
   go_quiet ((go_at_call 77;exact Calls.qQ' (HEQ.out _)))
   go_wp2_with fail
   go_roundw
   case rel => exact ⟨k + 1,by omega,by go_num,(by first|exact drewN1 _ _|exact drewN2 _ _ _|exact drewN3 _ _ _ _)⟩
   case measure => simp [intOf];omega
  ·go_wp2_with fail
   go_ret
   exact ⟨rfl,Below.drewN _ _ _⟩
set_option maxRecDepth 100000 in
set_option maxHeartbeats 1000000 in
theorem mark_II (v:Value) (xs:List (List Int)) (lo hi:Nat) (k0:Int) (w:World) (h:Own (RS (RS RI)) lo hi w [v] xs) (hk0:0 ≤ k0) (hk:k0 + cnt_II xs ≤ 4611686018427387904) :
  Calls Try.prog 80 #[v,.int .i64 k0] w fun e w' => e = .returned (.int .i64 (k0 + (cnt_II xs:Nat)))∧Own (RS (RS RI)) lo hi w' [v] (mkd_II xs k0)∧Chg lo hi w w':=by
 obtain ⟨oa,cap,rfl,m1,m2⟩:=h.val
 have H0:=Lib.hid h
 unfold cnt_II at hk
 clear h
 go_enter Try.func80,Try.ntmps80
 go_wp2_with fail
 go_loopw [1,5] (fun q i wr => ∃ (k:Nat) (z:List (List Int)),k ≤ xs.length∧i = .int .i64 k∧q = .int .i64 (k0 + (sumLen (xs.take k):Nat))∧Hid (z = (mkd_II xs k0).take k ++ xs.drop k)∧Hid (Own (RS (RS RI)) lo hi wr [.slice oa xs.length cap] z∧Chg lo hi w wr)) (fun _ i _ => xs.length - (intOf i).toNat)
 case atStart => exact ⟨0,xs,Nat.zero_le _,rfl,by simp [sumLen],Lib.hid (by simp),Lib.hid ⟨H0.out,Chg.refl _ _ _⟩⟩
 case round =>
  obtain ⟨k,z,hkl,rfl,rfl,hz,hown⟩:=hrel
  clear H0
  by_cases hlt:k < xs.length
  ·have hml:=mkd_II_len xs k0
   have hzl:z.length = xs.length:=by rw [hz.out];simp [hml];omega
   obtain ⟨g,cap',u0,og,hv,_,_,hcell,hrow,hbd,hK⟩:=hown.out.1.innerRow k (by omega)
   rw [hzl] at hv
   simp only [Value.slice.injEq,true_and] at hv
   obtain ⟨rfl,rfl⟩:=hv
   have hzk:z[k]'(by omega) = xs[k]:=by
    simp only [hz.out]
    rw [List.getElem_append_right (by simp [hml];omega)]
    simp [List.getElem_drop,hml]
    congr 1;omega
   rw [hzk] at hrow hbd hK
   have hst:=sumLen_take_succ xs k hlt
   have hle:=sumLen_take xs (k + 1)
   have hset:z.set k (marks xs[k].length (k0 + (sumLen (xs.take k):Nat))) = (mkd_II xs k0).take (k + 1) ++ xs.drop (k + 1):=by
    rw [hz.out,List.set_append_right _ _ (by simp [hml];omega)]
    have e:k - ((mkd_II xs k0).take k).length = 0:=by simp [hml];omega
    rw [e,List.drop_eq_getElem_cons hlt,List.set_cons_zero,List.take_succ_eq_append_getElem (by rw [hml];exact hlt),mkd_II_get xs k0 k hlt]
    simp
   obtain ⟨n,hn⟩:∃ n,n = sumLen (xs.take k):=⟨_,rfl⟩
   obtain ⟨x,hx⟩:∃ x,x = xs[k]:=⟨_,rfl⟩
   rw [← hn,← hx] at hset hst
   rw [← hx] at hrow hbd hK
   rw [← hn]
   obtain ⟨ou,cu,rfl,_⟩:=hrow.val
   have hbd2:k0 + (n:Int) + (x.length:Int) ≤ 4611686018427387904:=by omega
   have hmk:=c_laws_markInt64S _ x.length x og (k0 + n) wr hrow (by omega) (by omega)
   have HK:=Lib.hid hK
   have HSET:=Lib.hid hset
   have HST:=Lib.hid hst
   have i1:(0:Int) ≤ (k:Int):=by omega
   have i2:(k:Int) < (xs.length:Int):=by omega
   clear hK hset hzk hzl hn hx hrow hbd hml hst
   go_wp2_with (go_at_call 79;refine hmk.mono ?_;rintro e w2 ⟨rfl,hr2,hg2⟩;obtain ⟨f1,f2⟩:=HK.out w2 (marks x.length (k0 + n)) hg2 (by simp [marks]) (marks_in64 _ _ (by omega) (by omega)) (by rw [marks_length];exact hr2);have HF:=Lib.hid (And.intro f1 (hown.out.2.trans f2));clear f1 f2 hr2 hg2)
   go_roundw
   case rel => exact ⟨k + 1,_,by omega,by go_num,by rw [HST.out];congr 1;omega,HSET,HF⟩
   case measure => simp [intOf];omega
  ·have hfin:Hid (z = mkd_II xs k0):=Lib.hid (by rw [hz.out,List.take_of_length_le (by rw [mkd_II_len];omega),List.drop_of_length_le (by omega),List.append_nil])
   have hf2:xs.take k = xs:=List.take_of_length_le (by omega)
   rw [hf2]
   go_wp2_with fail
   go_ret
   exact ⟨rfl,hfin.out ▸ hown.out.1,hown.out.2⟩
set_option maxRecDepth 100000 in
set_option maxHeartbeats 1000000 in
theorem c_laws_szInt64S (v:Value) (x:List Int) (left r:Int) (w:World) (h:Rd (RS RI) w [v] x) (h0:0 ≤ left) (h1:left ≤ 1048576) (hr:(left - x.length < 0∧r = -1) ∨ (0 ≤ left - x.length∧r = left - x.length)) :
  Calls Try.prog 144 #[v,.int .i64 left] w (RetS w (.int .i64 r)):=by
 obtain ⟨oa,c1,rfl,m1,m2⟩:=h.val
 unfold maxLen at m2
 rcases hr with ⟨hlt,rfl⟩|⟨hlt,rfl⟩
 ·go_enter Try.func144,Try.ntmps144
  go_wp2_with fail
  go_ret
  exact ⟨rfl,rfl⟩
 ·have hlt':¬ left - (x.length:Int) < 0:=by omega
  go_enter Try.func144,Try.ntmps144
  go_wp2_with fail
  go_ret
  exact ⟨rfl,rfl⟩
set_option maxRecDepth 100000 in
set_option maxHeartbeats 1000000 in
theorem sz_II (v:Value) (xs:List (List Int)) (left:Int) (w:World) (h:Rd (RS (RS RI)) w [v] xs) (h0:0 ≤ left) (h1:left ≤ 1048576) :
  Calls Try.prog 71 #[v,.int .i64 left] w fun e w' => ∃ r,e = .returned (.int .i64 r)∧((r < 0∧True) ∨ (0 ≤ r∧r ≤ 1048576∧szII xs))∧Below w.heap.size w w':=by
 obtain ⟨oa,cap,L⟩:=h.lists
 obtain rfl:=L.val
 have m1:=L.le;have m2:=L.capLe
 have HL:=Lib.hid L
 clear L h
 by_cases hneg:left - (xs.length:Int) < 0
 ·go_enter Try.func71,Try.ntmps71
  go_wp2_with fail
  go_ret
  exact ⟨_,rfl,.inl ⟨by decide,trivial⟩,Below.refl _ _⟩
 ·have hnn:¬ left - (xs.length:Int) < 0:=hneg
  go_enter Try.func71,Try.ntmps71
  go_wp2_with fail
  go_loopw [1,5] (fun q i wr => ∃ (k:Nat),k ≤ xs.length∧i = .int .i64 k∧q = .int .i64 (left - xs.length - (sumLen (xs.take k):Nat))∧0 ≤ left - xs.length - (sumLen (xs.take k):Nat)∧wr = w) (fun _ i _ => xs.length - (intOf i).toNat)
  case atStart => exact ⟨0,Nat.zero_le _,rfl,by simp [sumLen],by simp [sumLen];omega,rfl⟩
  case round =>
   obtain ⟨k,hkl,rfl,rfl,hpos,rfl⟩:=hrel
   by_cases hlt:k < xs.length
   ·obtain ⟨b,off,rfl,hb,hc⟩:=HL.out.get hlt
    obtain ⟨oi,ci,g1,hrd,q1,q2⟩:=hc k hlt
    have hst:=sumLen_take_succ xs k hlt
    obtain ⟨n,hn⟩:∃ n,n = sumLen (xs.take k):=⟨_,rfl⟩
    rw [← hn] at hst hpos
    rw [← hn]
    obtain ⟨q,hq⟩:∃ q:Int,q = left - xs.length - (n:Nat):=⟨_,rfl⟩
    rw [← hq] at hpos
    rw [← hq]
    obtain ⟨xl,hxl⟩:∃ xl,xl = xs[k].length:=⟨_,rfl⟩
    rw [← hxl] at g1 q1 hst
    have HST:=Lib.hid hst
    have HQ:=Lib.hid hq
    have i1:(0:Int) ≤ (k:Int):=by omega
    have i2:(k:Int) < (xs.length:Int):=by omega
    by_cases hng:q - (xl:Int) < 0
    ·have hh:=c_laws_szInt64S _ xs[k] q (-1) wr hrd hpos (by omega) (.inl ⟨by rw [← hxl];exact hng,rfl⟩)
     rw [← hxl] at hh
     clear hc hrd hst hn hxl hq hng
     go_wp2_with (go_at_call 144;refine hh.mono ?_;rintro e w2 ⟨rfl,rfl⟩)
     go_ret
     exact ⟨_,rfl,.inl ⟨by decide,trivial⟩,Below.refl _ _⟩
    ·have hh:=c_laws_szInt64S _ xs[k] q (q - xl) wr hrd hpos (by omega) (.inr ⟨by rw [← hxl];omega,by rw [← hxl]⟩)
     rw [← hxl] at hh
     clear hc hrd hst hn hxl hq
     go_wp2_with (go_at_call 144;refine hh.mono ?_;rintro e w2 ⟨rfl,rfl⟩)
     go_roundw
     case rel => exact ⟨k + 1,by omega,by go_num,by rw [HST.out];have:=HQ.out;congr 1;omega,by rw [HST.out];have:=HQ.out;omega,(by first|rfl|trivial)⟩
     case measure => simp [intOf];omega
   ·have hf2:xs.take k = xs:=List.take_of_length_le (by omega)
    rw [hf2] at hpos
    rw [hf2]
    obtain ⟨q,hq⟩:∃ q:Int,q = left - xs.length - (sumLen xs:Nat):=⟨_,rfl⟩
    rw [← hq] at hpos
    rw [← hq]
    have HZ:Hid (szII xs):=Lib.hid (by unfold szII;omega)
    have HB:Hid (q ≤ 1048576):=Lib.hid (by omega)
    clear hq hf2
    go_wp2_with fail
    go_ret
    exact ⟨_,rfl,.inr ⟨hpos,HB.out,HZ.out⟩,Below.refl _ _⟩
end Go.Proofs.Ytofpjonggpjneaa
namespace Go.Proofs.Ytofpjonggpjneaa
open Go.RowKit
def OwnF {α:Type} (R:Rep α) (F:List Nat) (w:World) (cs:List Value) (x:α):Prop:=R.own w cs x F∧F.Nodup
theorem OwnF.of {α:Type} {R:Rep α} {lo hi:Nat} {w:World} {cs:List Value} {x:α} (h:Own R lo hi w cs x):∃ F,OwnF R F w cs x∧∀ b,b ∈ F→lo ≤ b∧b < hi :=
 let ⟨F,h1,h2,h3⟩:=h;⟨F,⟨h1,h2⟩,h3⟩
theorem OwnF.to {α:Type} {R:Rep α} {lo hi:Nat} {F:List Nat} {w:World} {cs:List Value} {x:α} (h:OwnF R F w cs x) (hb:∀ b,b ∈ F→lo ≤ b∧b < hi):Own R lo hi w cs x:=⟨F,h.1,h.2,hb⟩
theorem OwnF.frame {α:Type} {R:Rep α} {F:List Nat} {w w':World} {cs:List Value} {x:α} (h:OwnF R F w cs x) (hf:∀ b,b ∈ F→w'.heap[b]? = w.heap[b]?):OwnF R F w' cs x:=⟨R.own_frame h.1 hf,h.2⟩
theorem OwnF.lt {α:Type} {R:Rep α} {F:List Nat} {w:World} {cs:List Value} {x:α} (h:OwnF R F w cs x):∀ b,b ∈ F→b < w.heap.size:=R.own_lt h.1
theorem OwnF.rd {α:Type} {R:Rep α} {F:List Nat} {w:World} {cs:List Value} {x:α} (h:OwnF R F w cs x):Rd R w cs x:=R.rd_mono (R.own_rd h.1) (fun _ _ h => h)
structure ChgF (F:List Nat) (w w':World):Prop where
 os:w'.os = w.os
 tape:w'.tape = w.tape
 output:w'.output = w.output
 size:w.heap.size ≤ w'.heap.size
 block:∀ k,k < w.heap.size→k ∉ F→w'.heap[k]? = w.heap[k]?
theorem ChgF.refl (F:List Nat) (w:World):ChgF F w w:=⟨rfl,rfl,rfl,Nat.le_refl _,fun _ _ _ => rfl⟩
theorem ChgF.of_grown {w w':World} {og:Option Nat} (h:w.grownBy w' og):ChgF og.toList w w':=⟨h.os,h.tape,h.output,h.size,fun k hk hn => h.block k hk (fun e => hn (by simp [← e]))⟩
theorem ChgF.mono {F G:List Nat} {w w':World} (h:ChgF F w w') (hs:∀ b,b ∈ F→b ∈ G):ChgF G w w':=⟨h.os,h.tape,h.output,h.size,fun k hk hn => h.block k hk (fun e => hn (hs k e))⟩
theorem ChgF.trans {F:List Nat} {a b c:World} (h:ChgF F a b) (k:ChgF F b c):ChgF F a c :=
 ⟨k.os.trans h.os,k.tape.trans h.tape,k.output.trans h.output,Nat.le_trans h.size k.size,fun i hi hn => (k.block i (Nat.lt_of_lt_of_le hi h.size) hn).trans (h.block i hi hn)⟩
theorem ChgF.trans' {F G:List Nat} {a b c:World} (h:ChgF F a b) (k:ChgF G b c) (hs:∀ x,x ∈ G→x ∈ F ∨ a.heap.size ≤ x):ChgF F a c :=
 ⟨k.os.trans h.os,k.tape.trans h.tape,k.output.trans h.output,Nat.le_trans h.size k.size,fun i hi hn => (k.block i (Nat.lt_of_lt_of_le hi h.size) (fun e => (hs i e).elim hn (fun h => by omega))).trans (h.block i hi hn)⟩
theorem ChgF.below {F:List Nat} {w w':World} {B:Nat} (h:ChgF F w w') (hB:B ≤ w.heap.size) (hF:∀ b,b ∈ F→B ≤ b):Below B w w' :=
 ⟨h.os,h.tape,h.output,h.size,fun k hk => h.block k (by omega) (fun e => by have:=hF k e;omega)⟩
theorem Below.chgF {w w':World} {F:List Nat} (h:Below w.heap.size w w'):ChgF F w w':=⟨h.os,h.tape,h.output,h.size,fun k hk _ => h.block k hk⟩
section
variable {α:Type} {R:Rep α} {w:World}
theorem OwnF.lens {v:Value} {xs:List α} {F:List Nat} (h:OwnF (RS R) F w [v] xs) (i:Nat) (hi:i < xs.length) :
  ∃ g cap d1 c d2 F1 G F2,v = .slice (some ⟨g,0,none⟩) xs.length cap∧xs.length ≤ cap∧cap ≤ 9223372036854775807∧F = g :: (F1 ++ (G ++ F2))∧c.length = R.k∧d1.length = i * R.k∧R.own w c xs[i] G∧Row w v R.k xs.length (d1 ++ (c ++ d2)) (some g) ∧
   ∀ (w':World) (c':List Value) (y:α) (G':List Nat),c'.length = R.k→R.own w' c' y G'→(∀ b,b ∈ F1 ++ F2→w'.heap[b]? = w.heap[b]?)→Row w' v R.k xs.length (d1 ++ (c' ++ d2)) (some g)→(g :: (F1 ++ (G' ++ F2))).Nodup →
    OwnF (RS R) (g :: (F1 ++ (G' ++ F2))) w' [v] (xs.set i y):=by
 obtain ⟨⟨v',og,ds,F0,h1,hrow,hel,rfl⟩,hn⟩:=h
 simp only [List.cons.injEq,and_true] at h1
 subst h1
 obtain ⟨g,rfl⟩:=hrow.some_of hi
 obtain ⟨cap,hv,hc1,hc2⟩:=hrow.slice
 obtain ⟨d1,c,d2,F1,G,F2,rfl,rfl,hd1,hL1,hx,hL2⟩:=hel.split i hi
 refine ⟨g,cap,d1,c,d2,F1,G,F2,hv,hc1,by unfold maxLen at hc2;omega,rfl,R.rd_len (R.own_rd hx),hd1,hx,hrow,?_⟩
 intro w' c' y G' hc' hy hfr hr' hnd
 refine ⟨⟨v,some g,d1 ++ (c' ++ d2),F1 ++ (G' ++ F2),rfl,by rw [List.length_set];exact hr',?_,rfl⟩,hnd⟩
 exact ownL.join hi (hL1.frame fun b hb => hfr b (by simp [hb])) hy (hL2.frame fun b hb => hfr b (by simp [hb]))
end
theorem Row.chgF {w w':World} {v:Value} {k n:Nat} {ds:List Value} {og:Option Nat} {F:List Nat} (h:Row w v k n ds og) (hc:ChgF F w w') (hn:∀ g,og = some g→g ∉ F):Row w' v k n ds og :=
 h.frame fun g hg => hc.block g (h.lt g hg) (hn g hg)
theorem OwnF.innerApp {w:World} {v:Value} {xss:List (List Int)} {F:List Nat} (h:OwnF (RS (RS RI)) F w [v] xss) (i:Nat) (hi:i < xss.length) :
  ∃ g cap h0 og,v = .slice (some ⟨g,0,none⟩) xss.length cap∧xss.length ≤ cap∧cap ≤ 9223372036854775807∧g < w.heap.size∧w.cell? ⟨g,i,none⟩ = some h0∧Row w h0 1 xss[i].length (xss[i].map (Value.int .i64)) og ∧
   ∀ (y:Int) (h':Value) (w1:World) (og':Option Nat),In64 y→Appended w w1 h' 1 (xss[i].length + 1) (xss[i].map (Value.int .i64) ++ [.int .i64 y]) og og' →
    w1.cell? ⟨g,i,none⟩ = some h0∧w1.frozen? ⟨g,i,none⟩ = false∧∃ F',OwnF (RS (RS RI)) F' (w1.setCell ⟨g,i,none⟩ h') [v] (xss.set i (xss[i] ++ [y]))∧(∀ b,b ∈ F'→b ∈ F ∨ w.heap.size ≤ b)∧ChgF F w (w1.setCell ⟨g,i,none⟩ h'):=by
 have hlt:=h.lt
 have hnd:=h.2
 obtain ⟨g,cap,d1,c,d2,F1,G,F2,hv,hc1,hc2,rfl,hcl,hd1,hx,hrow,hK⟩:=h.lens i hi
 obtain ⟨h0,og,ds,G',rfl,hr0,hel0,rfl⟩:=hx
 obtain ⟨k1,k2,k3⟩:=ownL_ints hel0
 subst k1;subst k2
 have hd1':d1.length = i:=by rw [hd1];show i * 1 = i;omega
 have hcell:w.cell? ⟨g,i,none⟩ = some h0:=hrow.cells i h0 (by rw [List.getElem?_append_right (by omega),hd1'];simp)
 refine ⟨g,cap,h0,og,hv,hc1,hc2,hlt g (by simp),hcell,hr0,?_⟩
 intro y h' w1 og' hy happ
 obtain ⟨a1,a2,a3⟩:=happ
 simp only [List.append_nil] at *
 have hn1:=List.nodup_cons.1 hnd
 have hog:∀ b,og = some b→b ≠ g∧b ∉ F1 ++ F2:=by
  intro b hb
  subst hb
  refine ⟨fun e => hn1.1 (by simp [← e]),fun hm => ?_⟩
  have h2:=List.nodup_append.1 hn1.2
  rcases List.mem_append.1 hm with hm|hm
  ·exact h2.2.2 b hm b (by simp) rfl
  ·exact (List.nodup_append.1 h2.2.1).2.2 b (by simp) b hm rfl
 have hgb:w1.heap[g]? = w.heap[g]?:=a2.block g (hlt g (by simp)) (fun e => (hog g e.symm).1 rfl)
 have hrow1:Row w1 v 1 xss.length (d1 ++ ([h0] ++ d2)) (some g):=hrow.frame (fun g' hg' => by cases hg';exact hgb)
 obtain ⟨hst,hgr⟩:=hrow1.store i h'
 have hset:(d1 ++ ([h0] ++ d2)).set i h' = d1 ++ ([h'] ++ d2):=by
  rw [List.set_append_right _ _ (by omega),hd1',Nat.sub_self];rfl
 rw [hset] at hst
 have hog':∀ b,og' = some b→b ≠ g∧b ∉ F1 ++ F2:=by
  intro b hb
  rcases a3 with a3|⟨b',a3,hb'⟩
  ·exact hog b (by rw [← a3];exact hb)
  ·rw [hb] at a3;cases a3
   refine ⟨fun e => ?_,fun hm => ?_⟩
   ·subst e;have:=hlt b (by simp);omega
   ·have:=hlt b (by
     rcases List.mem_append.1 hm with hm|hm
     ·simp [hm]
     ·simp [hm])
    omega
 have hr1:Row (w1.setCell ⟨g,i,none⟩ h') h' 1 (xss[i].length + 1) (xss[i].map (Value.int .i64) ++ [.int .i64 y]) og' :=
  a1.frame (fun b hb => heap_setCell_other w1 ⟨g,i,none⟩ b h' (hog' b hb).1)
 have hin:(RS RI).own (w1.setCell ⟨g,i,none⟩ h') [h'] (xss[i] ++ [y]) (og'.toList):=by
  refine Row.ownI ?_ ?_
  ·simpa using hr1
  ·intro z hz
   rcases List.mem_append.1 hz with hz|hz
   ·exact k3 z hz
   ·simp only [List.mem_singleton] at hz;subst hz;exact hy
 have hsub:∀ b,b ∈ F1 ++ F2→b ≠ g:=fun b hm e => hn1.1 (by
  subst e
  rcases List.mem_append.1 hm with hm|hm
  ·simp [hm]
  ·simp [hm])
 have hfr:∀ b,b ∈ F1 ++ F2→(w1.setCell ⟨g,i,none⟩ h').heap[b]? = w.heap[b]?:=by
  intro b hm
  rw [heap_setCell_other w1 ⟨g,i,none⟩ b h' (hsub b hm)]
  refine a2.block b (hlt b ?_) (fun e => (hog b e.symm).2 hm)
  rcases List.mem_append.1 hm with hm|hm
  ·simp [hm]
  ·simp [hm]
 have hnd':(g :: (F1 ++ (og'.toList ++ F2))).Nodup:=by
  have h2:=List.nodup_append.1 hn1.2
  have h3:=List.nodup_append.1 h2.2.1
  refine List.nodup_cons.2 ⟨?_,?_⟩
  ·intro hm
   simp only [List.mem_append,Option.mem_toList] at hm
   rcases hm with hm|hm|hm
   ·exact hsub g (by simp [hm]) rfl
   ·exact (hog' g hm).1 rfl
   ·exact hsub g (by simp [hm]) rfl
  ·refine List.nodup_append.2 ⟨h2.1,List.nodup_append.2 ⟨by cases og' <;> simp,h3.2.1,fun b hb b' hb' e => ?_⟩,fun b hb b' hb' e => ?_⟩
   ·subst e;exact (hog' b (by simpa using hb)).2 (by simp [hb'])
   ·subst e
    rcases List.mem_append.1 hb' with hb'|hb'
    ·exact (hog' b (by simpa using hb')).2 (by simp [hb])
    ·exact h2.2.2 b hb b (by simp [hb']) rfl
 refine ⟨hrow1.cells i h0 (by rw [List.getElem?_append_right (by omega),hd1'];simp),hrow1.frozen i,_,hK _ [h'] (xss[i] ++ [y]) og'.toList rfl hin hfr hst hnd',?_,?_⟩
 ·intro b hb
  simp only [List.mem_cons,List.mem_append,Option.mem_toList] at hb
  rcases hb with hb|hb|hb|hb
  ·exact .inl (by simp [hb])
  ·exact .inl (by simp [hb])
  ·rcases a3 with a3|⟨b',a3,hb'⟩
   ·exact .inl (by simp [← a3,hb])
   ·rw [hb] at a3;cases a3;exact .inr hb'
  ·exact .inl (by simp [hb])
 ·refine (ChgF.of_grown a2).mono (G:=g :: (F1 ++ (og.toList ++ F2))) (fun b hb => by simp [Option.mem_toList.1 hb]) |>.trans ((ChgF.of_grown hgr).mono (fun b hb => ?_))
  simp at hb
  simp [hb]
theorem Rd.lit {α:Type} {R:Rep α} {w W:World} {ds:List Value} {xs:List α} {E:TypeId} (h:rdL R (fun b => b < w.heap.size) w ds xs) (e:W.heap = (w.alloc (.cells ds.toArray E)).heap) (hn:xs.length ≤ maxLen) :
  Rd (RS R) W [.slice (some ⟨w.heap.size,0,none⟩) xs.length xs.length] xs:=by
 refine Rd.of_heap (w:=w.alloc (.cells ds.toArray E)) ?_ e
 have hb:Below w.heap.size w (w.alloc (.cells ds.toArray E)):=(Below.refl _ _).alloc (Nat.le_refl _) _
 refine ⟨some ⟨w.heap.size,0,none⟩,xs.length,ds,rfl,Nat.le_refl _,hn,by simp,?_,.inr ⟨w.heap.size,0,rfl,by simp,fun j u hj => ?_⟩⟩
 ·exact (h.frame (fun b h1 _ => hb.block b h1)).mono (fun b h1 h2 => h2)
 ·rw [Nat.zero_add,World.cell?_alloc_at _ _ _ _ rfl]
  simpa using hj
end Go.Proofs.Ytofpjonggpjneaa
namespace Go.Proofs.Ytofpjonggpjneaa
open Go.RowKit
def levGo:Int→List Int→Bool
 | _,[] => true
 | p,x :: xs => decide (1 ≤ x) && (decide (x ≤ p + 1) && levGo x xs)
def levQ:List Int→Bool
 | [] => false
 | x :: xs => decide (x = 0) && (levGo 0 xs && Nat.ble xs.length 7)
theorem levGo_ok:∀ (xs:List Int) (p:Int),levGo p xs = true→levOk p xs
 | [],_,_ => trivial
 | x :: xs,p,h => by
  simp only [levGo,Bool.and_eq_true,decide_eq_true_eq] at h
  exact ⟨h.1,h.2.1,levGo_ok xs x h.2.2⟩
theorem levQ_lev8 {t:List Int} (h:levQ t = true):lev8 t = true:=by
 cases t with
 | nil => cases h
 | cons x xs =>
  simp only [levQ,Bool.and_eq_true,decide_eq_true_eq] at h
  obtain ⟨rfl,h1,h2⟩:=h
  refine lev8_mk ((LevP_iff _).2 ⟨xs,rfl,levGo_ok xs 0 h1⟩) ?_
  have:=Nat.le_of_ble_eq_true h2
  simp only [List.length_cons]
  omega
end Go.Proofs.Ytofpjonggpjneaa
namespace Go.Proofs.Ytofpjonggpjneaa
open Go.RowKit
def parS (t:List Int) (l:Int):Nat→Int
 | 0 => -1
 | k + 1 => if t.getD k 0 = l then (k:Int) else parS t l k
theorem parS_lt (t:List Int) (l:Int):∀ k,-1 ≤ parS t l k∧parS t l k < k
 | 0 => by simp [parS]
 | k + 1 => by
  have:=parS_lt t l k
  unfold parS
  split <;> omega
theorem parS_skip (t:List Int) (l:Int) (q:Nat):∀ k,q ≤ k→(∀ p,q ≤ p→p < k→t.getD p 0 ≠ l)→parS t l k = parS t l q
 | 0,h,_ => by rw [Nat.le_zero.1 h]
 | k + 1,h,hn => by
  by_cases hq:q = k + 1
  ·rw [hq]
  ·have h1:=hn k (by omega) (by omega)
   unfold parS
   rw [if_neg h1,parS_skip t l q k (by omega) (fun p a b => hn p a (by omega))]
   cases q <;> rfl
def parAt (t:List Int) (i:Nat):Int:=parS t (t.getD i 0 - 1) i
def parents (t:List Int):List Int:=(List.range t.length).map (parAt t)
theorem parents_len (t:List Int):(parents t).length = t.length:=by simp [parents]
theorem parents_get (t:List Int) (i:Nat) (h:i < t.length):(parents t)[i]'(by rw [parents_len];exact h) = parAt t i:=by simp [parents]
def nearStep (near:List (List Int)) (i:Nat) (k:Int):List (List Int) :=
 if 0 ≤ k then (near.set i (near.getD i [] ++ [k])).set k.toNat ((near.set i (near.getD i [] ++ [k])).getD k.toNat [] ++ [(i:Int)]) else near
def nearTo (t:List Int):Nat→List (List Int)
 | 0 => List.replicate t.length []
 | i + 1 => nearStep (nearTo t i) i (parAt t i)
def nears (t:List Int):List (List Int):=nearTo t t.length
theorem nearStep_len (near:List (List Int)) (i:Nat) (k:Int):(nearStep near i k).length = near.length:=by
 unfold nearStep
 split <;> simp
theorem nearTo_len (t:List Int):∀ i,(nearTo t i).length = t.length
 | 0 => by simp [nearTo]
 | i + 1 => by rw [nearTo,nearStep_len,nearTo_len t i]
theorem nearStep_each {near:List (List Int)} {i:Nat} {k:Int} {B:Nat} (h:∀ x ∈ near,x.length ≤ B):∀ x ∈ nearStep near i k,x.length ≤ B + 2:=by
 intro x hx
 unfold nearStep at hx
 have h0:∀ (near:List (List Int)) (i B:Nat),(∀ x ∈ near,x.length ≤ B)→(near.getD i []).length ≤ B:=by
  intro near i B h
  by_cases hi:i < near.length
  ·simp only [List.getD_eq_getElem?_getD,List.getElem?_eq_getElem hi,Option.getD_some];exact h _ (List.getElem_mem hi)
  ·simp [List.getD_eq_getElem?_getD,List.getElem?_eq_none (Nat.le_of_not_lt hi)]
 have h1:∀ (near:List (List Int)) (i B:Nat) (z:Int),(∀ x ∈ near,x.length ≤ B)→∀ x ∈ near.set i (near.getD i [] ++ [z]),x.length ≤ B + 1:=by
  intro near i B z h x hx
  rcases List.mem_or_eq_of_mem_set hx with hx|rfl
  ·have:=h x hx;omega
  ·have:=h0 near i B h;simp only [List.length_append,List.length_singleton];omega
 split at hx
 ·exact h1 _ _ _ _ (h1 near i B k h) x hx
 ·have:=h x hx;omega
theorem nearTo_each (t:List Int):∀ i,∀ x ∈ nearTo t i,x.length ≤ 2 * i
 | 0,x,hx => by rw [nearTo,List.mem_replicate] at hx;rw [hx.2];simp
 | i + 1,x,hx => by
  have:=nearStep_each (nearTo_each t i) x hx
  omega
def treeF:Nat→List (List Int)→Int→Int→List Int
 | 0,_,_,_ => [0]
 | f + 1,near,root,from' => canon (rootOn (((near.getD root.toNat []).filter fun x => decide (x ≠ from')).map fun x => treeF f near x root))
def nodeCount (bs:List (List Int)):Nat:=bs.foldl (fun a b => a + b.length) 1
theorem nodeCount_eq (bs:List (List Int)):nodeCount bs = (rootOn bs).length:=by
 rw [rootOn_len]
 have:∀ (bs:List (List Int)) (n:Nat),bs.foldl (fun a b => a + b.length) n = n + sumLen bs:=by
  intro bs
  induction bs with
  | nil => intro n;simp [sumLen]
  | cons b bs ih => intro n;rw [List.foldl_cons,ih];simp [sumLen];omega
 unfold nodeCount
 rw [this];omega
def treeOk:Nat→List (List Int)→Int→Int→Bool
 | 0,_,_,_ => false
 | f + 1,near,root,from' => decide (0 ≤ root) && (decide (root < near.length) && (((near.getD root.toNat []).all fun x => decide (x = from') || treeOk f near x root)))
def treeSm:Nat→List (List Int)→Int→Int→Nat
 | 0,_,_,_ => 1
 | f + 1,near,root,from' => ((near.getD root.toNat []).filter fun x => decide (x ≠ from')).foldl (fun a x => a + treeSm f near x root) 1
theorem treeF_both:∀ (f:Nat) (near:List (List Int)) (root from':Int),LevP (treeF f near root from')∧(treeF f near root from').length = treeSm f near root from'
 | 0,_,_,_ => ⟨by rw [treeF];exact (LevP_iff _).2 ⟨[],rfl,trivial⟩,rfl⟩
 | f + 1,near,root,from' => by
  have hl:LevP (rootOn (((near.getD root.toNat []).filter fun x => decide (x ≠ from')).map fun x => treeF f near x root)):=by
   refine rootOn_lev fun b hb => ?_
   obtain ⟨x,_,rfl⟩:=List.mem_map.1 hb
   exact (treeF_both f near x root).1
  refine ⟨canon_lev hl,?_⟩
  rw [treeF,canon_len hl,← nodeCount_eq]
  unfold nodeCount treeSm
  rw [List.foldl_map]
  congr 1
  funext a x
  rw [(treeF_both f near x root).2]
end Go.Proofs.Ytofpjonggpjneaa
namespace Go.Proofs.Ytofpjonggpjneaa
open Go.RowKit
section
variable {P:Program} {w:World}
theorem ext_core (t ty e:TypeId) (T:ST P t e (.int .i64 0) 1 8) (v:Value) (xs:List Int) (lo M:Nat) (hv:Own (RS RI) lo M w [v] xs) (vx:Value) (ys:List Int) (hy:Rd (RS RI) w [vx] ys)
  (hM:M ≤ w.heap.size) (hlo:lo ≤ M) (hlen:xs.length + ys.length ≤ 1000000000) :
  ∃ v' w',(Builtin.append_ #[t,t] ty #[v,vx]).run P w = .ok v' w'∧Own (RS RI) lo w'.heap.size w' [v'] (xs ++ ys)∧Below lo w w':=by
 obtain ⟨og,ds,F,hrow,hel,hF,hlt⟩:=hv.open
 obtain ⟨rfl,rfl,hb⟩:=ownL_ints hel
 obtain ⟨oa,cap,I⟩:=hy.ints
 obtain rfl:=I.val
 have hm:=I.capLe
 obtain ⟨v',w',og',hr,happ⟩:=run_append_row (P:=P) (w:=w) t ty e (.int .i64 0) 1 8 T v xs.length _ og hrow oa ys.length cap (ys.map (Value.int .i64)) (by simp) (fun h => by have:=I.noneCap h;have:=I.le;omega) (Row.cells_ints I)
  (by intro u hu;obtain ⟨x,_,rfl⟩:=List.mem_map.1 hu;rfl) (by omega) (by unfold maxLen;omega)
 have hlow:=happ.low (B:=lo) (by omega) (fun g hg => (hlt g (by simp [hg])).1)
 refine ⟨v',w',hr,Row.OwnI (og:=og') ?_ ?_ hlow.1,hlow.2⟩
 ·have:=happ.1
  rw [← List.map_append,← List.length_append] at this
  exact this
 ·intro x hx
  rcases List.mem_append.1 hx with hx|hx
  ·exact hb x hx
  ·exact I.bd x hx
theorem step_extI {ops:Array Oper} {o:Oper} {a:Act} {K:Act→World→Prop} {Q:Exit→Act→World→Prop} {E:Prop} (hgd:o.guard = none) (s x:Operand) (t:TypeId)
  (ho:o.op = .call { callee:=.builtin .append,args:=#[s,x],argTypes:=#[t,t] }) (e:TypeId) (T:ST P t e (.int .i64 0) 1 8)
  (v:Value) (xs:List Int) (lo M:Nat) (hs:a.eval s = v) (hv:Own (RS RI) lo M w [v] xs) (vx:Value) (ys:List Int) (hx:a.eval x = vx) (hy:Rd (RS RI) w [vx] ys)
  (hM:M ≤ w.heap.size) (hlo:lo ≤ M) (hlen:xs.length + ys.length ≤ 1000000000) (zs:List Int) (hzs:xs ++ ys = zs)
  (h:∀ oa cap w',Own (RS RI) lo w'.heap.size w' [.slice oa zs.length cap] zs→zs.length ≤ cap→cap ≤ 9223372036854775807→Below lo w w'→K (a.put o.dst (.slice oa zs.length cap)) w') :
  if Region.wanted o (yielded ops a.tmps) = true then Oper.wp P o a w K Q else E:=by
 have hw:Region.wanted o (yielded ops a.tmps) = true:=by simp [Region.wanted,hgd]
 rw [if_pos hw]
 subst hzs
 obtain ⟨v',w',hr,hown,hb⟩:=ext_core (P:=P) t o.type e T v xs lo M hv vx ys hy hM hlo hlen
 obtain ⟨oa,cap,rfl,h1,h2⟩:=hown.val
 unfold Oper.wp execOp
 simp only [ho,resolve,invoke,builtin,Sem.run_bind,Sem.run_pure,Result.andThen_ok,List.map_toArray,List.map_cons,List.map_nil,hs,hx,hr]
 exact h oa cap w' hown h1 h2 hb
end
end Go.Proofs.Ytofpjonggpjneaa
namespace Go.Proofs.Ytofpjonggpjneaa
open Go.RowKit
def RetOC {α:Type} (R:Rep α) (w:World) (x:α) (code:Int):Ending→World→Prop :=
 fun e w' => ∃ u,e = .returned (.tuple #[u,.int .i64 code])∧Own R w.heap.size w'.heap.size w' [u] x∧Below w.heap.size w w'
end Go.Proofs.Ytofpjonggpjneaa

/- Lemmas (8). -/
import Derived.BigQuiet
import Derived.Lib.AppendZeros
import Derived.Test.YtofpjonggpjneaaZB4
import Derived.Test.YtofpjonggpjneaaZB5
import Derived.Test.YtofpjonggpjneaaZB6
import Derived.Test.YtofpjonggpjneaaZB7
set_option linter.unusedSimpArgs false
set_option linter.unusedVariables false
namespace Go.Proofs.Ytofpjonggpjneaa
open Go.RowKit
theorem wrap64_add_mul (x k:Int):wrap64 (x + 18446744073709551616 * k) = wrap64 x:=by
 unfold wrap64
 rw [show x + 18446744073709551616 * k + 9223372036854775808 = x + 9223372036854775808 + 18446744073709551616 * k by omega,Int.add_mul_emod_self_left]
theorem wrap64_ex (x:Int):∃ k,wrap64 x = x + 18446744073709551616 * k:=by
 refine ⟨-((x + 9223372036854775808) / 18446744073709551616),?_⟩
 unfold wrap64
 have:=Int.emod_add_mul_ediv (x + 9223372036854775808) 18446744073709551616
 have e:(18446744073709551616:Int) * -((x + 9223372036854775808) / 18446744073709551616) = -(18446744073709551616 * ((x + 9223372036854775808) / 18446744073709551616)):=by rw [Int.mul_neg]
 omega
theorem wrap64_mul_r (a b:Int):wrap64 (a * wrap64 b) = wrap64 (a * b):=by
 obtain ⟨k,e⟩:=wrap64_ex b
 rw [e,Int.mul_add,Int.mul_left_comm,wrap64_add_mul]
def facW:Nat→Int
 | 0 => 1
 | 1 => 1
 | n + 2 => wrap64 (facW (n + 1) * ((n:Int) + 2))
theorem facW_one (n:Nat) (h:n ≤ 1):facW n = 1:=by
 match n,h with
 | 0,_ => rfl
 | 1,_ => rfl
def densF:Nat→List Int→Int
 | 0,_ => 0
 | f + 1,t => (brs t).foldl (fun o b => wrap64 (o * densF f b)) t.length
def densTo (f:Nat) (t:List Int) (k:Nat):Int:=((brs t).take k).foldl (fun o b => wrap64 (o * densF f b)) t.length
theorem densTo_succ (f:Nat) (t:List Int) (k:Nat) (h:k < (brs t).length):densTo f t (k + 1) = wrap64 (densTo f t k * densF f (brs t)[k]):=by
 unfold densTo
 rw [List.take_succ_eq_append_getElem h,List.foldl_append];rfl
def runTo (bs:List (List Int)):Nat→Int
 | 0 => 0
 | k + 1 => if k = 0 ∨ bs.getD (k - 1) [] = bs.getD k [] then runTo bs k + 1 else 1
theorem runTo_bd (bs:List (List Int)):∀ k,0 ≤ runTo bs k∧runTo bs k ≤ k
 | 0 => by simp [runTo]
 | k + 1 => by
  have:=runTo_bd bs k
  unfold runTo
  split <;> omega
def symTo (s:List Int→Int) (bs:List (List Int)):Nat→Int
 | 0 => 1
 | k + 1 => wrap64 (symTo s bs k * (runTo bs (k + 1) * s (bs.getD k [])))
def symF:Nat→List Int→Int
 | 0,_ => 0
 | f + 1,t => symTo (symF f) (forest (brs (canon t))) (forest (brs (canon t))).length
set_option maxRecDepth 100000 in
set_option maxHeartbeats 1000000 in
theorem c_impl_factorial (n:Nat) (hn:n ≤ 1000000) (w:World):Calls Try.prog 99 #[.int .i64 n] w (RetS w (.int .i64 (facW n))):=by
 go_enter Try.func99,Try.ntmps99
 go_wp2_with fail
 go_loop [3,4] (fun o i => ∃ k:Nat,(k + 1 ≤ n ∨ k = 1 ∨ k = 0 ∨ k = n)∧k ≤ n + 1∧1 ≤ k∧i = .int .i64 (k + 1)∧o = .int .i64 (facW k)) (fun _ i => n + 1 - (intOf i).toNat)
 case atStart => exact ⟨1,by omega,by omega,by omega,rfl,rfl⟩
 case round =>
  obtain ⟨k,hk,hk2,hk3,rfl,rfl⟩:=hrel
  obtain ⟨m,rfl⟩:∃ m,k = m + 1:=⟨k - 1,by omega⟩
  by_cases hlt:m + 2 ≤ n
  ·obtain ⟨q,hq⟩:∃ q,q = facW (m + 1):=⟨_,rfl⟩
   have hnx:facW (m + 2) = wrap64 (q * ((m:Int) + 2)):=by rw [hq];rfl
   rw [← hq]
   have HN:=Lib.hid hnx
   obtain ⟨g,hg⟩:∃ g,g = wrap64 (q * ((m:Int) + 2)):=⟨_,rfl⟩
   have e1:((m + 1:Nat):Int) + 1 = (m:Int) + 2:=by omega
   rw [e1]
   have hw:IntKind.i64.wrap (q * ((m:Int) + 2)) = g:=by rw [hg];exact IntWalk.i64_left _
   rw [← hg] at HN
   have hle:(m:Int) + 2 ≤ (n:Int):=by omega
   have hw2:IntKind.i64.wrap ((m:Int) + 2 + 1) = (m:Int) + 2 + 1:=IntWalk.i64_in _ (by omega)
   clear hnx hq e1
   have hg':wrap64 (q * ((m:Int) + 2)) = g:=hg.symm
   clear hg
   go_wp2_with fail
   go_round
   case rel => exact ⟨m + 2,by omega,by omega,by omega,by go_num,by rw [HN.out]⟩
   case measure => simp [intOf];omega
  ·have hfin:facW (m + 1) = facW n:=by
    by_cases h1:n ≤ 1
    ·rw [facW_one n h1,facW_one (m + 1) (by omega)]
    ·rw [show m + 1 = n by omega]
   have hle:¬ ((m + 1:Nat):Int) + 1 ≤ (n:Int):=by omega
   rw [hfin]
   go_wp2_with fail
   go_ret
   exact ⟨rfl,rfl⟩
set_option maxRecDepth 100000 in
set_option maxHeartbeats 400000 in
theorem c_impl_length (v:Value) (t:List Int) (w:World) (h:Rd (RS RI) w [v] t):Calls Try.prog 100 #[v] w (RetS w (.int .i64 t.length)):=by
 obtain ⟨oa,c1,rfl,m1,m2⟩:=h.val
 unfold maxLen at m2
 go_enter Try.func100,Try.ntmps100
 go_wp2_with fail
 go_ret
 exact ⟨rfl,rfl⟩
set_option maxRecDepth 100000 in
set_option maxHeartbeats 1000000 in
theorem c_impl_density:∀ (n:Nat) (v:Value) (t:List Int) (w:World),Rd (RS RI) w [v] t→LevP t→t.length ≤ n→t.length ≤ 1000000 →
  Calls Try.prog 102 #[v] w (RetV w (.int .i64 (densF n t))):=by
 intro n
 induction n with
 | zero => intro v t w h hl hn h13;have:=hl.pos;omega
 | succ n ih =>
  intro v t w h hl hn h13
  have hb:=c_impl_branchesOf v t w h hl (by omega)
  have hln:=c_impl_length v t w h
  have HL:=Lib.hid hl
  have IH:=Lib.hid ih
  have hfew:=brs_few hl
  clear h hl ih
  go_enter Try.func102,Try.ntmps102
  go_wp2_with (first|(go_at_call 100;refine hln.mono ?_;rintro e w1 ⟨rfl,rfl⟩)|(go_at_call 127;refine hb.mono ?_;rintro e w1 ⟨u,rfl,o1,b1⟩;obtain ⟨oa,cap,rfl,l1,l2⟩:=o1.val))
  have hsz1:=b1.size
  obtain ⟨oa1,cap1,L⟩:=o1.rd.lists
  have hval:=L.val
  simp only [Value.slice.injEq,true_and] at hval
  obtain ⟨rfl,rfl⟩:=hval
  have HLs:=Lib.hid L
  clear L o1 hb hln
  go_loopw [3,11] (fun o i wr => ∃ k:Nat,k ≤ (brs t).length∧i = .int .i64 k∧o = .int .i64 (densTo n t k)∧Below w1.heap.size w1 wr) (fun _ i _ => (brs t).length - (intOf i).toNat)
  case atStart => exact ⟨0,Nat.zero_le _,rfl,by simp [densTo],Below.refl _ _⟩
  case round =>
   obtain ⟨k,hk,rfl,rfl,hbel⟩:=hrel
   by_cases hlt:k < (brs t).length
   ·obtain ⟨b,off,rfl,hb,hc⟩:=HLs.out.get hlt
    obtain ⟨oi,ci,g1,hrd,q1,q2⟩:=hc k hlt
    have g2:wr.cell? ⟨b,off + k,none⟩ = some (.slice oi (brs t)[k].length ci):=(hbel.cell (p:=⟨b,off + k,none⟩) hb).trans g1
    have hmem:=List.getElem_mem hlt
    have hshort:=brs_short HL.out _ hmem
    have hc2:=IH.out (.slice oi (brs t)[k].length ci) (brs t)[k] wr (hrd.below hbel (Nat.le_refl _)) (brs_lev HL.out _ hmem) (by omega) (by omega)
    have hnx:=densTo_succ n t k hlt
    obtain ⟨q,hq⟩:∃ q,q = densTo n t k:=⟨_,rfl⟩
    obtain ⟨y,hy⟩:∃ y,y = densF n (brs t)[k]:=⟨_,rfl⟩
    obtain ⟨xl,hxl⟩:∃ xl,xl = (brs t)[k].length:=⟨_,rfl⟩
    rw [← hq,← hy] at hnx
    rw [← hy,← hxl] at hc2
    rw [← hxl] at g2 q1
    rw [← hq]
    obtain ⟨g,hg⟩:∃ g,wrap64 (q * y) = g:=⟨_,rfl⟩
    have hw:IntKind.i64.wrap (q * y) = g:=(IntWalk.i64_left _).trans hg
    rw [hg] at hnx
    have HN:=Lib.hid hnx
    clear hc g1 hrd hnx hq hy hxl hmem
    go_wp2_with (go_at_call 102;refine hc2.mono ?_;rintro e w2 ⟨rfl,b2⟩)
    have hb2:Below w1.heap.size w1 w2:=hbel.trans (b2.mono hbel.size)
    clear hc2
    go_wp2_with fail
    go_roundw
    case rel => exact ⟨k + 1,by omega,by go_num,by simp only [HN.out],hb2⟩
    case measure => simp [intOf];omega
   ·have hfin:densTo n t k = densF (n + 1) t:=by
     show densTo n t k = (brs t).foldl (fun o b => wrap64 (o * densF n b)) t.length
     unfold densTo
     rw [List.take_of_length_le (by omega)]
    rw [hfin]
    go_wp2_with fail
    go_ret
    exact ⟨rfl,b1.trans (hbel.mono hsz1)⟩
end Go.Proofs.Ytofpjonggpjneaa
namespace Go.Proofs.Ytofpjonggpjneaa
open Go.RowKit
theorem a_areLevels (xs:List (List Int)):AFn Try.prog 106 [eLL xs] (· = [.val (.bool (xs.all lev8))]):=afn_LLL_s (v:=.bool _) (enters_of Try.func106 rfl rfl) (fun _ _ => rdV_bool.2 rfl) (fun u w h => c_impl_areLevels u xs w h)
end Go.Proofs.Ytofpjonggpjneaa
namespace Go.Proofs.Ytofpjonggpjneaa
def canT (t:List Int):Bool:=lev8 t && decide (canon t = t)
end Go.Proofs.Ytofpjonggpjneaa
namespace Go.Proofs.Ytofpjonggpjneaa
open Go.RowKit
end Go.Proofs.Ytofpjonggpjneaa
namespace Go.Proofs.Ytofpjonggpjneaa
open Go.RowKit
theorem a_impl_IsTree (t:List Int):AFn Try.prog 24 [eL t] (· = [.val (.bool (canT t))]):=by
 have h1:=a_impl_IsLevels t
 unfold canT
 cases h8:lev8 t
 ·rw [h8] at h1
  rw [Bool.false_and]
  refine AFn.of_runs (cfg_ok 11) Try.func24 rfl rfl rfl (by simp only [List.length_cons,List.length_nil];decide) ?_
  have hres:Try.f24.results.toList = [.tmp 2]:=rfl
  have hrts:Try.f24.resultTypes.toList = [4]:=rfl
  simp only [argRegs,argAV1,eL,eI,eLL,eB,Nat.zero_add,Nat.reduceAdd]
  intro M
  refine RunK.of ?_
  repeat' (first|with_reducible (first|refine Q1 ?_|refine Q2 ?_|refine Q3 ?_|refine Q4 ?_|refine Q5 ?_|refine Q6 ?_|refine Q7 ?_|refine Q8 ?_|refine Q9 ?_|refine Qa ?_|refine Qb ?_|refine Qc ?_|refine Qd ?_|refine Qe ?_|refine Qf ?_)|((with_reducible refine Qo ?_ ?_);focus rfl)|((with_reducible first|refine QT 3 (l:=?_) ?_ ?_|refine QF 3 (l:=?_) ?_ ?_);rotate_left 1;focus (simp only [Zu,Nat.reduceSub,Nat.reduceBEq];with_reducible rfl))|((with_reducible first|refine QS (cfg_ok 11) (Tab.none.at' 49 h1) (s':=?_) ?_ ?_|refine QC (b:=?_) ?_ ?_);rotate_left 1;focus ((with_reducible refine QW ?_);simp only [Zg,seval,if_true,if_false,reduceCtorEq,Nat.reduceEqDiff,eL];with_reducible rfl)))
  (refine Ends.mk (by simp) (rs:=?_) (ks:=?_) hres hrts ?_ ?_ ?_;rotate_left 2;(focus (simp only [Ze,Zg,seval,if_true,if_false,reduceCtorEq,Nat.reduceEqDiff];with_reducible rfl));(focus simp);focus (first|with_reducible rfl|(simp only [Zv];done)))
 ·rw [h8] at h1
  rw [Bool.true_and]
  have h2:=a_canonical t (lev8_lev h8) (lev8_len h8)
  have h3:=a_slicesEqual (canon t) t
  refine AFn.of_runs (cfg_ok 11) Try.func24 rfl rfl rfl (by simp only [List.length_cons,List.length_nil];decide) ?_
  have hres:Try.f24.results.toList = [.tmp 2]:=rfl
  have hrts:Try.f24.resultTypes.toList = [4]:=rfl
  simp only [argRegs,argAV1,eL,eI,eLL,eB,Nat.zero_add,Nat.reduceAdd]
  intro M
  refine RunK.of ?_
  repeat' (first|with_reducible (first|refine Q1 ?_|refine Q2 ?_|refine Q3 ?_|refine Q4 ?_|refine Q5 ?_|refine Q6 ?_|refine Q7 ?_|refine Q8 ?_|refine Q9 ?_|refine Qa ?_|refine Qb ?_|refine Qc ?_|refine Qd ?_|refine Qe ?_|refine Qf ?_)|((with_reducible refine Qo ?_ ?_);focus rfl)|((with_reducible first|refine QT 3 (l:=?_) ?_ ?_|refine QF 3 (l:=?_) ?_ ?_);rotate_left 1;focus (simp only [Zu,Nat.reduceSub,Nat.reduceBEq];with_reducible rfl))|((with_reducible first|refine QS (cfg_ok 11) (((Tab.none.at' 49 h1).at' 105 h2).at' 104 h3) (s':=?_) ?_ ?_|refine QC (b:=?_) ?_ ?_);rotate_left 1;focus ((with_reducible refine QW ?_);simp only [Zg,seval,if_true,if_false,reduceCtorEq,Nat.reduceEqDiff,eL];with_reducible rfl)))
  (refine Ends.mk (by simp) (rs:=?_) (ks:=?_) hres hrts ?_ ?_ ?_;rotate_left 2;(focus (simp only [Ze,Zg,seval,if_true,if_false,reduceCtorEq,Nat.reduceEqDiff];with_reducible rfl));(focus simp);focus (first|with_reducible rfl|(simp only [Zv];done)))
end Go.Proofs.Ytofpjonggpjneaa
namespace Go.Proofs.Ytofpjonggpjneaa
open Go.RowKit
def trsOf (n:Int):List (List Int) × Int:=if inR n 1 8 = true then (treesN n.toNat,0) else ([],2)
theorem inR_mem {n:Int} (h:inR n 1 8 = true):∃ k:Nat,n = k∧k ∈ [1,2,3,4,5,6,7,8]:=by
 unfold inR at h
 simp only [Bool.and_eq_true,decide_eq_true_eq] at h
 refine ⟨n.toNat,by omega,?_⟩
 have h1:1 ≤ n.toNat:=by omega
 have h2:n.toNat ≤ 8:=by omega
 generalize n.toNat = k at h1 h2
 match k,h1,h2 with
 | 1,_,_|2,_,_|3,_,_|4,_,_|5,_,_|6,_,_|7,_,_|8,_,_ => simp
theorem a_impl_TreesOf (n:Int):AFn Try.prog 19 [eI n] (· = [.own 1 ((trsOf n).1.map eL) true,.val (.int (trsOf n).2)]):=by
 have hl:=a_impl_inRange n 1 8
 unfold trsOf
 by_cases h:inR n 1 8 = true
 ·obtain ⟨k,rfl,hk⟩:=inR_mem h
  have hc:=a_treesOf k hk
  rw [h] at hl
  rw [if_pos h,Int.toNat_natCast]
  simp only [eI] at hl hc
  refine AFn.of_runs (cfg_ok 9) Try.func19 rfl rfl rfl (by simp only [List.length_cons,List.length_nil];decide) ?_
  have hres:Try.f19.results.toList = [.tmp 2,.tmp 3]:=rfl
  have hrts:Try.f19.resultTypes.toList = [30,2]:=rfl
  simp only [argRegs,argAV1,eL,eI,eLL,eB,Nat.zero_add,Nat.reduceAdd]
  intro M
  refine RunK.of ?_
  repeat' (first|with_reducible (first|refine Q1 ?_|refine Q2 ?_|refine Q3 ?_|refine Q4 ?_|refine Q5 ?_|refine Q6 ?_|refine Q7 ?_|refine Q8 ?_|refine Q9 ?_|refine Qa ?_|refine Qb ?_|refine Qc ?_|refine Qd ?_|refine Qe ?_|refine Qf ?_)|((with_reducible refine Qo ?_ ?_);focus rfl)|((with_reducible first|refine QT 4 (l:=?_) ?_ ?_|refine QF 4 (l:=?_) ?_ ?_);rotate_left 1;focus (simp only [Zu,Nat.reduceSub,Nat.reduceBEq];with_reducible rfl))|((with_reducible first|refine QS (cfg_ok 9) ((Tab.none.at' 95 hl).at' 96 hc) (s':=?_) ?_ ?_|refine QC (b:=?_) ?_ ?_);rotate_left 1;focus ((with_reducible refine QW ?_);simp only [Zg,seval,if_true,if_false,reduceCtorEq,Nat.reduceEqDiff,List.length_map];with_reducible rfl)))
  (refine Ends.mk (by simp) (rs:=?_) (ks:=?_) hres hrts ?_ ?_ ?_;rotate_left 2;(focus (simp only [Ze,Zg,seval,if_true,if_false,reduceCtorEq,Nat.reduceEqDiff];with_reducible rfl));(focus simp);focus (first|with_reducible rfl|(simp only [Zv];done)))
 ·rw [if_neg h]
  rw [show inR n 1 8 = false by simpa using h] at hl
  simp only [eI] at hl
  refine AFn.of_runs (cfg_ok 9) Try.func19 rfl rfl rfl (by simp only [List.length_cons,List.length_nil];decide) ?_
  have hres:Try.f19.results.toList = [.tmp 2,.tmp 3]:=rfl
  have hrts:Try.f19.resultTypes.toList = [30,2]:=rfl
  simp only [argRegs,argAV1,eL,eI,eLL,eB,Nat.zero_add,Nat.reduceAdd]
  intro M
  refine RunK.of ?_
  repeat' (first|with_reducible (first|refine Q1 ?_|refine Q2 ?_|refine Q3 ?_|refine Q4 ?_|refine Q5 ?_|refine Q6 ?_|refine Q7 ?_|refine Q8 ?_|refine Q9 ?_|refine Qa ?_|refine Qb ?_|refine Qc ?_|refine Qd ?_|refine Qe ?_|refine Qf ?_)|((with_reducible refine Qo ?_ ?_);focus rfl)|((with_reducible first|refine QT 4 (l:=?_) ?_ ?_|refine QF 4 (l:=?_) ?_ ?_);rotate_left 1;focus (simp only [Zu,Nat.reduceSub,Nat.reduceBEq];with_reducible rfl))|((with_reducible first|refine QS (cfg_ok 9) (Tab.none.at' 95 hl) (s':=?_) ?_ ?_|refine QC (b:=?_) ?_ ?_);rotate_left 1;focus ((with_reducible refine QW ?_);simp only [Zg,seval,if_true,if_false,reduceCtorEq,Nat.reduceEqDiff];with_reducible rfl)))
  (refine Ends.mk (by simp) (rs:=?_) (ks:=?_) hres hrts ?_ ?_ ?_;rotate_left 2;(focus (simp only [Ze,Zg,seval,if_true,if_false,reduceCtorEq,Nat.reduceEqDiff];with_reducible rfl));(focus simp);focus (first|with_reducible rfl|(simp only [Zv];done)))
theorem a_spec_TreesOf (n:Int):AFn Try.prog 20 [eI n] (· = [.own 1 ((trsOf n).1.map eL) (!inR n 1 8),.val (.int (trsOf n).2)]):=by
 have hl:=a_spec_l01In n 1 8
 unfold trsOf
 by_cases h:inR n 1 8 = true
 ·obtain ⟨k,rfl,hk⟩:=inR_mem h
  have hc:=a_l03Trees k hk
  rw [h] at hl
  rw [if_pos h,Int.toNat_natCast,h,show (!true) = false from rfl]
  simp only [eI] at hl hc
  refine AFn.of_runs (cfg_ok 9) Try.func20 rfl rfl rfl (by simp only [List.length_cons,List.length_nil];decide) ?_
  have hres:Try.f20.results.toList = [.tmp 2,.tmp 3]:=rfl
  have hrts:Try.f20.resultTypes.toList = [30,2]:=rfl
  simp only [argRegs,argAV1,eL,eI,eLL,eB,Nat.zero_add,Nat.reduceAdd]
  intro M
  refine RunK.of ?_
  repeat' (first|with_reducible (first|refine Q1 ?_|refine Q2 ?_|refine Q3 ?_|refine Q4 ?_|refine Q5 ?_|refine Q6 ?_|refine Q7 ?_|refine Q8 ?_|refine Q9 ?_|refine Qa ?_|refine Qb ?_|refine Qc ?_|refine Qd ?_|refine Qe ?_|refine Qf ?_)|((with_reducible refine Qo ?_ ?_);focus rfl)|((with_reducible first|refine QT 4 (l:=?_) ?_ ?_|refine QF 4 (l:=?_) ?_ ?_);rotate_left 1;focus (simp only [Zu,Nat.reduceSub,Nat.reduceBEq];with_reducible rfl))|((with_reducible first|refine QS (cfg_ok 9) ((Tab.none.at' 97 hl).at' 98 hc) (s':=?_) ?_ ?_|refine QC (b:=?_) ?_ ?_);rotate_left 1;focus ((with_reducible refine QW ?_);simp only [Zg,seval,if_true,if_false,reduceCtorEq,Nat.reduceEqDiff,List.length_map];with_reducible rfl)))
  (refine Ends.mk (by simp) (rs:=?_) (ks:=?_) hres hrts ?_ ?_ ?_;rotate_left 2;(focus (simp only [Ze,Zg,seval,if_true,if_false,reduceCtorEq,Nat.reduceEqDiff];with_reducible rfl));(focus simp);focus (first|with_reducible rfl|(simp only [Zv];done)))
 ·have hf:inR n 1 8 = false:=by simpa using h
  rw [if_neg h,hf,show (!false) = true from rfl]
  rw [hf] at hl
  simp only [eI] at hl
  refine AFn.of_runs (cfg_ok 9) Try.func20 rfl rfl rfl (by simp only [List.length_cons,List.length_nil];decide) ?_
  have hres:Try.f20.results.toList = [.tmp 2,.tmp 3]:=rfl
  have hrts:Try.f20.resultTypes.toList = [30,2]:=rfl
  simp only [argRegs,argAV1,eL,eI,eLL,eB,Nat.zero_add,Nat.reduceAdd]
  intro M
  refine RunK.of ?_
  repeat' (first|with_reducible (first|refine Q1 ?_|refine Q2 ?_|refine Q3 ?_|refine Q4 ?_|refine Q5 ?_|refine Q6 ?_|refine Q7 ?_|refine Q8 ?_|refine Q9 ?_|refine Qa ?_|refine Qb ?_|refine Qc ?_|refine Qd ?_|refine Qe ?_|refine Qf ?_)|((with_reducible refine Qo ?_ ?_);focus rfl)|((with_reducible first|refine QT 4 (l:=?_) ?_ ?_|refine QF 4 (l:=?_) ?_ ?_);rotate_left 1;focus (simp only [Zu,Nat.reduceSub,Nat.reduceBEq];with_reducible rfl))|((with_reducible first|refine QS (cfg_ok 9) (Tab.none.at' 97 hl) (s':=?_) ?_ ?_|refine QC (b:=?_) ?_ ?_);rotate_left 1;focus ((with_reducible refine QW ?_);simp only [Zg,seval,if_true,if_false,reduceCtorEq,Nat.reduceEqDiff];with_reducible rfl)))
  (refine Ends.mk (by simp) (rs:=?_) (ks:=?_) hres hrts ?_ ?_ ?_;rotate_left 2;(focus (simp only [Ze,Zg,seval,if_true,if_false,reduceCtorEq,Nat.reduceEqDiff];with_reducible rfl));(focus simp);focus (first|with_reducible rfl|(simp only [Zv];done)))
def sgI (c:Int):Int:=if c < 0 then -1 else if 0 < c then 1 else 0
def sgT (s t:List Int):Int × Int:=if lev8 s = true∧lev8 t = true then (sgI (cmpT (canon s) (canon t)),0) else (0,1)
noncomputable def TCan:Tab Try.prog:=Tab.none.add 105 (tab1 codL fun t => if lev8 t = true then some [.own 1 ((canon t).map eI) true] else none) (tab1_ok fun t rs h => by split at h;cases h;exact a_canonical t (lev8_lev ‹_›) (lev8_len ‹_›);cases h)
theorem a_CompareTrees (s t:List Int):AFn Try.prog 25 [eL s,eL t] (· = [.val (.int (sgT s t).1),.val (.int (sgT s t).2)]):=by
 have ha:=a_areLevels [s,t]
 simp only [eLL,eL,List.map_cons,List.map_nil,List.all_cons,List.all_nil,Bool.and_true] at ha
 unfold sgT
 by_cases h:lev8 s = true∧lev8 t = true
 ·have hs:=h.1
  have ht:=h.2
  rw [hs,ht] at ha
  have hcm:=a_compareTrees (canon s) (canon t)
  simp only [eL] at hcm
  rw [if_pos h]
  obtain ⟨c,hc⟩:∃ c,c = cmpT (canon s) (canon t):=⟨_,rfl⟩
  rw [← hc] at hcm ⊢
  unfold sgI
  refine AFn.of_runs (cfg_ok 23) Try.func25 rfl rfl rfl (by simp only [List.length_cons,List.length_nil];decide) ?_
  have hres:Try.f25.results.toList = [.tmp 4,.tmp 5]:=rfl
  have hrts:Try.f25.resultTypes.toList = [2,2]:=rfl
  simp only [argRegs,argAV1,eL,eI,eLL,eB,Nat.zero_add,Nat.reduceAdd]
  intro M
  refine RunK.of ?_
  by_cases c0:c < 0
  ·have i1:(c < 0) = True:=eq_true c0
   rw [if_pos c0]
   repeat' (first|with_reducible (first|refine Q1 ?_|refine Q2 ?_|refine Q3 ?_|refine Q4 ?_|refine Q5 ?_|refine Q6 ?_|refine Q7 ?_|refine Q8 ?_|refine Q9 ?_|refine Qa ?_|refine Qb ?_|refine Qc ?_|refine Qd ?_|refine Qe ?_|refine Qf ?_)|((with_reducible refine Qo ?_ ?_);focus rfl)|((with_reducible first|refine QT 7 (l:=?_) ?_ ?_|refine QF 7 (l:=?_) ?_ ?_);rotate_left 1;focus (simp only [Zu,Nat.reduceSub,Nat.reduceBEq];with_reducible rfl))|((with_reducible first|refine QS (cfg_ok 23) ((TCan.at' 106 ha).at' 107 hcm) (s':=?_) ?_ ?_|refine QC (b:=?_) ?_ ?_);rotate_left 1;focus ((with_reducible refine QW ?_);simp only [Zg,seval,if_true,if_false,reduceCtorEq,Nat.reduceEqDiff,TCan,i1,hs,ht];with_reducible rfl)))
   (refine Ends.mk (by simp) (rs:=?_) (ks:=?_) hres hrts ?_ ?_ ?_;rotate_left 2;(focus (simp only [Ze,Zg,seval,if_true,if_false,reduceCtorEq,Nat.reduceEqDiff];with_reducible rfl));(focus simp);focus (first|with_reducible rfl|(simp only [Zv];done)))
  ·have i1:(c < 0) = False:=eq_false c0
   rw [if_neg c0]
   by_cases c1:0 < c
   ·have i2:(c > 0) = True:=eq_true c1
    rw [if_pos c1]
    repeat' (first|with_reducible (first|refine Q1 ?_|refine Q2 ?_|refine Q3 ?_|refine Q4 ?_|refine Q5 ?_|refine Q6 ?_|refine Q7 ?_|refine Q8 ?_|refine Q9 ?_|refine Qa ?_|refine Qb ?_|refine Qc ?_|refine Qd ?_|refine Qe ?_|refine Qf ?_)|((with_reducible refine Qo ?_ ?_);focus rfl)|((with_reducible first|refine QT 7 (l:=?_) ?_ ?_|refine QF 7 (l:=?_) ?_ ?_);rotate_left 1;focus (simp only [Zu,Nat.reduceSub,Nat.reduceBEq];with_reducible rfl))|((with_reducible first|refine QS (cfg_ok 23) ((TCan.at' 106 ha).at' 107 hcm) (s':=?_) ?_ ?_|refine QC (b:=?_) ?_ ?_);rotate_left 1;focus ((with_reducible refine QW ?_);simp only [Zg,seval,if_true,if_false,reduceCtorEq,Nat.reduceEqDiff,TCan,i1,i2,hs,ht];with_reducible rfl)))
    (refine Ends.mk (by simp) (rs:=?_) (ks:=?_) hres hrts ?_ ?_ ?_;rotate_left 2;(focus (simp only [Ze,Zg,seval,if_true,if_false,reduceCtorEq,Nat.reduceEqDiff];with_reducible rfl));(focus simp);focus (first|with_reducible rfl|(simp only [Zv];done)))
   ·have i2:(c > 0) = False:=eq_false c1
    rw [if_neg c1]
    repeat' (first|with_reducible (first|refine Q1 ?_|refine Q2 ?_|refine Q3 ?_|refine Q4 ?_|refine Q5 ?_|refine Q6 ?_|refine Q7 ?_|refine Q8 ?_|refine Q9 ?_|refine Qa ?_|refine Qb ?_|refine Qc ?_|refine Qd ?_|refine Qe ?_|refine Qf ?_)|((with_reducible refine Qo ?_ ?_);focus rfl)|((with_reducible first|refine QT 7 (l:=?_) ?_ ?_|refine QF 7 (l:=?_) ?_ ?_);rotate_left 1;focus (simp only [Zu,Nat.reduceSub,Nat.reduceBEq];with_reducible rfl))|((with_reducible first|refine QS (cfg_ok 23) ((TCan.at' 106 ha).at' 107 hcm) (s':=?_) ?_ ?_|refine QC (b:=?_) ?_ ?_);rotate_left 1;focus ((with_reducible refine QW ?_);simp only [Zg,seval,if_true,if_false,reduceCtorEq,Nat.reduceEqDiff,TCan,i1,i2,hs,ht];with_reducible rfl)))
    (refine Ends.mk (by simp) (rs:=?_) (ks:=?_) hres hrts ?_ ?_ ?_;rotate_left 2;(focus (simp only [Ze,Zg,seval,if_true,if_false,reduceCtorEq,Nat.reduceEqDiff];with_reducible rfl));(focus simp);focus (first|with_reducible rfl|(simp only [Zv];done)))
 ·rw [if_neg h]
  have hb:(lev8 s && lev8 t) = false:=by
   rw [Bool.eq_false_iff]
   intro e
   rw [Bool.and_eq_true] at e
   exact h e
  rw [hb] at ha
  refine AFn.of_runs (cfg_ok 23) Try.func25 rfl rfl rfl (by simp only [List.length_cons,List.length_nil];decide) ?_
  have hres:Try.f25.results.toList = [.tmp 4,.tmp 5]:=rfl
  have hrts:Try.f25.resultTypes.toList = [2,2]:=rfl
  simp only [argRegs,argAV1,eL,eI,eLL,eB,Nat.zero_add,Nat.reduceAdd]
  intro M
  refine RunK.of ?_
  repeat' (first|with_reducible (first|refine Q1 ?_|refine Q2 ?_|refine Q3 ?_|refine Q4 ?_|refine Q5 ?_|refine Q6 ?_|refine Q7 ?_|refine Q8 ?_|refine Q9 ?_|refine Qa ?_|refine Qb ?_|refine Qc ?_|refine Qd ?_|refine Qe ?_|refine Qf ?_)|((with_reducible refine Qo ?_ ?_);focus rfl)|((with_reducible first|refine QT 7 (l:=?_) ?_ ?_|refine QF 7 (l:=?_) ?_ ?_);rotate_left 1;focus (simp only [Zu,Nat.reduceSub,Nat.reduceBEq];with_reducible rfl))|((with_reducible first|refine QS (cfg_ok 23) (Tab.none.at' 106 ha) (s':=?_) ?_ ?_|refine QC (b:=?_) ?_ ?_);rotate_left 1;focus ((with_reducible refine QW ?_);simp only [Zg,seval,if_true,if_false,reduceCtorEq,Nat.reduceEqDiff];with_reducible rfl)))
  (refine Ends.mk (by simp) (rs:=?_) (ks:=?_) hres hrts ?_ ?_ ?_;rotate_left 2;(focus (simp only [Ze,Zg,seval,if_true,if_false,reduceCtorEq,Nat.reduceEqDiff];with_reducible rfl));(focus simp);focus (first|with_reducible rfl|(simp only [Zv];done)))
end Go.Proofs.Ytofpjonggpjneaa
namespace Go.Proofs.Ytofpjonggpjneaa
open Go.RowKit
theorem forest_len (bs:List (List Int)):(forest bs).length = bs.length:=sortC_length bs
theorem forest_mem {bs:List (List Int)} {b:List Int}:b ∈ forest bs ↔ b ∈ bs:=sortC_mem
theorem sym_lev {t:List Int} (h:LevP t):∀ b ∈ forest (brs (canon t)),LevP b:=fun b hb => brs_lev (canon_lev h) b (forest_mem.1 hb)
theorem sym_short {t:List Int} (h:LevP t):∀ b ∈ forest (brs (canon t)),b.length + 1 ≤ t.length:=fun b hb => by
 have:=brs_short (canon_lev h) b (forest_mem.1 hb)
 rwa [canon_len h] at this
theorem sym_few {t:List Int} (h:LevP t):(forest (brs (canon t))).length + 1 ≤ t.length:=by
 rw [forest_len]
 have:=brs_few (canon_lev h)
 rwa [canon_len h] at this
theorem runTo_same {bs:List (List Int)} {k:Nat} (h:k < bs.length) (he:k = 0 ∨ ∃ h0:k - 1 < bs.length,bs[k - 1] = bs[k]):runTo bs (k + 1) = runTo bs k + 1:=by
 have e:runTo bs (k + 1) = if k = 0 ∨ bs.getD (k - 1) [] = bs.getD k [] then runTo bs k + 1 else 1:=rfl
 rw [e,if_pos]
 rcases he with he|⟨h0,he⟩
 ·exact .inl he
 ·right
  rw [List.getD_eq_getElem?_getD,List.getD_eq_getElem?_getD,List.getElem?_eq_getElem h0,List.getElem?_eq_getElem h]
  exact he
theorem runTo_new {bs:List (List Int)} {k:Nat} (h:k < bs.length) (h0:0 < k) (he:bs[k - 1] ≠ bs[k]):runTo bs (k + 1) = 1:=by
 have e:runTo bs (k + 1) = if k = 0 ∨ bs.getD (k - 1) [] = bs.getD k [] then runTo bs k + 1 else 1:=rfl
 rw [e,if_neg]
 rintro (h1|h1)
 ·omega
 ·rw [List.getD_eq_getElem?_getD,List.getD_eq_getElem?_getD,List.getElem?_eq_getElem (by omega),List.getElem?_eq_getElem h] at h1
  exact he h1
theorem symTo_succ (s:List Int→Int) (bs:List (List Int)) (k:Nat) (h:k < bs.length):symTo s bs (k + 1) = wrap64 (symTo s bs k * (runTo bs (k + 1) * s bs[k])):=by
 rw [symTo,List.getD_eq_getElem?_getD,List.getElem?_eq_getElem h];rfl
set_option maxRecDepth 100000 in
set_option maxHeartbeats 2000000 in
theorem c_impl_symmetry:∀ (n:Nat) (v:Value) (t:List Int) (w:World),Rd (RS RI) w [v] t→LevP t→t.length ≤ n→t.length ≤ 13 →
  Calls Try.prog 101 #[v] w (RetV w (.int .i64 (symF n t))):=by
 intro n
 induction n with
 | zero => intro v t w h hl hn h13;have:=hl.pos;omega
 | succ n ih =>
  intro v t w h hl hn h13
  have hca:=c_impl_canonical 13 v t w h hl h13 h13
  have HCB:Hid (∀ (w':World) (u:Value),Rd (RS RI) w' [u] (canon t)→Calls Try.prog 127 #[u] w' (RetO (RS (RS RI)) w' (brs (canon t)))):=Lib.hid (fun w' u hr => c_impl_branchesOf u (canon t) w' hr (canon_lev hl) (by rw [canon_len hl];omega))
  have HCF:Hid (∀ (w':World) (u:Value),Rd (RS (RS RI)) w' [u] (brs (canon t))→Calls Try.prog 126 #[u] w' (RetO (RS (RS RI)) w' (forest (brs (canon t))))):=Lib.hid (fun w' u hr => c_impl_forestOf u _ w' hr (by have:=sym_few hl;rw [forest_len] at this;omega) (fun b hb => by have:=sym_short hl b (forest_mem.2 hb);omega))
  have HL:=Lib.hid hl
  have IH:=Lib.hid ih
  have hfew:=sym_few hl
  obtain ⟨bs,hbs⟩:∃ bs,bs = forest (brs (canon t)):=⟨_,rfl⟩
  rw [← hbs] at hfew HCF
  have HB:=Lib.hid hbs
  clear h hl ih hbs
  go_enter Try.func101,Try.ntmps101
  go_wp2_with (first
   | (go_at_call 105;refine hca.mono ?_;rintro e w1 ⟨u1,rfl,o1,b1⟩)
   | (go_at_call 127;refine (HCB.out _ _ o1.rd).mono ?_;rintro e w2 ⟨u2,rfl,o2,b2⟩)
   | (go_at_call 126;refine (HCF.out _ _ o2.rd).mono ?_;rintro e w3 ⟨u3,rfl,o3,b3⟩;obtain ⟨oa,cap,rfl,l1,l2⟩:=o3.val))
  have hsz1:=b1.size
  have hsz2:=b2.size
  have hb3:Below w.heap.size w w3:=(b1.trans (b2.mono hsz1)).trans (b3.mono (Nat.le_trans hsz1 hsz2))
  have hsz3:=hb3.size
  obtain ⟨oa1,cap1,L⟩:=o3.rd.lists
  have hval:=L.val
  simp only [Value.slice.injEq,true_and] at hval
  obtain ⟨rfl,rfl⟩:=hval
  have HLs:=Lib.hid L
  clear L o1 o2 o3 b1 b2 b3 hca HCB HCF
  go_loopw [3,5,14] (fun o s i wr => ∃ k:Nat,k ≤ bs.length∧i = .int .i64 k∧s = .int .i64 (runTo bs k)∧o = .int .i64 (symTo (symF n) bs k)∧Below w3.heap.size w3 wr) (fun _ _ i _ => bs.length - (intOf i).toNat)
  case atStart => exact ⟨0,Nat.zero_le _,rfl,rfl,rfl,Below.refl _ _⟩
  case round =>
   obtain ⟨k,hk,rfl,rfl,rfl,hbel⟩:=hrel
   by_cases hlt:k < bs.length
   ·obtain ⟨b,off,rfl,hb,hc⟩:=HLs.out.get hlt
    obtain ⟨oi,ci,g1,hrd,q1,q2⟩:=hc k hlt
    have g2:wr.cell? ⟨b,off + k,none⟩ = some (.slice oi bs[k].length ci):=(hbel.cell (p:=⟨b,off + k,none⟩) hb).trans g1
    have hmem:bs[k] ∈ forest (brs (canon t)):=by rw [← HB.out];exact List.getElem_mem hlt
    have hshort:=sym_short HL.out _ hmem
    have hrec:Hid (∀ w',Below w3.heap.size w3 w'→Calls Try.prog 101 #[.slice oi bs[k].length ci] w' (RetV w' (.int .i64 (symF n bs[k])))):=Lib.hid (fun w' hb' => IH.out _ bs[k] w' (hrd.below hb' (Nat.le_refl _)) (sym_lev HL.out _ hmem) (by omega) (by omega))
    have hnx:=symTo_succ (symF n) bs k hlt
    obtain ⟨r1,r2⟩:=runTo_bd bs k
    obtain ⟨q,hq⟩:∃ q,q = symTo (symF n) bs k:=⟨_,rfl⟩
    obtain ⟨y,hy⟩:∃ y,y = symF n bs[k]:=⟨_,rfl⟩
    rw [← hq,← hy] at hnx
    rw [← hy] at hrec
    have hnew:∀ s,runTo bs (k + 1) = s→Hid (symTo (symF n) bs (k + 1) = wrap64 (q * wrap64 (s * y))):=fun s e => Lib.hid (by rw [hnx,e,wrap64_mul_r])
    have HNEW:=Lib.hid hnew
    have hrs:=runTo_bd bs (k + 1)
    have hk0:k = 0→runTo bs (k + 1) = runTo bs k + 1:=fun e => runTo_same hlt (.inl e)
    have HK0:=Lib.hid hk0
    obtain ⟨s0,hs0⟩:∃ s0,s0 = runTo bs k:=⟨_,rfl⟩
    rw [← hs0] at r1 r2 HK0
    rw [← hq,← hs0]
    have hw1:IntKind.i64.wrap (s0 + 1) = s0 + 1:=IntWalk.i64_in _ (by omega)
    by_cases hkz:k = 0
    ·have hrun:=HK0.out hkz
     have HN:=HNEW.out _ hrun
     have HRUN:=Lib.hid hrun
     subst hkz
     obtain ⟨xl,hxl⟩:∃ xl,xl = bs[0].length:=⟨_,rfl⟩
     rw [← hxl] at g2 q1 hrec
     rw [Nat.add_zero] at g2
     obtain ⟨g,hg⟩:∃ g,wrap64 ((s0 + 1) * y) = g:=⟨_,rfl⟩
     obtain ⟨g',hg'⟩:∃ g',wrap64 (q * g) = g':=⟨_,rfl⟩
     rw [hg,hg'] at HN
     have hw2:IntKind.i64.wrap ((s0 + 1) * y) = g:=(IntWalk.i64_left _).trans hg
     have hw3:IntKind.i64.wrap (q * g) = g':=(IntWalk.i64_left _).trans hg'
     clear hc g1 hrd hnx hq hy hxl hmem hnew hrs hk0 hs0 hrun
     go_wp2_with (go_at_call 101;refine (hrec.out _ hbel).mono ?_;rintro e w5 ⟨rfl,b5⟩)
     have hb5:Below w3.heap.size w3 w5:=hbel.trans (b5.mono hbel.size)
     go_roundw
     case rel => exact ⟨1,by omega,by go_num,by simp only [HRUN.out],by simp only [HN.out],hb5⟩
     case measure => simp [intOf];omega
    ·obtain ⟨kp,rfl⟩:∃ kp,k = kp + 1:=⟨k - 1,by omega⟩
     obtain ⟨op,cp,g1p,hrdp,q1p,q2p⟩:=hc kp (by omega)
     have g2p:wr.cell? ⟨b,off + kp,none⟩ = some (.slice op bs[kp].length cp):=(hbel.cell (p:=⟨b,off + kp,none⟩) hb).trans g1p
     have HEQ:Hid (Calls Try.prog 104 #[.slice op bs[kp].length cp,.slice oi bs[kp + 1].length ci] wr (RetQ wr (.bool (decide (bs[kp] = bs[kp + 1]))))):=Lib.hid (c_slicesEqual _ _ _ _ wr (hrdp.below hbel (Nat.le_refl _)) (hrd.below hbel (Nat.le_refl _)))
     have hidx:(((kp + 1:Nat):Int) - 1) = (kp:Int):=by omega
     have hgt:decide (((kp + 1:Nat):Int) > 0) = true:=decide_eq_true (by omega)
     have hgt2:(0:Int) < ((kp + 1:Nat):Int):=by omega
     have ip1:(0:Int) ≤ (kp:Int):=by omega
     have ip2:(kp:Int) < (bs.length:Int):=by omega
     have ip3:IntKind.i64.wrap (kp:Int) = (kp:Int):=IntWalk.i64_in _ (by omega)
     by_cases hsame:bs[kp] = bs[kp + 1]
     ·have hrun:=runTo_same hlt (.inr ⟨by omega,by simpa using hsame⟩)
      have HN:=HNEW.out _ hrun
      rw [← hs0] at HN hrun
      have HRUN:=Lib.hid hrun
      have hd:decide (bs[kp] = bs[kp + 1]) = true:=decide_eq_true hsame
      rw [hd] at HEQ
      obtain ⟨xl,hxl⟩:∃ xl,xl = bs[kp + 1].length:=⟨_,rfl⟩
      obtain ⟨xp,hxp⟩:∃ xp,xp = bs[kp].length:=⟨_,rfl⟩
      rw [← hxl] at g2 q1 hrec HEQ
      rw [← hxp] at g2p q1p HEQ
      obtain ⟨g,hg⟩:∃ g,wrap64 ((s0 + 1) * y) = g:=⟨_,rfl⟩
      obtain ⟨g',hg'⟩:∃ g',wrap64 (q * g) = g':=⟨_,rfl⟩
      rw [hg,hg'] at HN
      have hw2:IntKind.i64.wrap ((s0 + 1) * y) = g:=(IntWalk.i64_left _).trans hg
      have hw3:IntKind.i64.wrap (q * g) = g':=(IntWalk.i64_left _).trans hg'
      clear hc g1 hrd hnx hq hy hxl hmem hnew hrs hk0 hs0 hrun hd hsame hxp g1p hrdp
      go_wp2_with (first
       | (go_at_call 101;refine (hrec.out _ (hbel.trans (Below.drewN _ _ _))).mono ?_;rintro e w5 ⟨rfl,b5⟩)
       | (go_at_call 104;refine HEQ.out.mono ?_;rintro e w4 ⟨rfl,nd,rfl⟩))
      have hb5:Below w3.heap.size w3 w5:=(hbel.trans (Below.drewN _ _ _)).trans (b5.mono hbel.size)
      go_roundw
      case rel => exact ⟨kp + 1 + 1,by omega,by go_num,by simp only [HRUN.out],by simp only [HN.out],hb5⟩
      case measure => simp [intOf];omega
     ·have hrun:=runTo_new hlt (by omega) (by simpa using hsame)
      have HN:=HNEW.out _ hrun
      have HRUN:=Lib.hid hrun
      have hd:decide (bs[kp] = bs[kp + 1]) = false:=decide_eq_false hsame
      rw [hd] at HEQ
      obtain ⟨xl,hxl⟩:∃ xl,xl = bs[kp + 1].length:=⟨_,rfl⟩
      obtain ⟨xp,hxp⟩:∃ xp,xp = bs[kp].length:=⟨_,rfl⟩
      rw [← hxl] at g2 q1 hrec HEQ
      rw [← hxp] at g2p q1p HEQ
      obtain ⟨g,hg⟩:∃ g,wrap64 y = g:=⟨_,rfl⟩
      obtain ⟨g',hg'⟩:∃ g',wrap64 (q * g) = g':=⟨_,rfl⟩
      rw [Int.one_mul,hg,hg'] at HN
      have hw2:IntKind.i64.wrap y = g:=(IntWalk.i64_left _).trans hg
      have hw3:IntKind.i64.wrap (q * g) = g':=(IntWalk.i64_left _).trans hg'
      clear hc g1 hrd hnx hq hy hxl hmem hnew hrs hk0 hs0 hrun hd hsame hxp g1p hrdp
      go_wp2_with (first
       | (go_at_call 101;refine (hrec.out _ (hbel.trans (Below.drewN _ _ _))).mono ?_;rintro e w5 ⟨rfl,b5⟩)
       | (go_at_call 104;refine HEQ.out.mono ?_;rintro e w4 ⟨rfl,nd,rfl⟩))
      have hb5:Below w3.heap.size w3 w5:=(hbel.trans (Below.drewN _ _ _)).trans (b5.mono hbel.size)
      go_roundw
      case rel => exact ⟨kp + 1 + 1,by omega,by go_num,by simp only [HRUN.out],by simp only [HN.out],hb5⟩
      case measure => simp [intOf];omega
   ·have hfin:symTo (symF n) bs k = symF (n + 1) t:=by
     have e:k = bs.length:=by omega
     rw [e,HB.out];rfl
    rw [hfin]
    go_wp2_with fail
    go_ret
    exact ⟨rfl,hb3.trans (hbel.mono hsz3)⟩
end Go.Proofs.Ytofpjonggpjneaa
namespace Go.Proofs.Ytofpjonggpjneaa
set_option maxRecDepth 100000 in
theorem labPos_all:lists8.all (fun t => decide (0 < symF 9 t) && decide (0 < densF 9 t)) = true:=by decide +kernel
theorem labPos {t:List Int} (h:lev8 t = true):0 < symF 9 t∧0 < densF 9 t:=by
 have:=lev8_all labPos_all h
 simpa using this
end Go.Proofs.Ytofpjonggpjneaa
namespace Go.Proofs.Ytofpjonggpjneaa
open Go.RowKit
theorem symF_in (n:Nat) (t:List Int):In64 (symF n t):=by
 cases n with
 | zero => exact ⟨by simp [symF],by simp [symF]⟩
 | succ n =>
  unfold symF
  generalize forest (brs (canon t)) = bs
  cases bs.length with
  | zero => exact ⟨by simp [symTo],by simp [symTo]⟩
  | succ k => exact in64_wrap _
def labOf (t:List Int):Int × Int:=if lev8 t = true then (wrap64 ((wrap64 ((facW t.length).tdiv (symF 9 t))).tdiv (densF 9 t)),0) else (0,1)
set_option maxRecDepth 100000 in
set_option maxHeartbeats 2000000 in
theorem k_impl_LabellingsOf (v:Value) (t:List Int) (w:World) (h:Rd (RS RI) w [v] t) :
  Calls Try.prog 21 #[v] w (RetV w (.tuple #[.int .i64 (labOf t).1,.int .i64 (labOf t).2])):=by
 have hlv:=c_impl_IsLevels v t w h
 by_cases h8:lev8 t = true
 ·have hl:=lev8_lev h8
  have hl8:=lev8_len h8
  obtain ⟨p1,p2⟩:=labPos h8
  have HF:Hid (∀ w',Below w.heap.size w w'→Calls Try.prog 100 #[v] w' fun e w'' => e = .returned (.int .i64 t.length)∧Below w.heap.size w w''):=Lib.hid (fun w' hb => (c_impl_length v t w' (h.below hb (Nat.le_refl _))).mono (by rintro e w'' ⟨rfl,rfl⟩;exact ⟨rfl,hb⟩))
  have HG:Hid (∀ w',Below w.heap.size w w'→Calls Try.prog 99 #[.int .i64 t.length] w' fun e w'' => e = .returned (.int .i64 (facW t.length))∧Below w.heap.size w w''):=Lib.hid (fun w' hb => (c_impl_factorial t.length (by omega) w').mono (by rintro e w'' ⟨rfl,rfl⟩;exact ⟨rfl,hb⟩))
  have HS:Hid (∀ w',Below w.heap.size w w'→Calls Try.prog 101 #[v] w' fun e w'' => e = .returned (.int .i64 (symF 9 t))∧Below w.heap.size w w''):=Lib.hid (fun w' hb => (c_impl_symmetry 9 v t w' (h.below hb (Nat.le_refl _)) hl (by omega) (by omega)).mono (by rintro e w'' ⟨rfl,b⟩;exact ⟨rfl,hb.trans (b.mono hb.size)⟩))
  have HD:Hid (∀ w',Below w.heap.size w w'→Calls Try.prog 102 #[v] w' fun e w'' => e = .returned (.int .i64 (densF 9 t))∧Below w.heap.size w w''):=Lib.hid (fun w' hb => (c_impl_density 9 v t w' (h.below hb (Nat.le_refl _)) hl (by omega) (by omega)).mono (by rintro e w'' ⟨rfl,b⟩;exact ⟨rfl,hb.trans (b.mono hb.size)⟩))
  have hr:Hid (labOf t = (wrap64 ((wrap64 ((facW t.length).tdiv (symF 9 t))).tdiv (densF 9 t)),0)):=Lib.hid (by unfold labOf;rw [if_pos h8])
  have hsb:=symF_in 9 t
  obtain ⟨f,hf⟩:∃ f,f = facW t.length:=⟨_,rfl⟩
  obtain ⟨s,hs⟩:∃ s,s = symF 9 t:=⟨_,rfl⟩
  obtain ⟨d,hd⟩:∃ d,d = densF 9 t:=⟨_,rfl⟩
  rw [← hf] at HG hr
  rw [← hs] at HS hr p1
  rw [← hd] at HD hr p2
  rw [h8] at hlv
  have e1:(s == 0) = false:=by simp;omega
  have e2:(d == 0) = false:=by simp;omega
  have e3:¬ s = 0:=by omega
  have e4:¬ d = 0:=by omega
  clear h hf hs hd
  go_enter Try.func21,Try.ntmps21
  go_wp2_with (go_at_call 49;refine hlv.mono ?_;rintro e w' ⟨rfl,rfl⟩)
  go_region_with (first
   | (go_at_call 100;refine (HF.out _ (by first|assumption|exact Below.refl _ _|exact Below.drewN _ _ 1|exact Below.trans ‹_› (Below.drewN _ _ 1))).mono ?_;rintro e wL ⟨rfl,bL⟩)
   | (go_at_call 99;refine (HG.out _ (by first|assumption|exact Below.refl _ _|exact Below.drewN _ _ 1|exact Below.trans ‹_› (Below.drewN _ _ 1))).mono ?_;rintro e wF ⟨rfl,bF⟩)
   | (go_at_call 101;refine (HS.out _ (by first|assumption|exact Below.refl _ _|exact Below.drewN _ _ 1|exact Below.trans ‹_› (Below.drewN _ _ 1))).mono ?_;rintro e wS ⟨rfl,bS⟩)
   | (go_at_call 102;refine (HD.out _ (by first|assumption|exact Below.refl _ _|exact Below.drewN _ _ 1|exact Below.trans ‹_› (Below.drewN _ _ 1))).mono ?_;rintro e wD ⟨rfl,bD⟩))
  all_goals
   go_wp2_with fail
   go_ret2
   refine ⟨?_,by assumption⟩
   rw [hr.out]
   simp only [IntWalk.i64_left]
   rfl
 ·have h8':lev8 t = false:=by simpa using h8
  have hr:Hid (labOf t = (0,1)):=Lib.hid (by unfold labOf;rw [if_neg h8])
  rw [h8'] at hlv
  go_enter Try.func21,Try.ntmps21
  go_wp2_with (go_at_call 49;refine hlv.mono ?_;rintro e w' ⟨rfl,rfl⟩)
  go_ret2
  exact ⟨by rw [hr.out];rfl,Below.refl _ _⟩
end Go.Proofs.Ytofpjonggpjneaa
namespace Go.Proofs.Ytofpjonggpjneaa
open Go.RowKit
theorem AFn.of_v2 {P:Program} {f:FuncId} {ds:List (List D)} {d1 d2:D} {v1 v2:Value} (eg:∀ args w,(callFunc f args).run P w = .ok (.enter f args) w) (h1:∀ A w,rdV A w v1 d1) (h2:∀ A w,rdV A w v2 d2)
  (h:∀ (w:World) (A:Nat→Prop) vs,relArgs A w ds vs→Calls P f vs.toArray w (RetV w (.tuple #[v1,v2]))):AFn P f ds (· = [.val d1,.val d2]):=by
 refine ⟨eg,fun A w vs hA hv => (h w A vs hv).mono ?_⟩
 rintro e w' ⟨rfl,hb⟩
 exact ⟨_,_,rfl,rfl,hb,[v1,v2],[],[],rfl,List.nodup_nil,by simp,v1,[v2],[],[],[],[],rfl,rfl,rfl,(h1 (fun _ => True) w).one,⟨h1 _ _,rfl,rfl⟩,v2,[],[],[],[],[],rfl,rfl,rfl,(h2 (fun _ => True) w).one,⟨h2 _ _,rfl,rfl⟩,rfl,rfl,rfl⟩
theorem tab_one {A:Nat→Prop} {w:World} {t:List Int} {vs:List Value} (h:relArgs A w [eL t] vs):∃ v,vs = [v]∧Rd (RS RI) w [v] t:=by
 obtain ⟨v1,_,e1,h1,e2⟩:=h
 have e2:_ = []:=e2
 subst e2;subst e1
 exact ⟨v1,rfl,Rd.of (rd1 h1)⟩
end Go.Proofs.Ytofpjonggpjneaa
namespace Go.Proofs.Ytofpjonggpjneaa
open Go.RowKit
theorem getD_ltn {l:List Int} {i:Nat} (h:i < l.length):l.getD i 0 = l[i]:=by rw [List.getD_eq_getElem?_getD,List.getElem?_eq_getElem h];rfl
theorem mapI_get {l:List Int} {i:Nat} (h:i < l.length):(l.map eI)[i]? = some [.int (l.getD i 0)]:=by rw [List.getElem?_map,List.getElem?_eq_getElem h,getD_ltn h];rfl
theorem a_LabellingsOf (t:List Int):AFn Try.prog 21 [eL t] (· = [.val (.int (labOf t).1),.val (.int (labOf t).2)]):=by
 have hb:In64 (labOf t).1∧In64 (labOf t).2:=by
  unfold labOf
  split
  ·exact ⟨by show In64 (wrap64 _);unfold In64 wrap64;omega,by unfold In64;omega⟩
  ·exact ⟨by unfold In64;omega,by unfold In64;omega⟩
 exact AFn.of_v2 (enters_of Try.func21 rfl rfl) (fun _ _ => rdV_int.2 ⟨rfl,hb.1⟩) (fun _ _ => rdV_int.2 ⟨rfl,hb.2⟩) (fun w A vs h => by
  obtain ⟨v,rfl,hr⟩:=tab_one h
  exact k_impl_LabellingsOf v t w hr)
def facZ:Nat→Int
 | 0 => 1
 | n + 1 => facZ n * ((n + 1:Nat):Int)
theorem facZ_bd:∀ n,n ≤ 8→1 ≤ facZ n∧facZ n ≤ 40320:=by decide
set_option maxHeartbeats 4000000 in
theorem a_fact9 (n:Nat) (hn:n ≤ 8):AFn Try.prog 26 [eI n] (· = [.val (.int (facZ n))]):=by
 refine AFn.of_runs (cfg_ok 14) Try.func26 rfl rfl rfl (by simp only [List.length_cons,List.length_nil];decide) ?_
 have hres:Try.f26.results.toList = [.tmp 2]:=rfl
 have hrts:Try.f26.resultTypes.toList = [2]:=rfl
 simp only [argRegs,argAV1,eL,eI,eLL,eB,Nat.zero_add,Nat.reduceAdd]
 intro M
 refine RunK.of ?_
 repeat' (first|with_reducible (first|refine Q1 ?_|refine Q2 ?_|refine Q3 ?_|refine Q4 ?_|refine Q5 ?_|refine Q6 ?_|refine Q7 ?_|refine Q8 ?_|refine Q9 ?_|refine Qa ?_|refine Qb ?_|refine Qc ?_|refine Qd ?_|refine Qe ?_|refine Qf ?_)|((with_reducible refine Qo ?_ ?_);focus rfl)|((with_reducible first|refine QT 5 (l:=?_) ?_ ?_|refine QF 5 (l:=?_) ?_ ?_);rotate_left 1;focus (simp only [Zu,Nat.reduceSub,Nat.reduceBEq];with_reducible rfl))|((with_reducible first|refine QS (cfg_ok 14) Tab.none (s':=?_) ?_ ?_|refine QC (b:=?_) ?_ ?_);rotate_left 1;focus ((with_reducible refine QW ?_);simp only [Zg,seval,if_true,if_false,reduceCtorEq,Nat.reduceEqDiff];with_reducible rfl)))
 refine RunK.loop (β:=Nat) (γ:=Unit) (fun k => ⟨[(0,.c (.val (.int n))),(3,.c (.val (.int (facZ (k + 1))))),(4,.c (.val (.int ((k + 2:Nat):Int))))],[]⟩) (fun k => k + 1 ≤ n ∨ k = 0) (fun k => n - k)
  (fun _ => ⟨[(3,.c (.val (.int (facZ n))))],[]⟩) (fun _ => True) 0 (.inr rfl) ?_ ?_ ?_
 ·(repeat' (first|with_reducible refine Qn|((with_reducible refine Qr ?_ ?_);focus (first|with_reducible rfl|(simp only [Zz,Nat.reduceBEq,show facZ (0 + 1) = 1 from rfl];done)|rfl))|((with_reducible refine Qj (o':=?_) ?_ ?_ ?_);rotate_left 1;focus rfl)|((with_reducible refine Qw ?_ ?_);(focus (first|with_reducible rfl|(simp only [Zv,show facZ (0 + 1) = 1 from rfl];done)));focus (first|exact id|exact (fun h => nomatch h)|exact (fun _ => rfl)))))
 ·intro k hk
  have hw:=w64_succ (n:=k + 2) (by have:k + 1 ≤ n ∨ k = 0:=hk;omega)
  by_cases h:k + 2 ≤ n
  ·have i1:(((k + 2:Nat):Int) ≤ (n:Int)) = True:=eq_true (by omega)
   have hb:=facZ_bd (k + 2) (by omega)
   have e:facZ (k + 2) = facZ (k + 1) * ((k + 2:Nat):Int):=rfl
   have w1:w64 (facZ (k + 1) * ((k + 2:Nat):Int)) = facZ (k + 2):=by rw [← e];exact w64_eq (by omega)
   repeat' (first|with_reducible (first|refine Q1 ?_|refine Q2 ?_|refine Q3 ?_|refine Q4 ?_|refine Q5 ?_|refine Q6 ?_|refine Q7 ?_|refine Q8 ?_|refine Q9 ?_|refine Qa ?_|refine Qb ?_|refine Qc ?_|refine Qd ?_|refine Qe ?_|refine Qf ?_)|((with_reducible refine Qo ?_ ?_);focus rfl)|((with_reducible first|refine QT 5 (l:=?_) ?_ ?_|refine QF 5 (l:=?_) ?_ ?_);rotate_left 1;focus (simp only [Zu,Nat.reduceSub,Nat.reduceBEq];with_reducible rfl))|((with_reducible first|refine QS (cfg_ok 14) Tab.none (s':=?_) ?_ ?_|refine QC (b:=?_) ?_ ?_);rotate_left 1;focus ((with_reducible refine QW ?_);simp only [Zg,seval,if_true,if_false,reduceCtorEq,Nat.reduceEqDiff,i1,hw,w1];with_reducible rfl)))
   refine roundK.on (k + 1) ⟨.inl h,by omega⟩ ?_
   (repeat' (first|with_reducible refine Qn|((with_reducible refine Qr ?_ ?_);focus (first|with_reducible rfl|(simp only [Zz,Nat.reduceBEq];done)|rfl))|((with_reducible refine Qj (o':=?_) ?_ ?_ ?_);rotate_left 1;focus rfl)|((with_reducible refine Qw ?_ ?_);(focus (first|with_reducible rfl|(simp only [Zv];done)));focus (first|exact id|exact (fun h => nomatch h)|exact (fun _ => rfl)))))
  ·have i1:(((k + 2:Nat):Int) ≤ (n:Int)) = False:=eq_false (by omega)
   have e:facZ (k + 1) = facZ n:=by
    have hk:k + 1 ≤ n ∨ k = 0:=hk
    by_cases h1:k + 1 = n
    ·rw [h1]
    ·obtain rfl:k = 0:=by omega
     obtain rfl:n = 0:=by omega
     rfl
   rw [e]
   repeat' (first|with_reducible (first|refine Q1 ?_|refine Q2 ?_|refine Q3 ?_|refine Q4 ?_|refine Q5 ?_|refine Q6 ?_|refine Q7 ?_|refine Q8 ?_|refine Q9 ?_|refine Qa ?_|refine Qb ?_|refine Qc ?_|refine Qd ?_|refine Qe ?_|refine Qf ?_)|((with_reducible refine Qo ?_ ?_);focus rfl)|((with_reducible first|refine QT 5 (l:=?_) ?_ ?_|refine QF 5 (l:=?_) ?_ ?_);rotate_left 1;focus (simp only [Zu,Nat.reduceSub,Nat.reduceBEq];with_reducible rfl))|((with_reducible first|refine QS (cfg_ok 14) Tab.none (s':=?_) ?_ ?_|refine QC (b:=?_) ?_ ?_);rotate_left 1;focus ((with_reducible refine QW ?_);simp only [Zg,seval,if_true,if_false,reduceCtorEq,Nat.reduceEqDiff,i1];with_reducible rfl)))
   refine roundK.out () trivial ?_
   (repeat' (first|with_reducible refine Qn|((with_reducible refine Qr ?_ ?_);focus (first|with_reducible rfl|(simp only [Zz,Nat.reduceBEq];done)|rfl))|((with_reducible refine Qj (o':=?_) ?_ ?_ ?_);rotate_left 1;focus rfl)|((with_reducible refine Qw ?_ ?_);(focus (first|with_reducible rfl|(simp only [Zv];done)));focus (first|exact id|exact (fun h => nomatch h)|exact (fun _ => rfl)))))
 ·intro _ _
  repeat' (first|with_reducible (first|refine Q1 ?_|refine Q2 ?_|refine Q3 ?_|refine Q4 ?_|refine Q5 ?_|refine Q6 ?_|refine Q7 ?_|refine Q8 ?_|refine Q9 ?_|refine Qa ?_|refine Qb ?_|refine Qc ?_|refine Qd ?_|refine Qe ?_|refine Qf ?_)|((with_reducible refine Qo ?_ ?_);focus rfl)|((with_reducible first|refine QT 5 (l:=?_) ?_ ?_|refine QF 5 (l:=?_) ?_ ?_);rotate_left 1;focus (simp only [Zu,Nat.reduceSub,Nat.reduceBEq];with_reducible rfl))|((with_reducible first|refine QS (cfg_ok 14) Tab.none (s':=?_) ?_ ?_|refine QC (b:=?_) ?_ ?_);rotate_left 1;focus ((with_reducible refine QW ?_);simp only [Zg,seval,if_true,if_false,reduceCtorEq,Nat.reduceEqDiff];with_reducible rfl)))
  (refine Ends.mk (by simp) (rs:=?_) (ks:=?_) hres hrts ?_ ?_ ?_;rotate_left 2;(focus (simp only [Ze,Zg,seval,if_true,if_false,reduceCtorEq,Nat.reduceEqDiff];with_reducible rfl));(focus simp);focus (first|with_reducible rfl|(simp only [Zv];done)))
def lvF (t:List Int):Nat→Int
 | 0 => 1
 | j + 1 => if t.getD (j + 1) 0 ≤ t.getD j 0 then lvF t j + 1 else lvF t j
theorem lvF_bd (t:List Int):∀ j,1 ≤ lvF t j∧lvF t j ≤ j + 1
 | 0 => by simp [lvF]
 | j + 1 => by
  have:=lvF_bd t j
  unfold lvF
  split <;> omega
set_option maxHeartbeats 4000000 in
theorem a_LeavesOf (t:List Int) (h8:lev8 t = true):AFn Try.prog 23 [eL t] (· = [.val (.int (lvF t (t.length - 1))),.val (.int 0)]):=by
 have hl:=a_impl_IsLevels t
 rw [h8] at hl
 simp only [eL] at hl
 have hlm:(t.map eI).length = t.length:=List.length_map _
 have hl8:=lev8_len h8
 have hp:0 < t.length:=(lev8_lev h8).pos
 refine AFn.of_runs (cfg_ok 28) Try.func23 rfl rfl rfl (by simp only [List.length_cons,List.length_nil];decide) ?_
 have hres:Try.f23.results.toList = [.tmp 2,.tmp 3]:=rfl
 have hrts:Try.f23.resultTypes.toList = [2,2]:=rfl
 simp only [argRegs,argAV1,eL,eI,eLL,eB,Nat.zero_add,Nat.reduceAdd]
 intro M
 refine RunK.of ?_
 repeat' (first|with_reducible (first|refine Q1 ?_|refine Q2 ?_|refine Q3 ?_|refine Q4 ?_|refine Q5 ?_|refine Q6 ?_|refine Q7 ?_|refine Q8 ?_|refine Q9 ?_|refine Qa ?_|refine Qb ?_|refine Qc ?_|refine Qd ?_|refine Qe ?_|refine Qf ?_)|((with_reducible refine Qo ?_ ?_);focus rfl)|((with_reducible first|refine QT 6 (l:=?_) ?_ ?_|refine QF 6 (l:=?_) ?_ ?_);rotate_left 1;focus (simp only [Zu,Nat.reduceSub,Nat.reduceBEq];with_reducible rfl))|((with_reducible first|refine QS (cfg_ok 28) (Tab.none.at' 49 hl) (s':=?_) ?_ ?_|refine QC (b:=?_) ?_ ?_);rotate_left 1;focus ((with_reducible refine QW ?_);simp only [Zg,seval,if_true,if_false,reduceCtorEq,Nat.reduceEqDiff,hlm];with_reducible rfl))|((with_reducible refine QD (cfg_ok 28) (Tab.none.at' 49 hl) mixed_ok (tr:=?_) (s':=?_) ?_ ?_ ?_);rotate_left 2;(focus ((with_reducible refine QW ?_);simp only [Zg,Zd,seval,if_true,if_false,reduceCtorEq,Nat.reduceEqDiff,hlm];with_reducible rfl));focus ((with_reducible refine QK ?_);simp only [Zk];kernel_rfl)))
 refine RunK.loop (β:=Nat) (γ:=Unit) (fun j => ⟨[(0,.c (.val (.sl 1 (t.map eI)))),(4,.c (.val (.int (lvF t j)))),(5,.c (.val (.int ((j + 1:Nat):Int))))],[]⟩) (fun j => j + 1 ≤ t.length) (fun j => t.length - j)
  (fun _ => ⟨[(4,.c (.val (.int (lvF t (t.length - 1)))))],[]⟩) (fun _ => True) 0 hp ?_ ?_ ?_
 ·(repeat' (first|with_reducible refine Qn|((with_reducible refine Qr ?_ ?_);focus (first|with_reducible rfl|(simp only [Zz,Nat.reduceBEq,show lvF t 0 = 1 from rfl];done)|rfl))|((with_reducible refine Qj (o':=?_) ?_ ?_ ?_);rotate_left 1;focus rfl)|((with_reducible refine Qw ?_ ?_);(focus (first|with_reducible rfl|(simp only [Zv,show lvF t 0 = 1 from rfl];done)));focus (first|exact id|exact (fun h => nomatch h)|exact (fun _ => rfl)))))
 ·intro j hj
  have hj:j + 1 ≤ t.length:=hj
  have hw:=w64_succ (n:=j + 1) (by omega)
  by_cases h:j + 1 < t.length
  ·have i1:(((j + 1:Nat):Int) < (t.length:Int)) = True:=eq_true (by omega)
   have i2:((0:Int) ≤ ((j + 1:Nat):Int)) = True:=eq_true (by omega)
   have i3:((j:Int) < (t.length:Int)) = True:=eq_true (by omega)
   have i4:((0:Int) ≤ (j:Int)) = True:=eq_true (by omega)
   have w1:w64 (((j + 1:Nat):Int) - 1) = (j:Int):=by rw [w64_eq (by omega)];omega
   have g1:=mapI_get h
   have g2:=mapI_get (l:=t) (i:=j) (by omega)
   have hb:=lvF_bd t j
   have e:lvF t (j + 1) = if t.getD (j + 1) 0 ≤ t.getD j 0 then lvF t j + 1 else lvF t j:=rfl
   by_cases hle:t.getD (j + 1) 0 ≤ t.getD j 0
   ·have i5:(t.getD (j + 1) 0 ≤ t.getD j 0) = True:=eq_true hle
    have w2:w64 (lvF t j + 1) = lvF t (j + 1):=by rw [e,if_pos hle];exact w64_eq (by omega)
    repeat' (first|with_reducible (first|refine Q1 ?_|refine Q2 ?_|refine Q3 ?_|refine Q4 ?_|refine Q5 ?_|refine Q6 ?_|refine Q7 ?_|refine Q8 ?_|refine Q9 ?_|refine Qa ?_|refine Qb ?_|refine Qc ?_|refine Qd ?_|refine Qe ?_|refine Qf ?_)|((with_reducible refine Qo ?_ ?_);focus rfl)|((with_reducible first|refine QT 6 (l:=?_) ?_ ?_|refine QF 6 (l:=?_) ?_ ?_);rotate_left 1;focus (simp only [Zu,Nat.reduceSub,Nat.reduceBEq];with_reducible rfl))|((with_reducible first|refine QS (cfg_ok 28) Tab.none (s':=?_) ?_ ?_|refine QC (b:=?_) ?_ ?_);rotate_left 1;focus ((with_reducible refine QW ?_);simp only [Zg,seval,if_true,if_false,reduceCtorEq,Nat.reduceEqDiff,i1,i2,i3,i4,i5,w1,w2,g1,g2,hlm,hw,Int.toNat_natCast];with_reducible rfl))|((with_reducible refine QD (cfg_ok 28) Tab.none mixed_ok (tr:=?_) (s':=?_) ?_ ?_ ?_);rotate_left 2;(focus ((with_reducible refine QW ?_);simp only [Zg,Zd,seval,if_true,if_false,reduceCtorEq,Nat.reduceEqDiff,i1,i2,i3,i4,i5,w1,w2,g1,g2,hlm,hw,Int.toNat_natCast];with_reducible rfl));focus ((with_reducible refine QK ?_);simp only [Zk];kernel_rfl)))
    refine roundK.on (j + 1) ⟨h,by omega⟩ ?_
    (repeat' (first|with_reducible refine Qn|((with_reducible refine Qr ?_ ?_);focus (first|with_reducible rfl|(simp only [Zz,Nat.reduceBEq];done)|rfl))|((with_reducible refine Qj (o':=?_) ?_ ?_ ?_);rotate_left 1;focus rfl)|((with_reducible refine Qw ?_ ?_);(focus (first|with_reducible rfl|(simp only [Zv];done)));focus (first|exact id|exact (fun h => nomatch h)|exact (fun _ => rfl)))))
   ·have i5:(t.getD (j + 1) 0 ≤ t.getD j 0) = False:=eq_false hle
    rw [if_neg hle] at e
    repeat' (first|with_reducible (first|refine Q1 ?_|refine Q2 ?_|refine Q3 ?_|refine Q4 ?_|refine Q5 ?_|refine Q6 ?_|refine Q7 ?_|refine Q8 ?_|refine Q9 ?_|refine Qa ?_|refine Qb ?_|refine Qc ?_|refine Qd ?_|refine Qe ?_|refine Qf ?_)|((with_reducible refine Qo ?_ ?_);focus rfl)|((with_reducible first|refine QT 6 (l:=?_) ?_ ?_|refine QF 6 (l:=?_) ?_ ?_);rotate_left 1;focus (simp only [Zu,Nat.reduceSub,Nat.reduceBEq];with_reducible rfl))|((with_reducible first|refine QS (cfg_ok 28) Tab.none (s':=?_) ?_ ?_|refine QC (b:=?_) ?_ ?_);rotate_left 1;focus ((with_reducible refine QW ?_);simp only [Zg,seval,if_true,if_false,reduceCtorEq,Nat.reduceEqDiff,i1,i2,i3,i4,i5,w1,g1,g2,hlm,hw,Int.toNat_natCast];with_reducible rfl))|((with_reducible refine QD (cfg_ok 28) Tab.none mixed_ok (tr:=?_) (s':=?_) ?_ ?_ ?_);rotate_left 2;(focus ((with_reducible refine QW ?_);simp only [Zg,Zd,seval,if_true,if_false,reduceCtorEq,Nat.reduceEqDiff,i1,i2,i3,i4,i5,w1,g1,g2,hlm,hw,Int.toNat_natCast];with_reducible rfl));focus ((with_reducible refine QK ?_);simp only [Zk];kernel_rfl)))
    refine roundK.on (j + 1) ⟨h,by omega⟩ ?_
    rw [e]
    (repeat' (first|with_reducible refine Qn|((with_reducible refine Qr ?_ ?_);focus (first|with_reducible rfl|(simp only [Zz,Nat.reduceBEq];done)|rfl))|((with_reducible refine Qj (o':=?_) ?_ ?_ ?_);rotate_left 1;focus rfl)|((with_reducible refine Qw ?_ ?_);(focus (first|with_reducible rfl|(simp only [Zv];done)));focus (first|exact id|exact (fun h => nomatch h)|exact (fun _ => rfl)))))
  ·have i1:(((j + 1:Nat):Int) < (t.length:Int)) = False:=eq_false (by omega)
   obtain rfl:j = t.length - 1:=by omega
   repeat' (first|with_reducible (first|refine Q1 ?_|refine Q2 ?_|refine Q3 ?_|refine Q4 ?_|refine Q5 ?_|refine Q6 ?_|refine Q7 ?_|refine Q8 ?_|refine Q9 ?_|refine Qa ?_|refine Qb ?_|refine Qc ?_|refine Qd ?_|refine Qe ?_|refine Qf ?_)|((with_reducible refine Qo ?_ ?_);focus rfl)|((with_reducible first|refine QT 6 (l:=?_) ?_ ?_|refine QF 6 (l:=?_) ?_ ?_);rotate_left 1;focus (simp only [Zu,Nat.reduceSub,Nat.reduceBEq];with_reducible rfl))|((with_reducible first|refine QS (cfg_ok 28) Tab.none (s':=?_) ?_ ?_|refine QC (b:=?_) ?_ ?_);rotate_left 1;focus ((with_reducible refine QW ?_);simp only [Zg,seval,if_true,if_false,reduceCtorEq,Nat.reduceEqDiff,i1,hlm];with_reducible rfl))|((with_reducible refine QD (cfg_ok 28) Tab.none mixed_ok (tr:=?_) (s':=?_) ?_ ?_ ?_);rotate_left 2;(focus ((with_reducible refine QW ?_);simp only [Zg,Zd,seval,if_true,if_false,reduceCtorEq,Nat.reduceEqDiff,i1,hlm];with_reducible rfl));focus ((with_reducible refine QK ?_);simp only [Zk];kernel_rfl)))
   refine roundK.out () trivial ?_
   (repeat' (first|with_reducible refine Qn|((with_reducible refine Qr ?_ ?_);focus (first|with_reducible rfl|(simp only [Zz,Nat.reduceBEq];done)|rfl))|((with_reducible refine Qj (o':=?_) ?_ ?_ ?_);rotate_left 1;focus rfl)|((with_reducible refine Qw ?_ ?_);(focus (first|with_reducible rfl|(simp only [Zv];done)));focus (first|exact id|exact (fun h => nomatch h)|exact (fun _ => rfl)))))
 ·intro _ _
  repeat' (first|with_reducible (first|refine Q1 ?_|refine Q2 ?_|refine Q3 ?_|refine Q4 ?_|refine Q5 ?_|refine Q6 ?_|refine Q7 ?_|refine Q8 ?_|refine Q9 ?_|refine Qa ?_|refine Qb ?_|refine Qc ?_|refine Qd ?_|refine Qe ?_|refine Qf ?_)|((with_reducible refine Qo ?_ ?_);focus rfl)|((with_reducible first|refine QT 6 (l:=?_) ?_ ?_|refine QF 6 (l:=?_) ?_ ?_);rotate_left 1;focus (simp only [Zu,Nat.reduceSub,Nat.reduceBEq];with_reducible rfl))|((with_reducible first|refine QS (cfg_ok 28) Tab.none (s':=?_) ?_ ?_|refine QC (b:=?_) ?_ ?_);rotate_left 1;focus ((with_reducible refine QW ?_);simp only [Zg,seval,if_true,if_false,reduceCtorEq,Nat.reduceEqDiff];with_reducible rfl))|((with_reducible refine QD (cfg_ok 28) Tab.none mixed_ok (tr:=?_) (s':=?_) ?_ ?_ ?_);rotate_left 2;(focus ((with_reducible refine QW ?_);simp only [Zg,Zd,seval,if_true,if_false,reduceCtorEq,Nat.reduceEqDiff];with_reducible rfl));focus ((with_reducible refine QK ?_);simp only [Zk];kernel_rfl)))
  (refine Ends.mk (by simp) (rs:=?_) (ks:=?_) hres hrts ?_ ?_ ?_;rotate_left 2;(focus (simp only [Ze,Zg,seval,if_true,if_false,reduceCtorEq,Nat.reduceEqDiff];with_reducible rfl));(focus simp);focus (first|with_reducible rfl|(simp only [Zv];done)))
def mxF (t:List Int):Nat→Int
 | 0 => t.getD 0 0
 | j + 1 => Max.max (mxF t j) (t.getD (j + 1) 0)
set_option maxHeartbeats 4000000 in
theorem a_SlMax (t:List Int) (hp:0 < t.length) (hsz:t.length ≤ 1000000000):AFn Try.prog 103 [eL t] (· = [.val (.int (mxF t (t.length - 1)))]):=by
 have hlm:(t.map eI).length = t.length:=List.length_map _
 have i0:((t.length:Int) < 1) = False:=eq_false (by omega)
 have i1:((0:Int) ≤ 0) = True:=eq_true (by omega)
 have i2:((0:Int) < (t.length:Int)) = True:=eq_true (by omega)
 have g0:(t.map eI)[0]? = some [.int (mxF t 0)]:=mapI_get hp
 have t0:(0:Int).toNat = 0:=rfl
 refine AFn.of_runs (cfg_ok 25) Try.func103 rfl rfl rfl (by simp only [List.length_cons,List.length_nil];decide) ?_
 have hres:Try.f103.results.toList = [.tmp 2]:=rfl
 have hrts:Try.f103.resultTypes.toList = [2]:=rfl
 simp only [argRegs,argAV1,eL,eI,eLL,eB,Nat.zero_add,Nat.reduceAdd]
 intro M
 refine RunK.of ?_
 repeat' (first|with_reducible (first|refine Q1 ?_|refine Q2 ?_|refine Q3 ?_|refine Q4 ?_|refine Q5 ?_|refine Q6 ?_|refine Q7 ?_|refine Q8 ?_|refine Q9 ?_|refine Qa ?_|refine Qb ?_|refine Qc ?_|refine Qd ?_|refine Qe ?_|refine Qf ?_)|((with_reducible refine Qo ?_ ?_);focus rfl)|((with_reducible first|refine QT 5 (l:=?_) ?_ ?_|refine QF 5 (l:=?_) ?_ ?_);rotate_left 1;focus (simp only [Zu,Nat.reduceSub,Nat.reduceBEq];with_reducible rfl))|((with_reducible first|refine QS (cfg_ok 25) Tab.none (s':=?_) ?_ ?_|refine QC (b:=?_) ?_ ?_);rotate_left 1;focus ((with_reducible refine QW ?_);simp only [Zg,seval,if_true,if_false,reduceCtorEq,Nat.reduceEqDiff,hlm,i0,i1,i2,g0,t0];with_reducible rfl)))
 refine RunK.loop (β:=Nat) (γ:=Unit) (fun j => ⟨[(0,.c (.val (.sl 1 (t.map eI)))),(3,.c (.val (.int (mxF t j)))),(4,.c (.val (.int ((j + 1:Nat):Int))))],[]⟩) (fun j => j + 1 ≤ t.length) (fun j => t.length - j)
  (fun _ => ⟨[(3,.c (.val (.int (mxF t (t.length - 1)))))],[]⟩) (fun _ => True) 0 hp ?_ ?_ ?_
 ·(repeat' (first|with_reducible refine Qn|((with_reducible refine Qr ?_ ?_);focus (first|with_reducible rfl|(simp only [Zz,Nat.reduceBEq];done)|rfl))|((with_reducible refine Qj (o':=?_) ?_ ?_ ?_);rotate_left 1;focus rfl)|((with_reducible refine Qw ?_ ?_);(focus (first|with_reducible rfl|(simp only [Zv];done)));focus (first|exact id|exact (fun h => nomatch h)|exact (fun _ => rfl)))))
 ·intro j hj
  have hj:j + 1 ≤ t.length:=hj
  have hw:=w64_succ (n:=j + 1) (by omega)
  by_cases h:j + 1 < t.length
  ·have i1:(((j + 1:Nat):Int) < (t.length:Int)) = True:=eq_true (by omega)
   have i2:((0:Int) ≤ ((j + 1:Nat):Int)) = True:=eq_true (by omega)
   have g1:=mapI_get h
   have hm:Max.max (mxF t j) (t.getD (j + 1) 0) = mxF t (j + 1):=rfl
   ((repeat' (first|with_reducible (first|refine Q1 ?_|refine Q2 ?_|refine Q3 ?_|refine Q4 ?_|refine Q5 ?_|refine Q6 ?_|refine Q7 ?_|refine Q8 ?_|refine Q9 ?_|refine Qa ?_|refine Qb ?_|refine Qc ?_|refine Qd ?_|refine Qe ?_|refine Qf ?_)|((with_reducible refine Qo ?_ ?_);focus rfl)|((with_reducible first|refine QT 5 (l:=?_) ?_ ?_|refine QF 5 (l:=?_) ?_ ?_);rotate_left 1;focus (simp only [Zu,Nat.reduceSub,Nat.reduceBEq];with_reducible rfl))|((with_reducible refine QC (b:=?_) ?_ ?_);rotate_left 1;focus ((with_reducible refine QW ?_);simp only [Zg,seval,if_true,if_false,reduceCtorEq,Nat.reduceEqDiff,hlm,i1];with_reducible rfl))));((with_reducible refine QS (cfg_ok 25) Tab.none (s':=?_) ?_ ?_);rotate_left 1;focus ((with_reducible refine QW ?_);simp only [Zg,seval,if_true,if_false,reduceCtorEq,Nat.reduceEqDiff,hlm,i1];with_reducible rfl));(repeat' (first|with_reducible (first|refine Q1 ?_|refine Q2 ?_|refine Q3 ?_|refine Q4 ?_|refine Q5 ?_|refine Q6 ?_|refine Q7 ?_|refine Q8 ?_|refine Q9 ?_|refine Qa ?_|refine Qb ?_|refine Qc ?_|refine Qd ?_|refine Qe ?_|refine Qf ?_)|((with_reducible refine Qo ?_ ?_);focus rfl)|((with_reducible first|refine QT 5 (l:=?_) ?_ ?_|refine QF 5 (l:=?_) ?_ ?_);rotate_left 1;focus (simp only [Zu,Nat.reduceSub,Nat.reduceBEq];with_reducible rfl))|((with_reducible refine QC (b:=?_) ?_ ?_);rotate_left 1;focus ((with_reducible refine QW ?_);simp only [Zg,seval,if_true,if_false,reduceCtorEq,Nat.reduceEqDiff,hlm,i1];with_reducible rfl)))))
   ((repeat' (first|with_reducible (first|refine Q1 ?_|refine Q2 ?_|refine Q3 ?_|refine Q4 ?_|refine Q5 ?_|refine Q6 ?_|refine Q7 ?_|refine Q8 ?_|refine Q9 ?_|refine Qa ?_|refine Qb ?_|refine Qc ?_|refine Qd ?_|refine Qe ?_|refine Qf ?_)|((with_reducible refine Qo ?_ ?_);focus rfl)|((with_reducible first|refine QT 5 (l:=?_) ?_ ?_|refine QF 5 (l:=?_) ?_ ?_);rotate_left 1;focus (simp only [Zu,Nat.reduceSub,Nat.reduceBEq];with_reducible rfl))|((with_reducible refine QC (b:=?_) ?_ ?_);rotate_left 1;focus ((with_reducible refine QW ?_);simp only [Zg,seval,if_true,if_false,reduceCtorEq,Nat.reduceEqDiff,i1,i2,g1,hlm,Int.toNat_natCast];with_reducible rfl))));(with_reducible refine RunK.regCut (cfg_ok 25) Tab.none 5 (s1:=?_) ?_ ?_);rotate_left 1;(focus ((with_reducible refine QW ?_);simp only [Zg,seval,if_true,if_false,reduceCtorEq,Nat.reduceEqDiff,i1,i2,g1,hlm,Int.toNat_natCast];with_reducible rfl));simp only [List.toList_toArray,List.drop_succ_cons,List.drop_zero])
   refine ROps.max (cfg_ok 25) (x:=.tmp 18) (y:=.tmp 22) (d:=23) (m:=mxF t j) (n:=t.getD (j + 1) 0) rfl rfl rfl (by decide) rfl rfl ?_
   rw [hm]
   (refine ROps.opsT (cfg_ok 25) (T:=Tab.none) (s':=?_) ?_ ?_;rotate_left 1;focus (simp only [Zg,seval,if_true,if_false,reduceCtorEq,Nat.reduceEqDiff];with_reducible rfl))
   repeat' (first|with_reducible (first|refine Q1 ?_|refine Q2 ?_|refine Q3 ?_|refine Q4 ?_|refine Q5 ?_|refine Q6 ?_|refine Q7 ?_|refine Q8 ?_|refine Q9 ?_|refine Qa ?_|refine Qb ?_|refine Qc ?_|refine Qd ?_|refine Qe ?_|refine Qf ?_)|((with_reducible refine Qo ?_ ?_);focus rfl)|((with_reducible first|refine QT 5 (l:=?_) ?_ ?_|refine QF 5 (l:=?_) ?_ ?_);rotate_left 1;focus (simp only [Zu,Nat.reduceSub,Nat.reduceBEq];with_reducible rfl))|((with_reducible first|refine QS (cfg_ok 25) Tab.none (s':=?_) ?_ ?_|refine QC (b:=?_) ?_ ?_);rotate_left 1;focus ((with_reducible refine QW ?_);simp only [Zg,seval,if_true,if_false,reduceCtorEq,Nat.reduceEqDiff,hw];with_reducible rfl)))
   refine roundK.on (j + 1) ⟨h,by omega⟩ ?_
   (repeat' (first|with_reducible refine Qn|((with_reducible refine Qr ?_ ?_);focus (first|with_reducible rfl|(simp only [Zz,Nat.reduceBEq];done)|rfl))|((with_reducible refine Qj (o':=?_) ?_ ?_ ?_);rotate_left 1;focus rfl)|((with_reducible refine Qw ?_ ?_);(focus (first|with_reducible rfl|(simp only [Zv];done)));focus (first|exact id|exact (fun h => nomatch h)|exact (fun _ => rfl)))))
  ·have i1:(((j + 1:Nat):Int) < (t.length:Int)) = False:=eq_false (by omega)
   obtain rfl:j = t.length - 1:=by omega
   repeat' (first|with_reducible (first|refine Q1 ?_|refine Q2 ?_|refine Q3 ?_|refine Q4 ?_|refine Q5 ?_|refine Q6 ?_|refine Q7 ?_|refine Q8 ?_|refine Q9 ?_|refine Qa ?_|refine Qb ?_|refine Qc ?_|refine Qd ?_|refine Qe ?_|refine Qf ?_)|((with_reducible refine Qo ?_ ?_);focus rfl)|((with_reducible first|refine QT 5 (l:=?_) ?_ ?_|refine QF 5 (l:=?_) ?_ ?_);rotate_left 1;focus (simp only [Zu,Nat.reduceSub,Nat.reduceBEq];with_reducible rfl))|((with_reducible first|refine QS (cfg_ok 25) Tab.none (s':=?_) ?_ ?_|refine QC (b:=?_) ?_ ?_);rotate_left 1;focus ((with_reducible refine QW ?_);simp only [Zg,seval,if_true,if_false,reduceCtorEq,Nat.reduceEqDiff,i1,hlm];with_reducible rfl)))
   refine roundK.out () trivial ?_
   (repeat' (first|with_reducible refine Qn|((with_reducible refine Qr ?_ ?_);focus (first|with_reducible rfl|(simp only [Zz,Nat.reduceBEq];done)|rfl))|((with_reducible refine Qj (o':=?_) ?_ ?_ ?_);rotate_left 1;focus rfl)|((with_reducible refine Qw ?_ ?_);(focus (first|with_reducible rfl|(simp only [Zv];done)));focus (first|exact id|exact (fun h => nomatch h)|exact (fun _ => rfl)))))
 ·intro _ _
  repeat' (first|with_reducible (first|refine Q1 ?_|refine Q2 ?_|refine Q3 ?_|refine Q4 ?_|refine Q5 ?_|refine Q6 ?_|refine Q7 ?_|refine Q8 ?_|refine Q9 ?_|refine Qa ?_|refine Qb ?_|refine Qc ?_|refine Qd ?_|refine Qe ?_|refine Qf ?_)|((with_reducible refine Qo ?_ ?_);focus rfl)|((with_reducible first|refine QT 5 (l:=?_) ?_ ?_|refine QF 5 (l:=?_) ?_ ?_);rotate_left 1;focus (simp only [Zu,Nat.reduceSub,Nat.reduceBEq];with_reducible rfl))|((with_reducible first|refine QS (cfg_ok 25) Tab.none (s':=?_) ?_ ?_|refine QC (b:=?_) ?_ ?_);rotate_left 1;focus ((with_reducible refine QW ?_);simp only [Zg,seval,if_true,if_false,reduceCtorEq,Nat.reduceEqDiff];with_reducible rfl)))
  (refine Ends.mk (by simp) (rs:=?_) (ks:=?_) hres hrts ?_ ?_ ?_;rotate_left 2;(focus (simp only [Ze,Zg,seval,if_true,if_false,reduceCtorEq,Nat.reduceEqDiff];with_reducible rfl));(focus simp);focus (first|with_reducible rfl|(simp only [Zv];done)))
theorem a_HeightOf (t:List Int) (h8:lev8 t = true):AFn Try.prog 22 [eL t] (· = [.val (.int (mxF t (t.length - 1))),.val (.int 0)]):=by
 have hl:=a_impl_IsLevels t
 have hl8:=lev8_len h8
 have hm:=a_SlMax t (lev8_lev h8).pos (by omega)
 rw [h8] at hl
 simp only [eL] at hl hm
 refine AFn.of_runs (cfg_ok 9) Try.func22 rfl rfl rfl (by simp only [List.length_cons,List.length_nil];decide) ?_
 have hres:Try.f22.results.toList = [.tmp 2,.tmp 3]:=rfl
 have hrts:Try.f22.resultTypes.toList = [2,2]:=rfl
 simp only [argRegs,argAV1,eL,eI,eLL,eB,Nat.zero_add,Nat.reduceAdd]
 intro M
 refine RunK.of ?_
 repeat' (first|with_reducible (first|refine Q1 ?_|refine Q2 ?_|refine Q3 ?_|refine Q4 ?_|refine Q5 ?_|refine Q6 ?_|refine Q7 ?_|refine Q8 ?_|refine Q9 ?_|refine Qa ?_|refine Qb ?_|refine Qc ?_|refine Qd ?_|refine Qe ?_|refine Qf ?_)|((with_reducible refine Qo ?_ ?_);focus rfl)|((with_reducible first|refine QT 4 (l:=?_) ?_ ?_|refine QF 4 (l:=?_) ?_ ?_);rotate_left 1;focus (simp only [Zu,Nat.reduceSub,Nat.reduceBEq];with_reducible rfl))|((with_reducible first|refine QS (cfg_ok 9) ((Tab.none.at' 49 hl).at' 103 hm) (s':=?_) ?_ ?_|refine QC (b:=?_) ?_ ?_);rotate_left 1;focus ((with_reducible refine QW ?_);simp only [Zg,seval,if_true,if_false,reduceCtorEq,Nat.reduceEqDiff];with_reducible rfl)))
 (refine Ends.mk (by simp) (rs:=?_) (ks:=?_) hres hrts ?_ ?_ ?_;rotate_left 2;(focus (simp only [Ze,Zg,seval,if_true,if_false,reduceCtorEq,Nat.reduceEqDiff];with_reducible rfl));(focus simp);focus (first|with_reducible rfl|(simp only [Zv];done)))
end Go.Proofs.Ytofpjonggpjneaa
namespace Go.Proofs.Ytofpjonggpjneaa
open Go.RowKit
noncomputable def TDw {code:List Int} (hc:Bytes code) (hl:code.length ≤ 1000000000):Tab Try.prog :=
 ((Tab.none.pin 108 (nxtE code) (nxt_l01Next hc hl)).pin 91 (drwE code (drw1 (drawAnyG code))) (p_l03DrawAny hc hl).ok).pin 92 (drwE code (drwL (pickG code))) (p_l01Pick hc hl).ok
def trList:List Int:=[1,2,3,4,5,6,7,8,0,9]
def drawTr (code:List Int):Int:=(pickF code (src0 code) trList).1
theorem drawTr_ok {code:List Int} (hc:Bytes code):drawTr code ∈ trList:=(pickF_ok hc (s:=src0 code) (Nat.zero_le _) (l:=trList) (by decide)).1
set_option maxHeartbeats 4000000 in
theorem a_DrawTreesOf {code:List Int} (hc:Bytes code) (hl:code.length ≤ 1000000000):AFn Try.prog 18 [eCode code] (· = [.val (.int (drawTr code))]):=by
 have hfrom:=p_l01From hc hl
 have hs:(src0 code).1 ≤ code.length:=Nat.zero_le _
 have hd2:=drwL_eq (G:=pickG code) hs (l:=trList) (by decide) (by decide)
 unfold drawTr
 have e2:pickG code (src0 code) trList = ([.val (.int (pickF code (src0 code) trList).1)],(pickF code (src0 code) trList).2):=rfl
 rw [e2] at hd2
 obtain ⟨⟨k,s2⟩,hq⟩:∃ p,p = pickF code (src0 code) trList:=⟨_,rfl⟩
 rw [← hq] at hd2 ⊢
 simp only [eCode,dCode,trList,List.map_cons,List.map_nil,eI] at hd2 hfrom ⊢
 refine AFn.of_runs (cfg_ok 7) Try.func18 rfl rfl rfl (by simp only [List.length_cons,List.length_nil];decide) ?_
 have hres:Try.f18.results.toList = [.tmp 2]:=rfl
 have hrts:Try.f18.resultTypes.toList = [2]:=rfl
 simp only [argRegs,argAV1,eL,eI,eLL,eB,Nat.zero_add,Nat.reduceAdd,eCode,dCode]
 intro M
 refine RunK.of ?_
 ((repeat' (first|with_reducible (first|refine Q1 ?_|refine Q2 ?_|refine Q3 ?_|refine Q4 ?_|refine Q5 ?_|refine Q6 ?_|refine Q7 ?_|refine Q8 ?_|refine Q9 ?_|refine Qa ?_|refine Qb ?_|refine Qc ?_|refine Qd ?_|refine Qe ?_|refine Qf ?_)|((with_reducible refine Qo ?_ ?_);focus rfl)|((with_reducible first|refine QT 3 (l:=?_) ?_ ?_|refine QF 3 (l:=?_) ?_ ?_);rotate_left 1;focus (simp only [Zu,Nat.reduceSub,Nat.reduceBEq];with_reducible rfl))|((with_reducible refine QC (b:=?_) ?_ ?_);rotate_left 1;focus ((with_reducible refine QW ?_);simp only [Zg,seval,if_true,if_false,reduceCtorEq,Nat.reduceEqDiff];with_reducible rfl))));((with_reducible refine QS (cfg_ok 7) Tab.none (s':=?_) ?_ ?_);rotate_left 1;focus ((with_reducible refine QW ?_);simp only [Zg,seval,if_true,if_false,reduceCtorEq,Nat.reduceEqDiff];with_reducible rfl));(repeat' (first|with_reducible (first|refine Q1 ?_|refine Q2 ?_|refine Q3 ?_|refine Q4 ?_|refine Q5 ?_|refine Q6 ?_|refine Q7 ?_|refine Q8 ?_|refine Q9 ?_|refine Qa ?_|refine Qb ?_|refine Qc ?_|refine Qd ?_|refine Qe ?_|refine Qf ?_)|((with_reducible refine Qo ?_ ?_);focus rfl)|((with_reducible first|refine QT 3 (l:=?_) ?_ ?_|refine QF 3 (l:=?_) ?_ ?_);rotate_left 1;focus (simp only [Zu,Nat.reduceSub,Nat.reduceBEq];with_reducible rfl))|((with_reducible refine QC (b:=?_) ?_ ?_);rotate_left 1;focus ((with_reducible refine QW ?_);simp only [Zg,seval,if_true,if_false,reduceCtorEq,Nat.reduceEqDiff];with_reducible rfl)))))
 ((repeat' (first|with_reducible (first|refine Q1 ?_|refine Q2 ?_|refine Q3 ?_|refine Q4 ?_|refine Q5 ?_|refine Q6 ?_|refine Q7 ?_|refine Q8 ?_|refine Q9 ?_|refine Qa ?_|refine Qb ?_|refine Qc ?_|refine Qd ?_|refine Qe ?_|refine Qf ?_)|((with_reducible refine Qo ?_ ?_);focus rfl)|((with_reducible first|refine QT 3 (l:=?_) ?_ ?_|refine QF 3 (l:=?_) ?_ ?_);rotate_left 1;focus (simp only [Zu,Nat.reduceSub,Nat.reduceBEq];with_reducible rfl))|((with_reducible refine QC (b:=?_) ?_ ?_);rotate_left 1;focus ((with_reducible refine QW ?_);simp only [Zg,seval,if_true,if_false,reduceCtorEq,Nat.reduceEqDiff];with_reducible rfl))));(with_reducible refine RunK.regCut (cfg_ok 7) Tab.none 1 (s1:=?_) ?_ ?_);rotate_left 1;(focus ((with_reducible refine QW ?_);simp only [Zg,seval,if_true,if_false,reduceCtorEq,Nat.reduceEqDiff];with_reducible rfl));simp only [List.toList_toArray,List.drop_succ_cons,List.drop_zero])
 refine ROps.callR (cfg_ok 7) rfl (d:=4) rfl (by decide) rfl rfl rfl rfl hfrom rfl ?_
 intro b
 ((with_reducible refine ROps.cut (cfg_ok 7) Tab.none 1 (s1:=?_) ?_ ?_);rotate_left 1;(focus ((with_reducible refine QW ?_);simp only [Zg,seval,if_true,if_false,reduceCtorEq,Nat.reduceEqDiff,srcD_len];with_reducible rfl));simp only [List.drop_succ_cons,List.drop_zero])
 refine ROps.frzs [5] ?_
 (refine ROps.opsT (cfg_ok 7) (T:=TDw hc hl) (s':=?_) ?_ ?_;rotate_left 1;focus (simp only [Zg,seval,if_true,if_false,reduceCtorEq,Nat.reduceEqDiff,TDw,hd2,drwE,nxtE,srcD_len];with_reducible rfl))
 repeat' (first|with_reducible (first|refine Q1 ?_|refine Q2 ?_|refine Q3 ?_|refine Q4 ?_|refine Q5 ?_|refine Q6 ?_|refine Q7 ?_|refine Q8 ?_|refine Q9 ?_|refine Qa ?_|refine Qb ?_|refine Qc ?_|refine Qd ?_|refine Qe ?_|refine Qf ?_)|((with_reducible refine Qo ?_ ?_);focus rfl)|((with_reducible first|refine QT 3 (l:=?_) ?_ ?_|refine QF 3 (l:=?_) ?_ ?_);rotate_left 1;focus (simp only [Zu,Nat.reduceSub,Nat.reduceBEq];with_reducible rfl))|((with_reducible first|refine QS (cfg_ok 7) Tab.none (s':=?_) ?_ ?_|refine QC (b:=?_) ?_ ?_);rotate_left 1;focus ((with_reducible refine QW ?_);simp only [Zg,seval,if_true,if_false,reduceCtorEq,Nat.reduceEqDiff];with_reducible rfl)))
 (refine Ends.mk (by simp) (rs:=?_) (ks:=?_) hres hrts ?_ ?_ ?_;rotate_left 2;(focus (simp only [Ze,Zg,seval,if_true,if_false,reduceCtorEq,Nat.reduceEqDiff];with_reducible rfl));(focus simp);focus (first|with_reducible rfl|(simp only [Zv];done)))
end Go.Proofs.Ytofpjonggpjneaa

/- Lemmas (8). -/
import Derived.BigQuiet
import Derived.Laws.Concat
import Derived.Laws.Entries
import Derived.Laws.Shifts
import Derived.Laws.Small
import Derived.Laws.Strings
import Derived.Lib.AppendZeros
import Derived.WalkArith
import Derived.Test.YtedgfkpfhonlpaaZA0
import Derived.Test.YtedgfkpfhonlpaaZA1
import Derived.Test.YtedgfkpfhonlpaaZA3
import Derived.Test.YtedgfkpfhonlpaaZA6
import Derived.Test.YtedgfkpfhonlpaaZA7
set_option linter.unusedSimpArgs false
set_option linter.unusedVariables false
namespace Go.Proofs.Ytedgfkpfhonlpaa
open Go.RowKit
theorem AFn.of_v {P:Program} {f:FuncId} {ds:List (List D)} {d:D} {v:Value} (eg:∀ args w,(callFunc f args).run P w = .ok (.enter f args) w) (hd:∀ A w,rdV A w v d)
  (h:∀ (w:World) (A:Nat→Prop) vs,relArgs A w ds vs→Calls P f vs.toArray w (RetV w v)):AFn P f ds (· = [.val d]):=by
 refine ⟨eg,fun A w vs hA hv => (h w A vs hv).mono ?_⟩
 rintro e w' ⟨rfl,hb⟩
 exact ⟨v,_,rfl,rfl,hb,[v],[],[],rfl,List.nodup_nil,by simp,v,[],[],[],[],[],rfl,rfl,rfl,(hd (fun _ => True) w).one,⟨hd _ _,rfl,rfl⟩,rfl,rfl,rfl⟩
theorem AFn.of_v2 {P:Program} {f:FuncId} {ds:List (List D)} {d1 d2:D} {v1 v2:Value} (eg:∀ args w,(callFunc f args).run P w = .ok (.enter f args) w) (h1:∀ A w,rdV A w v1 d1) (h2:∀ A w,rdV A w v2 d2)
  (h:∀ (w:World) (A:Nat→Prop) vs,relArgs A w ds vs→Calls P f vs.toArray w (RetV w (.tuple #[v1,v2]))):AFn P f ds (· = [.val d1,.val d2]):=by
 refine ⟨eg,fun A w vs hA hv => (h w A vs hv).mono ?_⟩
 rintro e w' ⟨rfl,hb⟩
 exact ⟨_,_,rfl,rfl,hb,[v1,v2],[],[],rfl,List.nodup_nil,by simp,v1,[v2],[],[],[],[],rfl,rfl,rfl,(h1 (fun _ => True) w).one,⟨h1 _ _,rfl,rfl⟩,v2,[],[],[],[],[],rfl,rfl,rfl,(h2 (fun _ => True) w).one,⟨h2 _ _,rfl,rfl⟩,rfl,rfl,rfl⟩
theorem tab_one {A:Nat→Prop} {w:World} {t:List Int} {vs:List Value} (h:relArgs A w [eL t] vs):∃ v,vs = [v]∧Rd (RS RI) w [v] t:=by
 obtain ⟨v1,_,e1,h1,e2⟩:=h
 have e2:_ = []:=e2
 subst e2;subst e1
 exact ⟨v1,rfl,Rd.of (rd1 h1)⟩
end Go.Proofs.Ytedgfkpfhonlpaa
namespace Go.Proofs.Ytedgfkpfhonlpaa
open Go.RowKit
set_option maxRecDepth 100000 in
set_option maxHeartbeats 400000 in
theorem c_impl_areLevels1 (v:Value) (t:List Int) (w:World) (h:Rd (RS RI) w [v] t):Calls Try.prog 74 #[v] w (RetS w (.bool (!lev8 t))):=by
 have hc:=c_impl_IsLevels v t w h
 go_enter Try.func74,Try.ntmps74
 go_wp2_with (go_at_call 9;refine hc.mono ?_;rintro e w' ⟨rfl,rfl⟩)
 go_ret
 exact ⟨rfl,rfl⟩
set_option maxRecDepth 100000 in
set_option maxHeartbeats 1000000 in
theorem c_IndexFunc_notLev (v:Value) (xs:List (List Int)) (w:World) (h:Rd (RS (RS RI)) w [v] xs) :
  Calls Try.prog 91 #[v,.func (.func 74) #[] #[]] w fun e w' => (∃ n,e = .returned (.int .i64 n)∧decide (0 ≤ n) = !(xs.all lev8))∧w = w':=by
 obtain ⟨oa,cap,L⟩:=h.lists
 obtain rfl:=L.val
 have m1:=L.le;have m2:=L.capLe
 have HL:=Lib.hid L
 clear L h
 go_enter Try.func91,Try.ntmps91
 go_wp2_with fail
 go_loop [8] (fun i => ∃ k:Nat,k ≤ xs.length∧i = .int .i64 k∧(xs.take k).all lev8 = true) (fun i => xs.length - (intOf i).toNat)
 case atStart => exact ⟨0,Nat.zero_le _,rfl,by simp⟩
 case round =>
  obtain ⟨k,hk,rfl,hall⟩:=hrel
  have Hall:=Lib.hid hall
  clear hall
  by_cases hlt:k < xs.length
  ·obtain ⟨b,off,rfl,hb,hc⟩:=HL.out.get hlt
   obtain ⟨oi,ci,g1,hrd,q1,q2⟩:=hc k hlt
   obtain ⟨pb,hpb⟩:∃ pb,pb = lev8 xs[k]:=⟨_,rfl⟩
   have hcc:=c_impl_areLevels1 _ _ w hrd
   rw [← hpb] at hcc
   have hlt':=Lib.hid hlt
   cases pb
   ·have HP:=Lib.hid hpb.symm
    clear hc hrd hpb
    go_wp2_with (go_at_call 74;refine hcc.mono ?_;rintro e w' ⟨rfl,rfl⟩)
    go_ret
    exact ⟨⟨k,rfl,by rw [all_false_at _ _ k hlt'.out HP.out];simp⟩,rfl⟩
   ·have HP:=Lib.hid hpb.symm
    clear hc hrd hpb
    go_wp2_with (go_at_call 74;refine hcc.mono ?_;rintro e w' ⟨rfl,rfl⟩)
    go_round
    case rel => exact ⟨k + 1,by omega,by go_num,all_take_succ _ _ k hlt'.out Hall.out HP.out⟩
    case measure => simp [intOf];omega
  ·go_wp2_with fail
   go_ret
   exact ⟨⟨-1,rfl,by rw [all_of_take _ _ k (by omega) Hall.out];simp⟩,rfl⟩
set_option maxRecDepth 100000 in
set_option maxHeartbeats 400000 in
theorem c_ContainsFunc_notLev (v:Value) (xs:List (List Int)) (w:World) (h:Rd (RS (RS RI)) w [v] xs) :
  Calls Try.prog 73 #[v,.func (.func 74) #[] #[]] w (RetS w (.bool (!(xs.all lev8)))):=by
 go_enter Try.func73,Try.ntmps73
 go_wp2_with fail
 refine (c_IndexFunc_notLev v xs w h).mono ?_
 rintro e w' ⟨⟨n,rfl,hn⟩,rfl⟩
 have Hn:=Lib.hid hn
 clear hn
 go_wp2_with fail
 go_ret
 exact ⟨by rw [← Hn.out];rfl,rfl⟩
set_option maxRecDepth 100000 in
set_option maxHeartbeats 400000 in
theorem c_impl_areLevels (v:Value) (xs:List (List Int)) (w:World) (h:Rd (RS (RS RI)) w [v] xs) :
  Calls Try.prog 41 #[v] w (RetS w (.bool (xs.all lev8))):=by
 have hc:=c_ContainsFunc_notLev v xs w h
 go_enter Try.func41,Try.ntmps41
 go_wp2_with fail
 refine hc.mono ?_
 rintro e w' ⟨rfl,rfl⟩
 go_wp2_with fail
 go_ret
 exact ⟨by simp,rfl⟩
end Go.Proofs.Ytedgfkpfhonlpaa
namespace Go.Proofs.Ytedgfkpfhonlpaa
open Go.RowKit
section
variable {P:Program} {α:Type} {R:Rep α} {e:α→List D}
theorem own_out (E:Enc R e) {lo hi:Nat} {w:World} {v:Value} {xs:List α} (h:Own (RS R) lo hi w [v] xs):∃ og c G ds' d,v = slv og xs.length c∧Row w (slv og xs.length c) R.k xs.length ds' og∧(og.toList ++ G).Nodup∧(∀ b ∈ og.toList ++ G,lo ≤ b∧b < hi)∧ownL (RK R.k R.kpos (RC d)) w ds' (xs.map e) G:=by
 obtain ⟨F,⟨v',og,ds',G,e1,hrow,hel,rfl⟩,hn,hlt⟩:=h
 obtain rfl:v = v':=by simpa using e1
 obtain ⟨d,hel'⟩:=enc_ownL E hel
 obtain ⟨oa,c,ev,k1,k2,k3,k4⟩:=hrow.value
 have hv':v = slv og xs.length c:=by
  cases og with
  | none =>
   have h0:=hrow.len0
   have hoa:oa = none:=k4
   rw [ev,hoa,h0,k3 hoa];rfl
  | some g => rw [ev,k4];rfl
 exact ⟨og,c,G,ds',d,hv',by rw [← hv'];exact hrow,hn,hlt,hel'⟩
theorem own_relR (E:Enc R e) {lo hi:Nat} {w:World} {v:Value} {xs:List α} (h:Own (RS R) lo hi w [v] xs):∃ G X,G.Nodup∧(∀ b ∈ G,lo ≤ b∧b < hi)∧v.oneCell' = true∧∀ A M Y,relR A M w Y (.own R.k (xs.map e) true) v G X:=by
 obtain ⟨og,c,G,ds',d,hv,hrow,hn,hlt,hel⟩:=own_out E h
 refine ⟨og.toList ++ G,og.toList,hn,hlt,by rw [hv];cases og <;> rfl,fun A M Y => ?_⟩
 exact ⟨og,c,G,ds',by rw [List.length_map];exact hv,by rw [List.length_map,hv];exact hrow,R.kpos,rfl,rfl,d,R.kpos,hel⟩
end
end Go.Proofs.Ytedgfkpfhonlpaa
namespace Go.Proofs.Ytedgfkpfhonlpaa
def canT (t:List Int):Bool:=lev8 t && decide (canon t = t)
def okT (f:List (List Int)) (i:Nat):Bool:=canT (f.getD i []) && (decide (i = 0) || decide (cmpT (f.getD (i - 1) []) (f.getD i []) ≤ 0))
def forB (f:List (List Int)):Bool:=decide (sumLen f ≤ 8) && (List.range f.length).all (okT f)
theorem all_range {n:Nat} {p:Nat→Bool}:(List.range n).all p = true ↔ ∀ i < n,p i = true:=by
 rw [List.all_eq_true]
 exact ⟨fun h i hi => h i (List.mem_range.2 hi),fun h i hi => h i (List.mem_range.1 hi)⟩
theorem all_range_no {n i:Nat} {p:Nat→Bool} (hi:i < n) (h:p i = false):(List.range n).all p = false:=by
 rcases hq:(List.range n).all p with _|_
 ·rfl
 ·rw [all_range.1 hq i hi] at h;cases h
theorem adj_pairwise {α:Type} {r:α→α→Prop} (ht:∀ a b d,r a b→r b d→r a d):∀ {l:List α},(∀ i (h:i + 1 < l.length),r l[i] l[i + 1])→l.Pairwise r
 | [],_ => List.Pairwise.nil
 | [a],_ => List.pairwise_singleton _ _
 | a :: b :: l,h => by
  have ih:=adj_pairwise ht (l:=b :: l) (fun i hi => h (i + 1) (by simp at hi ⊢;omega))
  refine List.pairwise_cons.2 ⟨fun x hx => ?_,ih⟩
  have h0:r a b:=h 0 (by simp)
  rcases List.mem_cons.1 hx with rfl|hx
  ·exact h0
  ·exact ht a b x h0 ((List.pairwise_cons.1 ih).1 x hx)
theorem getD_at {α:Type} {l:List α} {d:α} {i:Nat} (h:i < l.length):l.getD i d = l[i]:=by
 rw [List.getD_eq_getElem?_getD,List.getElem?_eq_getElem h];rfl
theorem forB_spec {f:List (List Int)} (h:forB f = true):sumLen f ≤ 8∧(∀ t ∈ f,canT t = true)∧f.Pairwise fun a b => cmpT a b ≤ 0:=by
 unfold forB at h
 rw [Bool.and_eq_true,all_range] at h
 refine ⟨of_decide_eq_true h.1,fun t ht => ?_,adj_pairwise (fun a b d => cmpT_cmp.trans a b d) (fun i hi => ?_)⟩
 ·obtain ⟨i,hi,rfl⟩:=List.getElem_of_mem ht
  have:=h.2 i hi
  unfold okT at this
  rw [Bool.and_eq_true,getD_at hi] at this
  exact this.1
 ·have:=h.2 (i + 1) hi
  unfold okT at this
  rw [Bool.and_eq_true,Bool.or_eq_true,getD_at hi,Nat.add_sub_cancel,getD_at (show i < f.length by omega)] at this
  rcases this.2 with h1|h1
  ·have:=of_decide_eq_true h1;omega
  ·exact of_decide_eq_true h1
end Go.Proofs.Ytedgfkpfhonlpaa
namespace Go.Proofs.Ytedgfkpfhonlpaa
open Go.RowKit
theorem forB_tree' {f:List (List Int)} (h:forB f = true):(∀ t ∈ f,1 ≤ t.length)∧sumLen f ≤ 8:=by
 obtain ⟨h1,h2,_⟩:=forB_spec h
 refine ⟨fun t ht => ?_,h1⟩
 have:=h2 t ht
 unfold canT at this
 rw [Bool.and_eq_true] at this
 exact (lev8_lev this.1).pos
theorem len_le_sum1:∀ f:List (List Int),(∀ t ∈ f,1 ≤ t.length)→f.length ≤ sumLen f
 | [],_ => by simp
 | b :: bs,h => by
  have ih:=len_le_sum1 bs (fun c hc => h c (by simp [hc]))
  have:=h b (by simp)
  simp only [sumLen,List.map_cons,List.sum_cons,List.length_cons] at ih ⊢
  omega
theorem forB_short {f:List (List Int)} (h:forB f = true):f.length ≤ 8:=by
 obtain ⟨h1,h2⟩:=forB_tree' h
 have:=len_le_sum1 f h1
 omega
theorem forB_lev {f:List (List Int)} (h:forB f = true):∀ b ∈ f,LevP b:=fun b hb => by
 have:=(forB_spec h).2.1 b hb
 unfold canT at this
 rw [Bool.and_eq_true] at this
 exact lev8_lev this.1
end Go.Proofs.Ytedgfkpfhonlpaa
namespace Go.Proofs.Ytedgfkpfhonlpaa
open Go.RowKit
theorem a_impl_IsTree (t:List Int):AFn Try.prog 13 [eL t] (· = [.val (.bool (canT t))]):=by
 have h1:=a_impl_IsLevels t
 unfold canT
 cases h8:lev8 t
 ·rw [h8] at h1
  rw [Bool.false_and]
  refine AFn.of_runs (cfg_ok 11) Try.func13 rfl rfl rfl (by simp only [List.length_cons,List.length_nil];decide) ?_
  have hres:Try.f13.results.toList = [.tmp 2]:=rfl
  have hrts:Try.f13.resultTypes.toList = [4]:=rfl
  simp only [argRegs,argAV1,eL,eI,eLL,eB,Nat.zero_add,Nat.reduceAdd]
  intro M
  refine RunK.of ?_
  repeat' (first|with_reducible (first|refine Q1 ?_|refine Q2 ?_|refine Q3 ?_|refine Q4 ?_|refine Q5 ?_|refine Q6 ?_|refine Q7 ?_|refine Q8 ?_|refine Q9 ?_|refine Qa ?_|refine Qb ?_|refine Qc ?_|refine Qd ?_|refine Qe ?_|refine Qf ?_)|((with_reducible refine Qo ?_ ?_);focus rfl)|((with_reducible first|refine QT 3 (l:=?_) ?_ ?_|refine QF 3 (l:=?_) ?_ ?_);rotate_left 1;focus (simp only [Zu,Nat.reduceSub,Nat.reduceBEq];with_reducible rfl))|((with_reducible first|refine QS (cfg_ok 11) (Tab.none.at' 9 h1) (s':=?_) ?_ ?_|refine QC (b:=?_) ?_ ?_);rotate_left 1;focus ((with_reducible refine QW ?_);simp only [Zg,seval,if_true,if_false,reduceCtorEq,Nat.reduceEqDiff,eL];with_reducible rfl)))
  (refine Ends.mk (by simp) (rs:=?_) (ks:=?_) hres hrts ?_ ?_ ?_;rotate_left 2;(focus (simp only [Ze,Zg,seval,if_true,if_false,reduceCtorEq,Nat.reduceEqDiff];with_reducible rfl));(focus simp);focus (first|with_reducible rfl|(simp only [Zv];done)))
 ·rw [h8] at h1
  rw [Bool.true_and]
  have h2:=a_canonical t (lev8_lev h8) (lev8_len h8)
  have h3:=a_slicesEqual (canon t) t
  refine AFn.of_runs (cfg_ok 11) Try.func13 rfl rfl rfl (by simp only [List.length_cons,List.length_nil];decide) ?_
  have hres:Try.f13.results.toList = [.tmp 2]:=rfl
  have hrts:Try.f13.resultTypes.toList = [4]:=rfl
  simp only [argRegs,argAV1,eL,eI,eLL,eB,Nat.zero_add,Nat.reduceAdd]
  intro M
  refine RunK.of ?_
  repeat' (first|with_reducible (first|refine Q1 ?_|refine Q2 ?_|refine Q3 ?_|refine Q4 ?_|refine Q5 ?_|refine Q6 ?_|refine Q7 ?_|refine Q8 ?_|refine Q9 ?_|refine Qa ?_|refine Qb ?_|refine Qc ?_|refine Qd ?_|refine Qe ?_|refine Qf ?_)|((with_reducible refine Qo ?_ ?_);focus rfl)|((with_reducible first|refine QT 3 (l:=?_) ?_ ?_|refine QF 3 (l:=?_) ?_ ?_);rotate_left 1;focus (simp only [Zu,Nat.reduceSub,Nat.reduceBEq];with_reducible rfl))|((with_reducible first|refine QS (cfg_ok 11) (((Tab.none.at' 9 h1).at' 43 h2).at' 47 h3) (s':=?_) ?_ ?_|refine QC (b:=?_) ?_ ?_);rotate_left 1;focus ((with_reducible refine QW ?_);simp only [Zg,seval,if_true,if_false,reduceCtorEq,Nat.reduceEqDiff,eL];with_reducible rfl)))
  (refine Ends.mk (by simp) (rs:=?_) (ks:=?_) hres hrts ?_ ?_ ?_;rotate_left 2;(focus (simp only [Ze,Zg,seval,if_true,if_false,reduceCtorEq,Nat.reduceEqDiff];with_reducible rfl));(focus simp);focus (first|with_reducible rfl|(simp only [Zv];done)))
noncomputable def TFor:Tab Try.prog :=
 ((Tab.none.add 13 (tab1 codL fun t => some [.val (.bool (canT t))]) (tab1_ok fun t rs h => by cases h;exact a_impl_IsTree t)).add
   42 (tab2 codL codL fun xs ys => some [.val (.int (cmpT xs ys))]) (tab2_ok fun xs ys rs h => by cases h;exact a_compareTrees xs ys)).add
   50 (tab1 codLL fun f => some [.val (.int (nodesB f))]) (tab1_ok fun f rs h => by cases h;exact a_nodesIn f)
theorem all_range_succ {n:Nat} {p:Nat→Bool} (h:(List.range n).all p = true) (h2:p n = true):(List.range (n + 1)).all p = true :=
 all_range.2 (fun i hi => by
  by_cases e:i = n
  ·rw [e];exact h2
  ·exact all_range.1 h i (by omega))
set_option maxHeartbeats 4000000 in
theorem a_impl_IsForest (f:List (List Int)) (hsz:sumLen f ≤ 1000000000) (hln:f.length ≤ 1000000000):AFn Try.prog 15 [eLL f] (· = [.val (.bool (forB f))]):=by
 have hn:nodesB f = sumLen f:=nodesB_eq f (by omega)
 refine AFn.of_runs (cfg_ok 33) Try.func15 rfl rfl rfl (by simp only [List.length_cons,List.length_nil];decide) ?_
 have hres:Try.f15.results.toList = [.tmp 2]:=rfl
 have hrts:Try.f15.resultTypes.toList = [4]:=rfl
 simp only [argRegs,argAV1,eL,eI,eLL,eB,Nat.zero_add,Nat.reduceAdd]
 intro M
 refine RunK.of ?_
 by_cases h8:sumLen f ≤ 8
 ·have i8:((sumLen f:Int) > 8) = False:=eq_false (by omega)
  repeat' (first|with_reducible (first|refine Q1 ?_|refine Q2 ?_|refine Q3 ?_|refine Q4 ?_|refine Q5 ?_|refine Q6 ?_|refine Q7 ?_|refine Q8 ?_|refine Q9 ?_|refine Qa ?_|refine Qb ?_|refine Qc ?_|refine Qd ?_|refine Qe ?_|refine Qf ?_)|((with_reducible refine Qo ?_ ?_);focus rfl)|((with_reducible first|refine QT 11 (l:=?_) ?_ ?_|refine QF 11 (l:=?_) ?_ ?_);rotate_left 1;focus (simp only [Zu,Nat.reduceSub,Nat.reduceBEq];with_reducible rfl))|((with_reducible first|refine QS (cfg_ok 33) TFor (s':=?_) ?_ ?_|refine QC (b:=?_) ?_ ?_);rotate_left 1;focus ((with_reducible refine QW ?_);simp only [Zg,seval,if_true,if_false,reduceCtorEq,Nat.reduceEqDiff,TFor,hn,i8,eL];with_reducible rfl)))
  refine RunK.loop (β:=Nat) (γ:=Unit) (fun i => ⟨[(0,.c (.val (.sl 1 (f.map eL)))),(8,.c (.val (.sl 1 (f.map eL)))),(9,.c (.val (.int f.length))),(10,.c (.val (.int i)))],[]⟩) (fun i => i ≤ f.length∧(List.range i).all (okT f) = true) (fun i => f.length - i)
   (fun _ => ⟨[],[]⟩) (fun _ => (List.range f.length).all (okT f) = true) 0 ⟨Nat.zero_le _,rfl⟩ ?_ ?_ ?_
  ·(repeat' (first|with_reducible refine Qn|((with_reducible refine Qr ?_ ?_);focus (first|with_reducible rfl|(simp only [Zz,Nat.reduceBEq];done)|rfl))|((with_reducible refine Qj (o':=?_) ?_ ?_ ?_);rotate_left 1;focus rfl)|((with_reducible refine Qw ?_ ?_);(focus (first|with_reducible rfl|(simp only [Zv];done)));focus (first|exact id|exact (fun h => nomatch h)|exact (fun _ => rfl)))))
  ·rintro i ⟨hi,hall⟩
   have hw:=w64_succ (n:=i) (by omega)
   by_cases h:i < f.length
   ·have i1:((i:Int) < (f.length:Int)) = True:=eq_true (by omega)
    have i2:((0:Int) ≤ (i:Int)) = True:=eq_true (by omega)
    obtain ⟨t,ht⟩:∃ t,t = f[i]:=⟨_,rfl⟩
    have hg:(f.map eL)[i]? = some [.sl 1 (t.map eI)]:=by rw [map_get h,ht];rfl
    have hgd:f.getD i [] = t:=by rw [getD_at h,ht]
    by_cases hc:canT t = true
    ·by_cases h0:i = 0
     ·have j1:((i:Int) > 0) = False:=eq_false (by omega)
      have hok:okT f i = true:=by unfold okT;rw [hgd,hc,h0];rfl
      repeat' (first|with_reducible (first|refine Q1 ?_|refine Q2 ?_|refine Q3 ?_|refine Q4 ?_|refine Q5 ?_|refine Q6 ?_|refine Q7 ?_|refine Q8 ?_|refine Q9 ?_|refine Qa ?_|refine Qb ?_|refine Qc ?_|refine Qd ?_|refine Qe ?_|refine Qf ?_)|((with_reducible refine Qo ?_ ?_);focus rfl)|((with_reducible first|refine QT 11 (l:=?_) ?_ ?_|refine QF 11 (l:=?_) ?_ ?_);rotate_left 1;focus (simp only [Zu,Nat.reduceSub,Nat.reduceBEq];with_reducible rfl))|((with_reducible first|refine QS (cfg_ok 33) TFor (s':=?_) ?_ ?_|refine QC (b:=?_) ?_ ?_);rotate_left 1;focus ((with_reducible refine QW ?_);simp only [Zg,seval,if_true,if_false,reduceCtorEq,Nat.reduceEqDiff,TFor,i1,i2,hg,hw,hc,j1,Int.toNat_natCast,List.length_map];with_reducible rfl)))
      refine roundK.on (i + 1) ⟨⟨h,all_range_succ hall hok⟩,by omega⟩ ?_
      (repeat' (first|with_reducible refine Qn|((with_reducible refine Qr ?_ ?_);focus (first|with_reducible rfl|(simp only [Zz,Nat.reduceBEq];done)|rfl))|((with_reducible refine Qj (o':=?_) ?_ ?_ ?_);rotate_left 1;focus rfl)|((with_reducible refine Qw ?_ ?_);(focus (first|with_reducible rfl|(simp only [Zv];done)));focus (first|exact id|exact (fun h => nomatch h)|exact (fun _ => rfl)))))
     ·have j1:((i:Int) > 0) = True:=eq_true (by omega)
      have hw1:w64 ((i:Int) - 1) = ((i - 1:Nat):Int):=by rw [w64_eq (by omega)];omega
      have i3:((0:Int) ≤ ((i - 1:Nat):Int)) = True:=eq_true (by omega)
      have i4:(((i - 1:Nat):Int) < (f.length:Int)) = True:=eq_true (by omega)
      obtain ⟨s,hs⟩:∃ s,s = f[i - 1]:=⟨_,rfl⟩
      have hgs:(f.map eL)[i - 1]? = some [.sl 1 (s.map eI)]:=by rw [map_get (by omega),hs];rfl
      have hgds:f.getD (i - 1) [] = s:=by rw [getD_at (by omega),hs]
      by_cases hk:cmpT s t > 0
      ·have hok:okT f i = false:=by unfold okT;rw [hgd,hgds,hc,decide_eq_false h0,decide_eq_false (by omega)];rfl
       have hB:forB f = false:=by unfold forB;rw [all_range_no h hok,Bool.and_false]
       have k1:(cmpT s t > 0) = True:=eq_true hk
       rw [hB]
       repeat' (first|with_reducible (first|refine Q1 ?_|refine Q2 ?_|refine Q3 ?_|refine Q4 ?_|refine Q5 ?_|refine Q6 ?_|refine Q7 ?_|refine Q8 ?_|refine Q9 ?_|refine Qa ?_|refine Qb ?_|refine Qc ?_|refine Qd ?_|refine Qe ?_|refine Qf ?_)|((with_reducible refine Qo ?_ ?_);focus rfl)|((with_reducible first|refine QT 11 (l:=?_) ?_ ?_|refine QF 11 (l:=?_) ?_ ?_);rotate_left 1;focus (simp only [Zu,Nat.reduceSub,Nat.reduceBEq];with_reducible rfl))|((with_reducible first|refine QS (cfg_ok 33) TFor (s':=?_) ?_ ?_|refine QC (b:=?_) ?_ ?_);rotate_left 1;focus ((with_reducible refine QW ?_);simp only [Zg,seval,if_true,if_false,reduceCtorEq,Nat.reduceEqDiff,TFor,i1,i2,i3,i4,hg,hgs,hw,hw1,hc,j1,k1,Int.toNat_natCast,List.length_map];with_reducible rfl)))
       refine roundK.ret ?_
       repeat' (first|with_reducible (first|refine Q1 ?_|refine Q2 ?_|refine Q3 ?_|refine Q4 ?_|refine Q5 ?_|refine Q6 ?_|refine Q7 ?_|refine Q8 ?_|refine Q9 ?_|refine Qa ?_|refine Qb ?_|refine Qc ?_|refine Qd ?_|refine Qe ?_|refine Qf ?_)|((with_reducible refine Qo ?_ ?_);focus rfl)|((with_reducible first|refine QT 11 (l:=?_) ?_ ?_|refine QF 11 (l:=?_) ?_ ?_);rotate_left 1;focus (simp only [Zu,Nat.reduceSub,Nat.reduceBEq];with_reducible rfl))|((with_reducible first|refine QS (cfg_ok 33) TFor (s':=?_) ?_ ?_|refine QC (b:=?_) ?_ ?_);rotate_left 1;focus ((with_reducible refine QW ?_);simp only [Zg,seval,if_true,if_false,reduceCtorEq,Nat.reduceEqDiff,TFor];with_reducible rfl)))
       (refine Ends.mk (by simp) (rs:=?_) (ks:=?_) hres hrts ?_ ?_ ?_;rotate_left 2;(focus (simp only [Ze,Zg,seval,if_true,if_false,reduceCtorEq,Nat.reduceEqDiff];with_reducible rfl));(focus simp);focus (first|with_reducible rfl|(simp only [Zv];done)))
      ·have hok:okT f i = true:=by unfold okT;rw [hgd,hgds,hc,decide_eq_true (show cmpT s t ≤ 0 by omega),Bool.or_true];rfl
       have k1:(cmpT s t > 0) = False:=eq_false hk
       repeat' (first|with_reducible (first|refine Q1 ?_|refine Q2 ?_|refine Q3 ?_|refine Q4 ?_|refine Q5 ?_|refine Q6 ?_|refine Q7 ?_|refine Q8 ?_|refine Q9 ?_|refine Qa ?_|refine Qb ?_|refine Qc ?_|refine Qd ?_|refine Qe ?_|refine Qf ?_)|((with_reducible refine Qo ?_ ?_);focus rfl)|((with_reducible first|refine QT 11 (l:=?_) ?_ ?_|refine QF 11 (l:=?_) ?_ ?_);rotate_left 1;focus (simp only [Zu,Nat.reduceSub,Nat.reduceBEq];with_reducible rfl))|((with_reducible first|refine QS (cfg_ok 33) TFor (s':=?_) ?_ ?_|refine QC (b:=?_) ?_ ?_);rotate_left 1;focus ((with_reducible refine QW ?_);simp only [Zg,seval,if_true,if_false,reduceCtorEq,Nat.reduceEqDiff,TFor,i1,i2,i3,i4,hg,hgs,hw,hw1,hc,j1,k1,Int.toNat_natCast,List.length_map];with_reducible rfl)))
       refine roundK.on (i + 1) ⟨⟨h,all_range_succ hall hok⟩,by omega⟩ ?_
       (repeat' (first|with_reducible refine Qn|((with_reducible refine Qr ?_ ?_);focus (first|with_reducible rfl|(simp only [Zz,Nat.reduceBEq];done)|rfl))|((with_reducible refine Qj (o':=?_) ?_ ?_ ?_);rotate_left 1;focus rfl)|((with_reducible refine Qw ?_ ?_);(focus (first|with_reducible rfl|(simp only [Zv];done)));focus (first|exact id|exact (fun h => nomatch h)|exact (fun _ => rfl)))))
    ·have hc:canT t = false:=by simpa using hc
     have hok:okT f i = false:=by unfold okT;rw [hgd,hc,Bool.false_and]
     have hB:forB f = false:=by unfold forB;rw [all_range_no h hok,Bool.and_false]
     rw [hB]
     repeat' (first|with_reducible (first|refine Q1 ?_|refine Q2 ?_|refine Q3 ?_|refine Q4 ?_|refine Q5 ?_|refine Q6 ?_|refine Q7 ?_|refine Q8 ?_|refine Q9 ?_|refine Qa ?_|refine Qb ?_|refine Qc ?_|refine Qd ?_|refine Qe ?_|refine Qf ?_)|((with_reducible refine Qo ?_ ?_);focus rfl)|((with_reducible first|refine QT 11 (l:=?_) ?_ ?_|refine QF 11 (l:=?_) ?_ ?_);rotate_left 1;focus (simp only [Zu,Nat.reduceSub,Nat.reduceBEq];with_reducible rfl))|((with_reducible first|refine QS (cfg_ok 33) TFor (s':=?_) ?_ ?_|refine QC (b:=?_) ?_ ?_);rotate_left 1;focus ((with_reducible refine QW ?_);simp only [Zg,seval,if_true,if_false,reduceCtorEq,Nat.reduceEqDiff,TFor,i1,i2,hg,hw,hc,Int.toNat_natCast,List.length_map];with_reducible rfl)))
     refine roundK.ret ?_
     repeat' (first|with_reducible (first|refine Q1 ?_|refine Q2 ?_|refine Q3 ?_|refine Q4 ?_|refine Q5 ?_|refine Q6 ?_|refine Q7 ?_|refine Q8 ?_|refine Q9 ?_|refine Qa ?_|refine Qb ?_|refine Qc ?_|refine Qd ?_|refine Qe ?_|refine Qf ?_)|((with_reducible refine Qo ?_ ?_);focus rfl)|((with_reducible first|refine QT 11 (l:=?_) ?_ ?_|refine QF 11 (l:=?_) ?_ ?_);rotate_left 1;focus (simp only [Zu,Nat.reduceSub,Nat.reduceBEq];with_reducible rfl))|((with_reducible first|refine QS (cfg_ok 33) TFor (s':=?_) ?_ ?_|refine QC (b:=?_) ?_ ?_);rotate_left 1;focus ((with_reducible refine QW ?_);simp only [Zg,seval,if_true,if_false,reduceCtorEq,Nat.reduceEqDiff,TFor];with_reducible rfl)))
     (refine Ends.mk (by simp) (rs:=?_) (ks:=?_) hres hrts ?_ ?_ ?_;rotate_left 2;(focus (simp only [Ze,Zg,seval,if_true,if_false,reduceCtorEq,Nat.reduceEqDiff];with_reducible rfl));(focus simp);focus (first|with_reducible rfl|(simp only [Zv];done)))
   ·have i1:((i:Int) < (f.length:Int)) = False:=eq_false (by omega)
    obtain rfl:i = f.length:=by omega
    repeat' (first|with_reducible (first|refine Q1 ?_|refine Q2 ?_|refine Q3 ?_|refine Q4 ?_|refine Q5 ?_|refine Q6 ?_|refine Q7 ?_|refine Q8 ?_|refine Q9 ?_|refine Qa ?_|refine Qb ?_|refine Qc ?_|refine Qd ?_|refine Qe ?_|refine Qf ?_)|((with_reducible refine Qo ?_ ?_);focus rfl)|((with_reducible first|refine QT 11 (l:=?_) ?_ ?_|refine QF 11 (l:=?_) ?_ ?_);rotate_left 1;focus (simp only [Zu,Nat.reduceSub,Nat.reduceBEq];with_reducible rfl))|((with_reducible first|refine QS (cfg_ok 33) TFor (s':=?_) ?_ ?_|refine QC (b:=?_) ?_ ?_);rotate_left 1;focus ((with_reducible refine QW ?_);simp only [Zg,seval,if_true,if_false,reduceCtorEq,Nat.reduceEqDiff,TFor,i1];with_reducible rfl)))
    refine roundK.out () hall ?_
    (repeat' (first|with_reducible refine Qn|((with_reducible refine Qr ?_ ?_);focus (first|with_reducible rfl|(simp only [Zz,Nat.reduceBEq];done)|rfl))|((with_reducible refine Qj (o':=?_) ?_ ?_ ?_);rotate_left 1;focus rfl)|((with_reducible refine Qw ?_ ?_);(focus (first|with_reducible rfl|(simp only [Zv];done)));focus (first|exact id|exact (fun h => nomatch h)|exact (fun _ => rfl)))))
  ·rintro _ hall
   have hB:forB f = true:=by unfold forB;rw [hall,decide_eq_true h8];rfl
   rw [hB]
   repeat' (first|with_reducible (first|refine Q1 ?_|refine Q2 ?_|refine Q3 ?_|refine Q4 ?_|refine Q5 ?_|refine Q6 ?_|refine Q7 ?_|refine Q8 ?_|refine Q9 ?_|refine Qa ?_|refine Qb ?_|refine Qc ?_|refine Qd ?_|refine Qe ?_|refine Qf ?_)|((with_reducible refine Qo ?_ ?_);focus rfl)|((with_reducible first|refine QT 11 (l:=?_) ?_ ?_|refine QF 11 (l:=?_) ?_ ?_);rotate_left 1;focus (simp only [Zu,Nat.reduceSub,Nat.reduceBEq];with_reducible rfl))|((with_reducible first|refine QS (cfg_ok 33) TFor (s':=?_) ?_ ?_|refine QC (b:=?_) ?_ ?_);rotate_left 1;focus ((with_reducible refine QW ?_);simp only [Zg,seval,if_true,if_false,reduceCtorEq,Nat.reduceEqDiff,TFor];with_reducible rfl)))
   (refine Ends.mk (by simp) (rs:=?_) (ks:=?_) hres hrts ?_ ?_ ?_;rotate_left 2;(focus (simp only [Ze,Zg,seval,if_true,if_false,reduceCtorEq,Nat.reduceEqDiff];with_reducible rfl));(focus simp);focus (first|with_reducible rfl|(simp only [Zv];done)))
 ·have i8:((sumLen f:Int) > 8) = True:=eq_true (by omega)
  have hB:forB f = false:=by unfold forB;rw [decide_eq_false h8,Bool.false_and]
  rw [hB]
  repeat' (first|with_reducible (first|refine Q1 ?_|refine Q2 ?_|refine Q3 ?_|refine Q4 ?_|refine Q5 ?_|refine Q6 ?_|refine Q7 ?_|refine Q8 ?_|refine Q9 ?_|refine Qa ?_|refine Qb ?_|refine Qc ?_|refine Qd ?_|refine Qe ?_|refine Qf ?_)|((with_reducible refine Qo ?_ ?_);focus rfl)|((with_reducible first|refine QT 11 (l:=?_) ?_ ?_|refine QF 11 (l:=?_) ?_ ?_);rotate_left 1;focus (simp only [Zu,Nat.reduceSub,Nat.reduceBEq];with_reducible rfl))|((with_reducible first|refine QS (cfg_ok 33) TFor (s':=?_) ?_ ?_|refine QC (b:=?_) ?_ ?_);rotate_left 1;focus ((with_reducible refine QW ?_);simp only [Zg,seval,if_true,if_false,reduceCtorEq,Nat.reduceEqDiff,TFor,hn,i8,eL];with_reducible rfl)))
  (refine Ends.mk (by simp) (rs:=?_) (ks:=?_) hres hrts ?_ ?_ ?_;rotate_left 2;(focus (simp only [Ze,Zg,seval,if_true,if_false,reduceCtorEq,Nat.reduceEqDiff];with_reducible rfl));(focus simp);focus (first|with_reducible rfl|(simp only [Zv];done)))
end Go.Proofs.Ytedgfkpfhonlpaa
namespace Go.Proofs.Ytedgfkpfhonlpaa
open Go.RowKit
theorem Row.take {w:World} {k n m cap:Nat} {ds:List Value} {og:Option Nat} (h:Row w (slv og n cap) k n ds og) (hm:m ≤ n):Row w (slv og m cap) k m (ds.take (m * k)) og:=by
 refine ⟨by rw [List.length_take,h.1];exact Nat.min_eq_left (Nat.mul_le_mul_right k hm),?_⟩
 rcases h.2 with ⟨h1,h2,h3⟩|⟨g,c,cur,e,h1,h2,h3,h4,h5,h6,h7⟩
 ·subst h3
  exact .inl ⟨rfl,by omega,rfl⟩
 ·subst h2
  have hc:cap = c:=by
   unfold slv at h1
   simp only [Value.slice.injEq] at h1
   exact h1.2.2
  subst hc
  refine .inr ⟨g,cap,cur,e,rfl,rfl,h3,by omega,h5,h6,?_⟩
  rw [← h7,List.take_take,Nat.min_eq_left (Nat.mul_le_mul_right k hm)]
section
variable {P:Program} {cfg:Cfg} {M:Nat→Prop} {w0:W0} {w w':World} {Ok:Nat→Prop} {N:Nat} {σ:Asg} {s:St} {a:Act} {ops:Array Oper}
theorem RunK.regCut (C:CfgOK P cfg) (T:Tab P) {fs:List Fr} {Q:Exit→St→Prop} {id:Nat} (n:Nat) {s1:St} (ha:Work (aopsT cfg T ops (ops.toList.take n) s) (some s1))
  (h:ROps P cfg M ops (ops.toList.drop n) (outK P cfg M fs Q .normal) s1):RunK P cfg M (.region id ops false) fs Q s:=by
 refine Runs.region ?_
 have e:ops.toList = ops.toList.take n ++ ops.toList.drop n:=(List.take_append_drop n _).symm
 have cut:∀ (l m:List Oper) (s:St),aopsT cfg T ops l s = some s1→ROps P cfg M ops m (outK P cfg M fs Q .normal) s1→ROps P cfg M ops (l ++ m) (outK P cfg M fs Q .normal) s:=by
  intro l
  induction l with
  | nil => intro m s h1 h2;simp only [aopsT,Option.some.injEq] at h1;subst h1;exact h2
  | cons o l ih =>
   intro m s h1 h2
   simp only [aopsT] at h1
   obtain ⟨s2,h3,h4⟩:=bind_some h1
   exact ROps.stepT C h3 (ih m s2 h4 h2)
 rw [e]
 exact cut _ _ s ha h
end
end Go.Proofs.Ytedgfkpfhonlpaa
namespace Go.Proofs.Ytedgfkpfhonlpaa
open Go.RowKit
section
variable {P:Program} {cfg:Cfg} {w0:W0} {w w':World} {Ok:Nat→Prop} {N:Nat} {σ σ':Asg} {s s':St} {a:Act} {M:Nat→Prop}
theorem relArgs.split {A:Nat→Prop}:∀ {pre:List (List D)} {ds:List (List D)} {vs:List Value},relArgs A w (pre ++ ds) vs→∃ vs1 vs2,vs = vs1 ++ vs2∧relArgs A w pre vs1∧relArgs A w ds vs2
 | [],ds,vs,h => ⟨[],vs,rfl,rfl,h⟩
 | d :: pre,ds,vs,⟨v,us,e,h1,h2⟩ => by
  obtain ⟨us1,us2,e2,h3,h4⟩:=relArgs.split h2
  subst e2;subst e
  exact ⟨v :: us1,us2,rfl,⟨v,us1,rfl,h1,h3⟩,h4⟩
theorem relArgs.join {A:Nat→Prop}:∀ {pre:List (List D)} {ds:List (List D)} {vs1 vs2:List Value},relArgs A w pre vs1→relArgs A w ds vs2→relArgs A w (pre ++ ds) (vs1 ++ vs2)
 | [],ds,vs1,vs2,h,k => by rw [show vs1 = [] from h];exact k
 | d :: pre,ds,vs1,vs2,⟨v,us,e,h1,h2⟩,k => by
  subst e
  exact ⟨v,us ++ vs2,rfl,h1,relArgs.join h2 k⟩
theorem Bel.nil (h:Bel ⟨w,fun b => (none:Option Nat) = some b⟩ w'):Below w.heap.size w w' :=
 ⟨h.os,h.tape,h.output,h.size,fun i hi => h.block i hi (fun e => nomatch e)⟩
theorem AOw.nil {g:FuncId} {pre post:List (List D)} {k:Nat} {Q:List Res→Prop} (h:AOw P g pre k [] post Q) (hk:0 < k):AFn P g (pre ++ [.raw (.slice none 0 0)] :: post) Q:=by
 refine ⟨h.call,fun A w vs hA hr => ?_⟩
 obtain ⟨vs1,vs2,e,h1,v,us,e2,h2,h3⟩:=relArgs.split hr
 subst e2;subst e
 obtain ⟨rfl,_⟩:=rdV_raw.1 (show rdV A w v (.raw (.slice none 0 0)) from h2)
 refine (h.fn A w vs1 us none 0 [] hA h1 h3 ⟨(Nat.zero_mul k).symm,.inl ⟨rfl,rfl,rfl⟩⟩ hk (by first|exact ⟨0,hk,rfl⟩|exact ⟨0,hk,trivial⟩|exact ⟨0,hk,by simp [rdL]⟩) (fun b e => nomatch e)).mono ?_
 rintro e w' ⟨v,rs,rfl,hQ,hb,ho⟩
 have e:(W0.mine ⟨w,fun b => (none:Option Nat) = some b⟩) = fun b => w.heap.size ≤ b:=by funext b;simp [W0.mine]
 rw [e] at ho
 exact ⟨v,rs,rfl,hQ,hb.nil,ho⟩
end
end Go.Proofs.Ytedgfkpfhonlpaa
namespace Go.Proofs.Ytedgfkpfhonlpaa
open Go.RowKit
section
variable {P:Program} {cfg:Cfg} {M:Nat→Prop} {ops:Array Oper} {s:St}
theorem ROps.givesW (o:Oper) {l:List Oper} {Q:St→Prop} {d:Nat} {av:AV} (hw:awanted ops s.regs o = some true) (hd:o.dst = some d) (hdN:d < cfg.N)
  (hG:∀ {w0:W0} {Ok σ a w},Sim w0 Ok cfg.N σ s a w→Gives P a w o (relAV σ s.heap w av)) (h:ROps P cfg M ops l Q ⟨insR d av s.regs,s.heap⟩):ROps P cfg M ops (o :: l) Q s:=by
 intro w0 Ok σ a w Q' hM hS hQ
 refine wpList_step (fun K hK => ?_)
 rw [awanted_spec hS hw]
 simp only [if_true]
 obtain ⟨v,h1,h2⟩:=hG hS
 unfold Oper.wp
 rw [h1]
 show K (a.put o.dst _) _
 rw [hd]
 exact hK _ _ (h w0 Ok σ _ _ Q' hM (Sim.ins hS hdN h2) hQ)
theorem bool_at {w0:W0} {Ok:Nat→Prop} {N:Nat} {σ:Asg} {a:Act} {w:World} (hS:Sim w0 Ok N σ s a w) {z:Operand} {k:Bool} (hz:(opv s.regs z).bind avB = some k):a.eval z = .bool k:=by
 obtain ⟨hv,h3,h4⟩:=bind_some hz
 have hr:=opv_rel hS h3
 unfold avB at h4
 split at h4
 ·cases h4;exact rdV_bool.1 hr.2
 ·cases h4
theorem ROps.boolNe {o:Oper} {l:List Oper} {Q:St→Prop} {x y:Operand} {t u:TypeId} {d:Nat} {m n:Bool} (hu:P.underlying t = some .bool) (ho:o.op = .binOp .neq t x y u) (hw:awanted ops s.regs o = some true) (hd:o.dst = some d) (hdN:d < cfg.N)
  (hx:(opv s.regs x).bind avB = some m) (hy:(opv s.regs y).bind avB = some n) (h:ROps P cfg M ops l Q ⟨insR d (dval (.bool (m != n))) s.regs,s.heap⟩):ROps P cfg M ops (o :: l) Q s:=by
 refine ROps.givesW o hw hd hdN (fun {w0 Ok σ a w} hS => ?_) h
 have e1:=bool_at hS hx
 have e2:=bool_at hS hy
 refine ⟨.bool (m != n),?_,rfl,rdV_bool.2 rfl⟩
 unfold execOp
 rw [ho]
 cases m <;> cases n <;> simp [e1,e2,eqGuard,Go.binOp,run_equal_bool w t _ _ hu]
end
end Go.Proofs.Ytedgfkpfhonlpaa
namespace Go.Proofs.Ytedgfkpfhonlpaa
open Go.RowKit
section
variable {P:Program} {α:Type} {R:Rep α} {e:α→List D}
theorem AFn.of_ob (E:Enc R e) {f:FuncId} {ds:List (List D)} {xs:List α} {c:Bool} (eg:∀ args w,(callFunc f args).run P w = .ok (.enter f args) w)
  (h:∀ (w:World) (A:Nat→Prop) vs,relArgs A w ds vs→Calls P f vs.toArray w (RetOB (RS R) w xs c)):AFn P f ds (· = [.own R.k (xs.map e) true,.val (.bool c)]):=by
 refine ⟨eg,fun A w vs hA hv => (h w A vs hv).mono ?_⟩
 rintro e' w' ⟨v,rfl,ho,hb⟩
 obtain ⟨G,X,h1,h2,h3,h4⟩:=own_relR E ho
 exact ⟨_,_,rfl,rfl,hb,[v,.bool c],G,X,rfl,h1,fun b hb' => (h2 b hb').1,v,[.bool c],G,[],X,[],rfl,by simp,by simp,h3,h4 _ _ _,.bool c,[],[],[],[],[],rfl,rfl,rfl,rfl,⟨rdV_bool.2 rfl,rfl,rfl⟩,rfl,rfl,rfl⟩
theorem AFn.valT2b {f:FuncId} {ds:List (List D)} {k:Nat} {xs:List (List D)} {c:Bool} (h:AFn P f ds (· = [.own k xs true,.val (.bool c)])):AFn P f ds (· = [.val (.sl k xs),.val (.bool c)]):=by
 refine ⟨h.call,fun A w vs hA hr => (h.fn A w vs hA hr).mono ?_⟩
 rintro e w' ⟨v,rs,rfl,rfl,hb,us,G,X,rfl,hG1,hG2,hrel⟩
 obtain ⟨v1,us1,G1,G2,Y1,Y2,rfl,e1,e2,ho,⟨og,cap,F,dd,rfl,hrow,hk,e3,e4,hel⟩,hrest⟩:=hrel
 have hel:ownR k w' dd xs F:=hel
 have hv:=ownV_sl.2 ⟨og,dd,F,hrow,hel,rfl⟩
 obtain ⟨v2,us2,G3,G4,Y3,Y4,rfl,f1,f2,ho2,⟨hv2,f3,f4⟩,hend⟩:=hrest
 have hend:us2 = []∧G4 = []∧Y4 = []:=hend
 obtain ⟨rfl,rfl,rfl⟩:=hend
 refine ⟨_,_,rfl,rfl,hb,[_,_],[],[],rfl,List.nodup_nil,(fun b hb => nomatch hb),_,[_],[],[],[],[],rfl,rfl,rfl,ho,⟨?_,rfl,rfl⟩,_,[],[],[],[],[],rfl,rfl,rfl,ho2,⟨rdV_bool.2 (rdV_bool.1 hv2),rfl,rfl⟩,rfl,rfl,rfl⟩
 exact hv.rd.mono (fun b hb _ => ⟨.inr (hG2 b (by
  rw [e1,e3]
  exact List.mem_append_left _ (by simpa using hb))),by simp⟩)
end
theorem a_treeText (n:Nat) (t:List Int) (h:LevP t) (hn:t.length ≤ n) (h6:t.length ≤ 1000000):AFn Try.prog 55 [eL t] (· = [.val (.raw (bstr (txtF n t)))]) :=
 AFn.of_v (enters_of Try.func55 rfl rfl) (fun _ _ => rdV_raw.2 ⟨rfl,rfl⟩) (fun w A vs h' => by
  obtain ⟨v,rfl,hr⟩:=tab_one h'
  exact c_impl_treeText n v t w hr h hn h6)
theorem a_TreeText (t:List Int) (h:lev8 t = true):AFn Try.prog 20 [eL t] (· = [.val (.raw (bstr (txtF 8 (canon t)))),.val (.int 0)]):=by
 have hl:=a_impl_IsLevels t
 have hc:=AFn.valT (a_canonical t (lev8_lev h) (lev8_len h))
 have ht:=a_treeText 8 (canon t) (canon_lev (lev8_lev h)) (by rw [canon_len (lev8_lev h)];exact lev8_len h) (by rw [canon_len (lev8_lev h)];have:=lev8_len h;omega)
 rw [h] at hl
 simp only [eL] at hl hc ht ⊢
 refine AFn.of_runs (cfg_ok 10) Try.func20 rfl rfl rfl (by simp only [List.length_cons,List.length_nil];decide) ?_
 have hres:Try.f20.results.toList = [.tmp 2,.tmp 3]:=rfl
 have hrts:Try.f20.resultTypes.toList = [9,2]:=rfl
 simp only [argRegs,argAV1,eL,eI,eLL,eB,Nat.zero_add,Nat.reduceAdd]
 intro M
 refine RunK.of ?_
 repeat' (first|with_reducible (first|refine Q1 ?_|refine Q2 ?_|refine Q3 ?_|refine Q4 ?_|refine Q5 ?_|refine Q6 ?_|refine Q7 ?_|refine Q8 ?_|refine Q9 ?_|refine Qa ?_|refine Qb ?_|refine Qc ?_|refine Qd ?_|refine Qe ?_|refine Qf ?_)|((with_reducible refine Qo ?_ ?_);focus rfl)|((with_reducible first|refine QT 4 (l:=?_) ?_ ?_|refine QF 4 (l:=?_) ?_ ?_);rotate_left 1;focus (simp only [Zu,Nat.reduceSub,Nat.reduceBEq];with_reducible rfl))|((with_reducible first|refine QS (cfg_ok 10) (((Tab.none.at' 9 hl).at' 43 hc).at' 55 ht) (s':=?_) ?_ ?_|refine QC (b:=?_) ?_ ?_);rotate_left 1;focus ((with_reducible refine QW ?_);simp only [Zg,seval,if_true,if_false,reduceCtorEq,Nat.reduceEqDiff];with_reducible rfl)))
 (refine Ends.mk (by simp) (rs:=?_) (ks:=?_) hres hrts ?_ ?_ ?_;rotate_left 2;(focus (simp only [Ze,Zg,seval,if_true,if_false,reduceCtorEq,Nat.reduceEqDiff];with_reducible rfl));(focus simp);focus (first|with_reducible rfl|(simp only [Zv];done)))
theorem a_readForest (s:List UInt8) (h:s.length ≤ 1000000):AFn Try.prog 56 [[.raw (bstr s)]] (· = [.own 1 ((rdF s).1.map eL) true,.val (.bool (rdF s).2)]) :=
 AFn.of_ob (encS encI) (enters_of Try.func56 rfl rfl) (fun w A vs h' => by
  obtain ⟨v1,_,e1,h1,e2⟩:=h'
  have e2:_ = []:=e2
  subst e2;subst e1
  obtain ⟨rfl,_⟩:=rdV_raw.1 h1
  exact c_impl_readForest s w h)
theorem a_ParseTree (s:List UInt8) (t:List Int) (h:s.length ≤ 1000000) (hr:rdF s = ([t],true)) (ht:canT t = true):AFn Try.prog 21 [[.raw (bstr s)]] (· = [.val (.sl 1 (t.map eI)),.val (.int 0)]):=by
 have hrf:=AFn.valT2b (a_readForest s h)
 rw [hr] at hrf
 have hi:=a_impl_IsTree t
 rw [ht] at hi
 simp only [eL,List.map_cons,List.map_nil] at hrf hi
 refine AFn.of_runs (cfg_ok 28) Try.func21 rfl rfl rfl (by simp only [List.length_cons,List.length_nil];decide) ?_
 have hres:Try.f21.results.toList = [.tmp 2,.tmp 3]:=rfl
 have hrts:Try.f21.resultTypes.toList = [24,2]:=rfl
 simp only [argRegs,argAV1,eL,eI,eLL,eB,Nat.zero_add,Nat.reduceAdd]
 intro M
 refine RunK.of ?_
 repeat' (first|with_reducible (first|refine Q1 ?_|refine Q2 ?_|refine Q3 ?_|refine Q4 ?_|refine Q5 ?_|refine Q6 ?_|refine Q7 ?_|refine Q8 ?_|refine Q9 ?_|refine Qa ?_|refine Qb ?_|refine Qc ?_|refine Qd ?_|refine Qe ?_|refine Qf ?_)|((with_reducible refine Qo ?_ ?_);focus rfl)|((with_reducible first|refine QT 6 (l:=?_) ?_ ?_|refine QF 6 (l:=?_) ?_ ?_);rotate_left 1;focus (simp only [Zu,Nat.reduceSub,Nat.reduceBEq];with_reducible rfl))|((with_reducible first|refine QS (cfg_ok 28) ((Tab.none.at' 56 hrf).at' 13 hi) (s':=?_) ?_ ?_|refine QC (b:=?_) ?_ ?_);rotate_left 1;focus ((with_reducible refine QW ?_);simp only [Zg,seval,if_true,if_false,reduceCtorEq,Nat.reduceEqDiff];with_reducible rfl)))
 (refine Ends.mk (by simp) (rs:=?_) (ks:=?_) hres hrts ?_ ?_ ?_;rotate_left 2;(focus (simp only [Ze,Zg,seval,if_true,if_false,reduceCtorEq,Nat.reduceEqDiff];with_reducible rfl));(focus simp);focus (first|with_reducible rfl|(simp only [Zv];done)))
end Go.Proofs.Ytedgfkpfhonlpaa
namespace Go.Proofs.Ytedgfkpfhonlpaa
open Go.RowKit
set_option maxRecDepth 100000 in
set_option maxHeartbeats 4000000 in
theorem c_BinarySearch (v1 v2:Value) (L:List (List Int)) (t:List Int) (i:Nat) (w:World) (h1:Rd (RS (RS RI)) w [v1] L) (h2:Rd (RS RI) w [v2] t) (hsz:L.length ≤ 1000000000) (hi:i < L.length)
  (hlo:∀ k (h:k < L.length),k < i→cmpT L[k] t < 0) (hhi:∀ k (h:k < L.length),i ≤ k→0 ≤ cmpT L[k] t) (heq:cmpT L[i] t = 0) :
  Calls Try.prog 81 #[v1,v2,.func (.func 42) #[] #[]] w (RetS w (.tuple #[.int .i64 i,.bool true])):=by
 obtain ⟨oa,ca,L1⟩:=h1.lists
 obtain rfl:=L1.val
 have m1:=L1.le;have m2:=L1.capLe
 unfold maxLen at m2
 obtain ⟨ob,cb,rfl,m3,m4⟩:=h2.val
 have HL1:=Lib.hid L1
 have HLO:=Lib.hid hlo
 have HHI:=Lib.hid hhi
 have H2:=Lib.hid h2
 have HEQ:=Lib.hid heq
 clear L1 h1 hlo hhi h2 heq
 go_enter Try.func81,Try.ntmps81
 go_wp2_with fail
 go_loop [9,10] (fun s9 s10 => ∃ lo hi:Nat,lo ≤ i∧i ≤ hi∧hi ≤ L.length∧s9 = .int .i64 lo∧s10 = .int .i64 hi) (fun s9 s10 => (intOf s10).toNat - (intOf s9).toNat)
 case atStart => exact ⟨0,L.length,Nat.zero_le _,Nat.le_of_lt hi,Nat.le_refl _,rfl,rfl⟩
 case round =>
  obtain ⟨lo,hi',h1,h2,h3,rfl,rfl⟩:=hrel
  by_cases hlt:lo < hi'
  ·have hmn:(lo + hi') / 2 < L.length:=by omega
   obtain ⟨b1,o1,rfl,hb1,hc1⟩:=HL1.out.get hmn
   obtain ⟨oi,ci,g1,hrd1,q1,q2⟩:=hc1 _ hmn
   have hcall:=c_impl_compareTrees _ _ _ _ w hrd1 H2.out
   obtain ⟨z,hz⟩:∃ z,z = cmpT L[(lo + hi') / 2] t:=⟨_,rfl⟩
   obtain ⟨x1,hx1⟩:∃ x,x = L[(lo + hi') / 2].length:=⟨_,rfl⟩
   rw [← hz] at hcall
   rw [← hx1] at g1 q1 hcall
   have HC:=Lib.hid hcall
   have i1:(0:Int) ≤ ((lo:Int) + (hi':Int)) / 2:=by omega
   have i2:((lo:Int) + (hi':Int)) / 2 < (L.length:Int):=by omega
   by_cases hc:z < 0
   ·have hmi:(lo + hi') / 2 < i:=Nat.lt_of_not_le (fun h => by have:=HHI.out _ hmn h;omega)
    clear hc1 hrd1 hcall hx1 hz
    go_wp2_with (go_at_call 42;refine HC.out.mono ?_;rintro e w' ⟨rfl,rfl⟩)
    go_round
    case rel => exact ⟨(lo + hi') / 2 + 1,hi',by omega,by omega,by omega,by congr 1,rfl⟩
    case measure => simp [intOf];omega
   ·have hmi:i ≤ (lo + hi') / 2:=Nat.le_of_not_lt (fun h => by have:=HLO.out _ hmn h;omega)
    clear hc1 hrd1 hcall hx1 hz
    go_wp2_with (go_at_call 42;refine HC.out.mono ?_;rintro e w' ⟨rfl,rfl⟩)
    go_round
    case rel => exact ⟨lo,(lo + hi') / 2,by omega,by omega,by omega,rfl,by congr 1⟩
    case measure => simp [intOf];omega
  ·obtain rfl:lo = i:=by omega
   obtain ⟨b1,o1,rfl,hb1,hc1⟩:=HL1.out.get hi
   obtain ⟨oi,ci,g1,hrd1,q1,q2⟩:=hc1 _ hi
   have hcall:=c_impl_compareTrees _ _ _ _ w hrd1 H2.out
   rw [HEQ.out] at hcall
   obtain ⟨x1,hx1⟩:∃ x,x = L[lo].length:=⟨_,rfl⟩
   rw [← hx1] at g1 q1 hcall
   have HC:=Lib.hid hcall
   clear hc1 hrd1 hcall hx1
   go_wp2_with (go_at_call 42;refine HC.out.mono ?_;rintro e w' ⟨rfl,rfl⟩)
   go_ret2
   exact ⟨rfl,rfl⟩
end Go.Proofs.Ytedgfkpfhonlpaa
namespace Go.Proofs.Ytedgfkpfhonlpaa
def lastBig (t:List Int):Nat→Nat
 | 0 => 0
 | p + 1 => if t.getD p 0 ≤ 1 then lastBig t p else p + 1
def lastEq (t:List Int) (l:Int):Nat→Nat
 | 0 => 0
 | q + 1 => if t.getD q 0 = l then q else lastEq t l q
def copyFrom (p q:Nat):Nat→List Int→List Int
 | 0,t => t
 | k + 1,t => (copyFrom p q k t).set (p + k) ((copyFrom p q k t).getD (p + k - (p - q)) 0)
def nextT (t:List Int):Option (List Int) :=
 match lastBig t t.length with
 | 0 => none
 | p + 1 => some (copyFrom p (lastEq t (t.getD p 0 - 1) p) (t.length - p) t)
def treesF:Nat→List Int→List (List Int)
 | 0,_ => []
 | f + 1,t => t :: match nextT t with
  | none => []
  | some s => treesF f s
def treesN (n:Nat):List (List Int):=treesF 120 ((List.range n).map fun (i:Nat) => (i:Int))
theorem trees_len:[1,2,3,4,5,6,7,8].map (fun n => (treesN n).length) = [1,1,2,4,9,20,48,115]:=by decide +kernel
end Go.Proofs.Ytedgfkpfhonlpaa
namespace Go.Proofs.Ytedgfkpfhonlpaa
open Go.RowKit
theorem a_slicesClone (xs:List Int) (h:xs.length ≤ 1000000000):AFn Try.prog 95 [eL xs] (· = [.own 1 (xs.map eI) true]):=afn_L_o (enters_of Try.func95 rfl rfl) (fun u w h' => c_slicesClone u xs w h' h)
def stepOk (n:Nat) (t:List Int):Bool :=
 t.length == n && t.all (fun x => decide (0 ≤ x) && decide (x ≤ 8)) && (match lastBig t n with
  | 0 => true
  | p + 1 => decide (p < n) && (let q:=lastEq t (t.getD p 0 - 1) p;decide (q < p) && t.getD q 0 == t.getD p 0 - 1))
theorem step_all:∀ n ∈ [1,2,3,4,5,6,7,8],(treesN n).all (stepOk n) = true:=by decide +kernel
theorem copyFrom_len (p q:Nat) (t:List Int):∀ k,(copyFrom p q k t).length = t.length
 | 0 => rfl
 | k + 1 => by unfold copyFrom;rw [List.length_set,copyFrom_len p q t k]
set_option maxHeartbeats 4000000 in
theorem a_treesOf (n:Nat) (hn:n ∈ [1,2,3,4,5,6,7,8]):AFn Try.prog 82 [eI n] (· = [.own 1 ((treesN n).map eL) true]):=by
 have hn8:1 ≤ n∧n ≤ 8:=by simp at hn;omega
 have hlen:(treesN n).length ≤ 115:=by
  have:=trees_len
  simp at hn
  rcases hn with rfl|rfl|rfl|rfl|rfl|rfl|rfl|rfl <;> simp at this <;> omega
 have hok:=List.all_eq_true.1 (step_all n hn)
 refine AFn.of_runs (cfg_ok 72) Try.func82 rfl rfl rfl (by simp only [List.length_cons,List.length_nil];decide) ?_
 have hres:Try.f82.results.toList = [.tmp 2]:=rfl
 have hrts:Try.f82.resultTypes.toList = [33]:=rfl
 simp only [argRegs,argAV1,eL,eI,eLL,eB,Nat.zero_add,Nat.reduceAdd]
 intro M
 refine RunK.of ?_
 repeat' (first|with_reducible (first|refine Q1 ?_|refine Q2 ?_|refine Q3 ?_|refine Q4 ?_|refine Q5 ?_|refine Q6 ?_|refine Q7 ?_|refine Q8 ?_|refine Q9 ?_|refine Qa ?_|refine Qb ?_|refine Qc ?_|refine Qd ?_|refine Qe ?_|refine Qf ?_)|((with_reducible refine Qo ?_ ?_);focus rfl)|((with_reducible first|refine QT 13 (l:=?_) ?_ ?_|refine QF 13 (l:=?_) ?_ ?_);rotate_left 1;focus (simp only [Zu,Nat.reduceSub,Nat.reduceBEq];with_reducible rfl))|((with_reducible first|refine QS (cfg_ok 72) Tab.none (s':=?_) ?_ ?_|refine QC (b:=?_) ?_ ?_);rotate_left 1;focus ((with_reducible refine QW ?_);simp only [Zg,seval,if_true,if_false,reduceCtorEq,Nat.reduceEqDiff];with_reducible rfl)))
 refine RunK.loop (β:=Nat) (γ:=Unit) (fun i => ⟨[(0,.c (.val (.int n))),(3,.c (.own 3 i)),(4,.c (.own 4 0)),(11,.c (.val (.int n))),(12,.c (.val (.int i)))],[(3,.row 1 ((List.range i).map fun (j:Nat) => [.int j]) true),(4,.row 1 [] true)]⟩) (fun i => i ≤ n) (fun i => n - i)
  (fun _ => ⟨[(0,.c (.val (.int n))),(3,.c (.own 3 n)),(4,.c (.own 4 0))],[(3,.row 1 ((List.range n).map fun (j:Nat) => [.int j]) true),(4,.row 1 [] true)]⟩) (fun _ => True) 0 (Nat.zero_le _) ?_ ?_ ?_
 ·(repeat' (first|with_reducible refine Qn|((with_reducible refine Qr ?_ ?_);focus (first|with_reducible rfl|(simp only [Zz,Nat.reduceBEq,List.range_zero];done)|rfl))|((with_reducible refine Qj (o':=?_) ?_ ?_ ?_);rotate_left 1;focus rfl)|((with_reducible refine Qw ?_ ?_);(focus (first|with_reducible rfl|(simp only [Zv,List.range_zero];done)));focus (first|exact id|exact (fun h => nomatch h)|exact (fun _ => rfl)))))
 ·intro i hi
  have hw:=w64_succ (n:=i) (by omega)
  have q1:=big_le (n:=i + 1) (by omega)
  have q2:=big_mul (n:=i + 1) (c:=8) (by omega) (by omega)
  by_cases h:i < n
  ·have i1:((i:Int) < (n:Int)) = True:=eq_true (by omega)
   repeat' (first|with_reducible (first|refine Q1 ?_|refine Q2 ?_|refine Q3 ?_|refine Q4 ?_|refine Q5 ?_|refine Q6 ?_|refine Q7 ?_|refine Q8 ?_|refine Q9 ?_|refine Qa ?_|refine Qb ?_|refine Qc ?_|refine Qd ?_|refine Qe ?_|refine Qf ?_)|((with_reducible refine Qo ?_ ?_);focus rfl)|((with_reducible first|refine QT 13 (l:=?_) ?_ ?_|refine QF 13 (l:=?_) ?_ ?_);rotate_left 1;focus (simp only [Zu,Nat.reduceSub,Nat.reduceBEq];with_reducible rfl))|((with_reducible first|refine QS (cfg_ok 72) Tab.none (s':=?_) ?_ ?_|refine QC (b:=?_) ?_ ?_);rotate_left 1;focus ((with_reducible refine QW ?_);simp only [Zg,seval,if_true,if_false,reduceCtorEq,Nat.reduceEqDiff,List.length_map,List.length_range,i1,hw,q1,q2];with_reducible rfl)))
   refine roundK.on (i + 1) ⟨h,by omega⟩ ?_
   (repeat' (first|with_reducible refine Qn|((with_reducible refine Qr ?_ ?_);focus (first|with_reducible rfl|(simp only [Zz,Nat.reduceBEq,List.range_succ];done)|rfl))|((with_reducible refine Qj (o':=?_) ?_ ?_ ?_);rotate_left 1;focus rfl)|((with_reducible refine Qw ?_ ?_);(focus (first|with_reducible rfl|(simp only [Zv,List.range_succ];done)));focus (first|exact id|exact (fun h => nomatch h)|exact (fun _ => rfl)))))
  ·have i1:((i:Int) < (n:Int)) = False:=eq_false (by omega)
   obtain rfl:i = n:=by omega
   repeat' (first|with_reducible (first|refine Q1 ?_|refine Q2 ?_|refine Q3 ?_|refine Q4 ?_|refine Q5 ?_|refine Q6 ?_|refine Q7 ?_|refine Q8 ?_|refine Q9 ?_|refine Qa ?_|refine Qb ?_|refine Qc ?_|refine Qd ?_|refine Qe ?_|refine Qf ?_)|((with_reducible refine Qo ?_ ?_);focus rfl)|((with_reducible first|refine QT 13 (l:=?_) ?_ ?_|refine QF 13 (l:=?_) ?_ ?_);rotate_left 1;focus (simp only [Zu,Nat.reduceSub,Nat.reduceBEq];with_reducible rfl))|((with_reducible first|refine QS (cfg_ok 72) Tab.none (s':=?_) ?_ ?_|refine QC (b:=?_) ?_ ?_);rotate_left 1;focus ((with_reducible refine QW ?_);simp only [Zg,seval,if_true,if_false,reduceCtorEq,Nat.reduceEqDiff,i1];with_reducible rfl)))
   refine roundK.out () trivial ?_
   (repeat' (first|with_reducible refine Qn|((with_reducible refine Qr ?_ ?_);focus (first|with_reducible rfl|(simp only [Zz,Nat.reduceBEq];done)|rfl))|((with_reducible refine Qj (o':=?_) ?_ ?_ ?_);rotate_left 1;focus rfl)|((with_reducible refine Qw ?_ ?_);(focus (first|with_reducible rfl|(simp only [Zv];done)));focus (first|exact id|exact (fun h => nomatch h)|exact (fun _ => rfl)))))
 ·rintro _ _
  repeat' (first|with_reducible (first|refine Q1 ?_|refine Q2 ?_|refine Q3 ?_|refine Q4 ?_|refine Q5 ?_|refine Q6 ?_|refine Q7 ?_|refine Q8 ?_|refine Q9 ?_|refine Qa ?_|refine Qb ?_|refine Qc ?_|refine Qd ?_|refine Qe ?_|refine Qf ?_)|((with_reducible refine Qo ?_ ?_);focus rfl)|((with_reducible first|refine QT 13 (l:=?_) ?_ ?_|refine QF 13 (l:=?_) ?_ ?_);rotate_left 1;focus (simp only [Zu,Nat.reduceSub,Nat.reduceBEq];with_reducible rfl))|((with_reducible first|refine QS (cfg_ok 72) Tab.none (s':=?_) ?_ ?_|refine QC (b:=?_) ?_ ?_);rotate_left 1;focus ((with_reducible refine QW ?_);simp only [Zg,seval,if_true,if_false,reduceCtorEq,Nat.reduceEqDiff];with_reducible rfl)))
  refine RunK.loop (β:=Nat × List (List Int) × List Int) (γ:=Unit) (fun x => ⟨[(0,.c (.val (.int n))),(3,.c (.own 3 n)),(4,.c (.own 4 x.2.1.length))],[(3,.row 1 (x.2.2.map eI) true),(4,.row 1 (x.2.1.map eL) true)]⟩)
   (fun x => treesN n = x.2.1 ++ treesF x.1 x.2.2∧x.2.1.length + x.1 = 120∧0 < x.1) (fun x => x.1)
   (fun _ => ⟨[],[]⟩) (fun _ => False) (120,[],(List.range n).map fun (i:Nat) => (i:Int)) ⟨rfl,rfl,by show 0 < 120;omega⟩ ?_ ?_ ?_
  ·(repeat' (first|with_reducible refine Qn|((with_reducible refine Qr ?_ ?_);focus (first|with_reducible rfl|(simp only [Zz,Nat.reduceBEq,List.map_map,eI,Function.comp_def];done)|rfl))|((with_reducible refine Qj (o':=?_) ?_ ?_ ?_);rotate_left 1;focus rfl)|((with_reducible refine Qw ?_ ?_);(focus (first|with_reducible rfl|(simp only [Zv,List.map_map,eI,Function.comp_def];done)));focus (first|exact id|exact (fun h => nomatch h)|exact (fun _ => rfl)))))
  ·rintro ⟨f,done,t⟩ ⟨h1,h2,h3⟩
   have h1:treesN n = done ++ treesF f t:=h1
   have h2:done.length + f = 120:=h2
   have h3:0 < f:=h3
   obtain ⟨f,rfl⟩:∃ f',f = f' + 1:=⟨f - 1,by omega⟩
   have hmem:t ∈ treesN n:=by rw [h1];exact List.mem_append_right _ (by simp [treesF])
   have hso:=hok t hmem
   unfold stepOk at hso
   simp only [Bool.and_eq_true,beq_iff_eq] at hso
   obtain ⟨⟨htl,htb⟩,hstep⟩:=hso
   have hdl:done.length ≤ 115:=by have:=congrArg List.length h1;simp at this;omega
   have q1:=big_le (n:=done.length + 1) (by omega)
   have q2:=big_mul (n:=done.length + 1) (c:=24) (by omega) (by omega)
   have hcl:=a_slicesClone t (by omega)
   have htlI:((t.map eI).length) = n:=by simp [htl]
   have hwn:w64 ((n:Int) - 1) = (n:Int) - 1:=w64_eq (by omega)
   repeat' (first|with_reducible (first|refine Q1 ?_|refine Q2 ?_|refine Q3 ?_|refine Q4 ?_|refine Q5 ?_|refine Q6 ?_|refine Q7 ?_|refine Q8 ?_|refine Q9 ?_|refine Qa ?_|refine Qb ?_|refine Qc ?_|refine Qd ?_|refine Qe ?_|refine Qf ?_)|((with_reducible refine Qo ?_ ?_);focus rfl)|((with_reducible first|refine QT 13 (l:=?_) ?_ ?_|refine QF 13 (l:=?_) ?_ ?_);rotate_left 1;focus (simp only [Zu,Nat.reduceSub,Nat.reduceBEq];with_reducible rfl))|((with_reducible first|refine QS (cfg_ok 72) (Tab.none.at' 95 hcl) (s':=?_) ?_ ?_|refine QC (b:=?_) ?_ ?_);rotate_left 1;focus ((with_reducible refine QW ?_);simp only [Zg,seval,if_true,if_false,reduceCtorEq,Nat.reduceEqDiff,eL,htlI,List.length_map,htl,q1,q2,hwn];with_reducible rfl)))
   have hget:∀ {k:Nat} (hk:k < n),(t.map eI)[k]? = some [.int (t.getD k 0)]:=by
    intro k hk
    rw [map_get (by omega)];simp [eI,List.getD_eq_getElem?_getD,List.getElem?_eq_getElem (show k < t.length by omega)]
   have hbd:∀ {k:Nat} (hk:k < n),0 ≤ t.getD k 0∧t.getD k 0 ≤ 8:=by
    intro k hk
    have:=List.all_eq_true.1 htb (t.getD k 0) (by rw [List.getD_eq_getElem?_getD,List.getElem?_eq_getElem (show k < t.length by omega)];exact List.getElem_mem _)
    simpa using this
   refine RunK.loop (β:=Nat) (γ:=Nat) (fun m => ⟨[(0,.c (.val (.int n))),(3,.c (.own 3 n)),(4,.c (.own 4 (done.length + 1))),(6,.c (.val (.int ((m:Int) - 1))))],[(3,.row 1 (t.map eI) true),(4,.row 1 (done.map eL ++ [[.sl 1 (t.map eI)]]) true)]⟩)
    (fun m => m ≤ n∧lastBig t n = lastBig t m) (fun m => m)
    (fun m => ⟨[(0,.c (.val (.int n))),(3,.c (.own 3 n)),(4,.c (.own 4 (done.length + 1))),(6,.c (.val (.int ((m:Int) - 1))))],[(3,.row 1 (t.map eI) true),(4,.row 1 (done.map eL ++ [[.sl 1 (t.map eI)]]) true)]⟩) (fun m => lastBig t n = m) n ⟨Nat.le_refl _,rfl⟩ ?_ ?_ ?_
   ·(repeat' (first|with_reducible refine Qn|((with_reducible refine Qr ?_ ?_);focus (first|with_reducible rfl|(simp only [Zz,Nat.reduceBEq];done)|rfl))|((with_reducible refine Qj (o':=?_) ?_ ?_ ?_);rotate_left 1;focus rfl)|((with_reducible refine Qw ?_ ?_);(focus (first|with_reducible rfl|(simp only [Zv];done)));focus (first|exact id|exact (fun h => nomatch h)|exact (fun _ => rfl)))))
   ·rintro m ⟨hm,hlb⟩
    rcases m with _|k
    ·have i1:((((0:Nat):Int) - 1) ≥ 0) = False:=eq_false (by omega)
     repeat' (first|with_reducible (first|refine Q1 ?_|refine Q2 ?_|refine Q3 ?_|refine Q4 ?_|refine Q5 ?_|refine Q6 ?_|refine Q7 ?_|refine Q8 ?_|refine Q9 ?_|refine Qa ?_|refine Qb ?_|refine Qc ?_|refine Qd ?_|refine Qe ?_|refine Qf ?_)|((with_reducible refine Qo ?_ ?_);focus rfl)|((with_reducible first|refine QT 13 (l:=?_) ?_ ?_|refine QF 13 (l:=?_) ?_ ?_);rotate_left 1;focus (simp only [Zu,Nat.reduceSub,Nat.reduceBEq];with_reducible rfl))|((with_reducible first|refine QS (cfg_ok 72) Tab.none (s':=?_) ?_ ?_|refine QC (b:=?_) ?_ ?_);rotate_left 1;focus ((with_reducible refine QW ?_);simp only [Zg,seval,if_true,if_false,reduceCtorEq,Nat.reduceEqDiff,i1];with_reducible rfl)))
     refine roundK.out 0 hlb ?_
     (repeat' (first|with_reducible refine Qn|((with_reducible refine Qr ?_ ?_);focus (first|with_reducible rfl|(simp only [Zz,Nat.reduceBEq];done)|rfl))|((with_reducible refine Qj (o':=?_) ?_ ?_ ?_);rotate_left 1;focus rfl)|((with_reducible refine Qw ?_ ?_);(focus (first|with_reducible rfl|(simp only [Zv];done)));focus (first|exact id|exact (fun h => nomatch h)|exact (fun _ => rfl)))))
    ·have hA:(((k + 1:Nat):Int) - 1) = (k:Int):=by omega
     have i1:((k:Int) ≥ 0) = True:=eq_true (by omega)
     have i2:((0:Int) ≤ (k:Int)) = True:=eq_true (by omega)
     have i5:((k:Int) < (n:Int)) = True:=eq_true (by have:k + 1 ≤ n:=hm;omega)
     have hk:=hget (k:=k) (by have:k + 1 ≤ n:=hm;omega)
     have hw:w64 ((k:Int) - 1) = (k:Int) - 1:=w64_eq (by omega)
     by_cases hle:t.getD k 0 ≤ 1
     ·have i3:(t.getD k 0 ≤ 1) = True:=eq_true hle
      repeat' (first|with_reducible (first|refine Q1 ?_|refine Q2 ?_|refine Q3 ?_|refine Q4 ?_|refine Q5 ?_|refine Q6 ?_|refine Q7 ?_|refine Q8 ?_|refine Q9 ?_|refine Qa ?_|refine Qb ?_|refine Qc ?_|refine Qd ?_|refine Qe ?_|refine Qf ?_)|((with_reducible refine Qo ?_ ?_);focus rfl)|((with_reducible first|refine QT 13 (l:=?_) ?_ ?_|refine QF 13 (l:=?_) ?_ ?_);rotate_left 1;focus (simp only [Zu,Nat.reduceSub,Nat.reduceBEq];with_reducible rfl))|((with_reducible first|refine QS (cfg_ok 72) Tab.none (s':=?_) ?_ ?_|refine QC (b:=?_) ?_ ?_);rotate_left 1;focus ((with_reducible refine QW ?_);simp only [Zg,seval,if_true,if_false,reduceCtorEq,Nat.reduceEqDiff,hA,i1,i2,i5,hk,i3,hw,htlI,Int.toNat_natCast];with_reducible rfl)))
      refine roundK.on k ⟨⟨by omega,?_⟩,by omega⟩ ?_
      ·rw [hlb]
       show (if t.getD k 0 ≤ 1 then lastBig t k else k + 1) = lastBig t k
       rw [if_pos hle]
      ·(repeat' (first|with_reducible refine Qn|((with_reducible refine Qr ?_ ?_);focus (first|with_reducible rfl|(simp only [Zz,Nat.reduceBEq];done)|rfl))|((with_reducible refine Qj (o':=?_) ?_ ?_ ?_);rotate_left 1;focus rfl)|((with_reducible refine Qw ?_ ?_);(focus (first|with_reducible rfl|(simp only [Zv];done)));focus (first|exact id|exact (fun h => nomatch h)|exact (fun _ => rfl)))))
     ·have i3:(t.getD k 0 ≤ 1) = False:=eq_false hle
      repeat' (first|with_reducible (first|refine Q1 ?_|refine Q2 ?_|refine Q3 ?_|refine Q4 ?_|refine Q5 ?_|refine Q6 ?_|refine Q7 ?_|refine Q8 ?_|refine Q9 ?_|refine Qa ?_|refine Qb ?_|refine Qc ?_|refine Qd ?_|refine Qe ?_|refine Qf ?_)|((with_reducible refine Qo ?_ ?_);focus rfl)|((with_reducible first|refine QT 13 (l:=?_) ?_ ?_|refine QF 13 (l:=?_) ?_ ?_);rotate_left 1;focus (simp only [Zu,Nat.reduceSub,Nat.reduceBEq];with_reducible rfl))|((with_reducible first|refine QS (cfg_ok 72) Tab.none (s':=?_) ?_ ?_|refine QC (b:=?_) ?_ ?_);rotate_left 1;focus ((with_reducible refine QW ?_);simp only [Zg,seval,if_true,if_false,reduceCtorEq,Nat.reduceEqDiff,hA,i1,i2,i5,hk,i3,hw,htlI,Int.toNat_natCast];with_reducible rfl)))
      refine roundK.out (k + 1) ?_ ?_
      ·rw [hlb]
       show (if t.getD k 0 ≤ 1 then lastBig t k else k + 1) = k + 1
       rw [if_neg hle]
      ·(repeat' (first|with_reducible refine Qn|((with_reducible refine Qr ?_ ?_);focus (first|with_reducible rfl|(simp only [Zz,Nat.reduceBEq,hA];done)|rfl))|((with_reducible refine Qj (o':=?_) ?_ ?_ ?_);rotate_left 1;focus rfl)|((with_reducible refine Qw ?_ ?_);(focus (first|with_reducible rfl|(simp only [Zv,hA];done)));focus (first|exact id|exact (fun h => nomatch h)|exact (fun _ => rfl)))))
   ·intro m hm
    have hm:lastBig t n = m:=hm
    rw [hm] at hstep
    rcases m with _|p
    ·have i1:((((0:Nat):Int) - 1) < 0) = True:=eq_true (by omega)
     repeat' (first|with_reducible (first|refine Q1 ?_|refine Q2 ?_|refine Q3 ?_|refine Q4 ?_|refine Q5 ?_|refine Q6 ?_|refine Q7 ?_|refine Q8 ?_|refine Q9 ?_|refine Qa ?_|refine Qb ?_|refine Qc ?_|refine Qd ?_|refine Qe ?_|refine Qf ?_)|((with_reducible refine Qo ?_ ?_);focus rfl)|((with_reducible first|refine QT 13 (l:=?_) ?_ ?_|refine QF 13 (l:=?_) ?_ ?_);rotate_left 1;focus (simp only [Zu,Nat.reduceSub,Nat.reduceBEq];with_reducible rfl))|((with_reducible first|refine QS (cfg_ok 72) Tab.none (s':=?_) ?_ ?_|refine QC (b:=?_) ?_ ?_);rotate_left 1;focus ((with_reducible refine QW ?_);simp only [Zg,seval,if_true,if_false,reduceCtorEq,Nat.reduceEqDiff,i1];with_reducible rfl)))
     have hnx:nextT t = none:=by unfold nextT;rw [htl,hm]
     have htr:treesN n = done ++ [t]:=by rw [h1];unfold treesF;rw [hnx]
     refine roundK.ret ?_
     repeat' (first|with_reducible (first|refine Q1 ?_|refine Q2 ?_|refine Q3 ?_|refine Q4 ?_|refine Q5 ?_|refine Q6 ?_|refine Q7 ?_|refine Q8 ?_|refine Q9 ?_|refine Qa ?_|refine Qb ?_|refine Qc ?_|refine Qd ?_|refine Qe ?_|refine Qf ?_)|((with_reducible refine Qo ?_ ?_);focus rfl)|((with_reducible first|refine QT 13 (l:=?_) ?_ ?_|refine QF 13 (l:=?_) ?_ ?_);rotate_left 1;focus (simp only [Zu,Nat.reduceSub,Nat.reduceBEq];with_reducible rfl))|((with_reducible first|refine QS (cfg_ok 72) Tab.none (s':=?_) ?_ ?_|refine QC (b:=?_) ?_ ?_);rotate_left 1;focus ((with_reducible refine QW ?_);simp only [Zg,seval,if_true,if_false,reduceCtorEq,Nat.reduceEqDiff];with_reducible rfl)))
     rw [htr]
     (refine Ends.mk (by simp) (rs:=?_) (ks:=?_) hres hrts ?_ ?_ ?_;rotate_left 2;(focus (simp only [Ze,Zg,seval,if_true,if_false,reduceCtorEq,Nat.reduceEqDiff,List.map_append,List.map_cons,List.map_nil,eL];with_reducible rfl));(focus simp);focus (first|with_reducible rfl|(simp only [Zv,List.map_append,List.map_cons,List.map_nil,eL];done)))
    ·have hA:(((p + 1:Nat):Int) - 1) = (p:Int):=by omega
     have i1:((p:Int) < 0) = False:=eq_false (by omega)
     obtain ⟨hpn,hq,hqv⟩:p < n∧lastEq t (t.getD p 0 - 1) p < p∧t.getD (lastEq t (t.getD p 0 - 1) p) 0 = t.getD p 0 - 1:=by simpa [and_assoc] using hstep
     generalize hqd:lastEq t (t.getD p 0 - 1) p = q at hq hqv
     have hwp:w64 ((p:Int) - 1) = (p:Int) - 1:=w64_eq (by omega)
     repeat' (first|with_reducible (first|refine Q1 ?_|refine Q2 ?_|refine Q3 ?_|refine Q4 ?_|refine Q5 ?_|refine Q6 ?_|refine Q7 ?_|refine Q8 ?_|refine Q9 ?_|refine Qa ?_|refine Qb ?_|refine Qc ?_|refine Qd ?_|refine Qe ?_|refine Qf ?_)|((with_reducible refine Qo ?_ ?_);focus rfl)|((with_reducible first|refine QT 13 (l:=?_) ?_ ?_|refine QF 13 (l:=?_) ?_ ?_);rotate_left 1;focus (simp only [Zu,Nat.reduceSub,Nat.reduceBEq];with_reducible rfl))|((with_reducible first|refine QS (cfg_ok 72) Tab.none (s':=?_) ?_ ?_|refine QC (b:=?_) ?_ ?_);rotate_left 1;focus ((with_reducible refine QW ?_);simp only [Zg,seval,if_true,if_false,reduceCtorEq,Nat.reduceEqDiff,hA,i1,hwp];with_reducible rfl)))
     have i2:((0:Int) ≤ (p:Int)) = True:=eq_true (by omega)
     have hp:=hget hpn
     have i5:((p:Int) < (n:Int)) = True:=eq_true (by omega)
     have hpb:=hbd hpn
     have hwl:w64 (t.getD p 0 - 1) = t.getD p 0 - 1:=w64_eq (by omega)
     refine RunK.loop (β:=Nat) (γ:=Unit) (fun j => ⟨[(0,.c (.val (.int n))),(3,.c (.own 3 n)),(4,.c (.own 4 (done.length + 1))),(6,.c (.val (.int p))),(7,.c (.val (.int ((j:Int) - 1))))],[(3,.row 1 (t.map eI) true),(4,.row 1 (done.map eL ++ [[.sl 1 (t.map eI)]]) true)]⟩)
      (fun j => j ≤ p∧lastEq t (t.getD p 0 - 1) j = q∧q < j) (fun j => j)
      (fun _ => ⟨[(0,.c (.val (.int n))),(3,.c (.own 3 n)),(4,.c (.own 4 (done.length + 1))),(6,.c (.val (.int p))),(7,.c (.val (.int q)))],[(3,.row 1 (t.map eI) true),(4,.row 1 (done.map eL ++ [[.sl 1 (t.map eI)]]) true)]⟩) (fun _ => True) p ⟨Nat.le_refl _,hqd,hq⟩ ?_ ?_ ?_
     ·(repeat' (first|with_reducible refine Qn|((with_reducible refine Qr ?_ ?_);focus (first|with_reducible rfl|(simp only [Zz,Nat.reduceBEq];done)|rfl))|((with_reducible refine Qj (o':=?_) ?_ ?_ ?_);rotate_left 1;focus rfl)|((with_reducible refine Qw ?_ ?_);(focus (first|with_reducible rfl|(simp only [Zv];done)));focus (first|exact id|exact (fun h => nomatch h)|exact (fun _ => rfl)))))
     ·rintro j ⟨hj,hje,hqj⟩
      rcases j with _|k
      ·exact absurd hqj (Nat.not_lt_zero _)
      ·have hA:(((k + 1:Nat):Int) - 1) = (k:Int):=by omega
       have hje:(if t.getD k 0 = t.getD p 0 - 1 then k else lastEq t (t.getD p 0 - 1) k) = q:=hje
       have hj:k + 1 ≤ p:=hj
       have hqj:q < k + 1:=hqj
       have i3:((0:Int) ≤ (k:Int)) = True:=eq_true (by omega)
       have hk:=hget (k:=k) (by omega)
       have i6:((k:Int) < (n:Int)) = True:=eq_true (by omega)
       have hw:w64 ((k:Int) - 1) = (k:Int) - 1:=w64_eq (by omega)
       by_cases heq:t.getD k 0 = t.getD p 0 - 1
       ·rw [if_pos heq] at hje
        have i4:(t.getD k 0 == t.getD p 0 - 1) = true:=beq_iff_eq.2 heq
        repeat' (first|with_reducible (first|refine Q1 ?_|refine Q2 ?_|refine Q3 ?_|refine Q4 ?_|refine Q5 ?_|refine Q6 ?_|refine Q7 ?_|refine Q8 ?_|refine Q9 ?_|refine Qa ?_|refine Qb ?_|refine Qc ?_|refine Qd ?_|refine Qe ?_|refine Qf ?_)|((with_reducible refine Qo ?_ ?_);focus rfl)|((with_reducible first|refine QT 13 (l:=?_) ?_ ?_|refine QF 13 (l:=?_) ?_ ?_);rotate_left 1;focus (simp only [Zu,Nat.reduceSub,Nat.reduceBEq];with_reducible rfl))|((with_reducible first|refine QS (cfg_ok 72) Tab.none (s':=?_) ?_ ?_|refine QC (b:=?_) ?_ ?_);rotate_left 1;focus ((with_reducible refine QW ?_);simp only [Zg,seval,if_true,if_false,reduceCtorEq,Nat.reduceEqDiff,hA,i2,i3,i5,i6,hk,hp,hwl,hw,htlI,heq,i4,Int.toNat_natCast];with_reducible rfl))|((with_reducible refine QD (cfg_ok 72) Tab.none mixed_ok (tr:=?_) (s':=?_) ?_ ?_ ?_);rotate_left 2;(focus ((with_reducible refine QW ?_);simp only [Zg,Zd,seval,if_true,if_false,reduceCtorEq,Nat.reduceEqDiff,hA,i2,i3,i5,i6,hk,hp,hwl,hw,htlI,heq,i4,Int.toNat_natCast];with_reducible rfl));focus ((with_reducible refine QK ?_);simp only [Zk];kernel_rfl)))
        refine roundK.out () trivial ?_
        (repeat' (first|with_reducible refine Qn|((with_reducible refine Qr ?_ ?_);focus (first|with_reducible rfl|(simp only [Zz,Nat.reduceBEq,hje];done)|rfl))|((with_reducible refine Qj (o':=?_) ?_ ?_ ?_);rotate_left 1;focus rfl)|((with_reducible refine Qw ?_ ?_);(focus (first|with_reducible rfl|(simp only [Zv,hje];done)));focus (first|exact id|exact (fun h => nomatch h)|exact (fun _ => rfl)))))
       ·rw [if_neg heq] at hje
        have i4:(t.getD k 0 != t.getD p 0 - 1) = true:=bne_iff_ne.2 heq
        repeat' (first|with_reducible (first|refine Q1 ?_|refine Q2 ?_|refine Q3 ?_|refine Q4 ?_|refine Q5 ?_|refine Q6 ?_|refine Q7 ?_|refine Q8 ?_|refine Q9 ?_|refine Qa ?_|refine Qb ?_|refine Qc ?_|refine Qd ?_|refine Qe ?_|refine Qf ?_)|((with_reducible refine Qo ?_ ?_);focus rfl)|((with_reducible first|refine QT 13 (l:=?_) ?_ ?_|refine QF 13 (l:=?_) ?_ ?_);rotate_left 1;focus (simp only [Zu,Nat.reduceSub,Nat.reduceBEq];with_reducible rfl))|((with_reducible first|refine QS (cfg_ok 72) Tab.none (s':=?_) ?_ ?_|refine QC (b:=?_) ?_ ?_);rotate_left 1;focus ((with_reducible refine QW ?_);simp only [Zg,seval,if_true,if_false,reduceCtorEq,Nat.reduceEqDiff,hA,i2,i3,i5,i6,hk,hp,hwl,hw,htlI,i4,Int.toNat_natCast];with_reducible rfl))|((with_reducible refine QD (cfg_ok 72) Tab.none mixed_ok (tr:=?_) (s':=?_) ?_ ?_ ?_);rotate_left 2;(focus ((with_reducible refine QW ?_);simp only [Zg,Zd,seval,if_true,if_false,reduceCtorEq,Nat.reduceEqDiff,hA,i2,i3,i5,i6,hk,hp,hwl,hw,htlI,i4,Int.toNat_natCast];with_reducible rfl));focus ((with_reducible refine QK ?_);simp only [Zk];kernel_rfl)))
        refine roundK.on k ⟨⟨by omega,hje,?_⟩,by omega⟩ ?_
        ·rcases Nat.lt_or_ge q k with h|h
         ·exact h
         ·obtain rfl:q = k:=by omega
          exact absurd hqv heq
        ·(repeat' (first|with_reducible refine Qn|((with_reducible refine Qr ?_ ?_);focus (first|with_reducible rfl|(simp only [Zz,Nat.reduceBEq];done)|rfl))|((with_reducible refine Qj (o':=?_) ?_ ?_ ?_);rotate_left 1;focus rfl)|((with_reducible refine Qw ?_ ?_);(focus (first|with_reducible rfl|(simp only [Zv];done)));focus (first|exact id|exact (fun h => nomatch h)|exact (fun _ => rfl)))))
     ·rintro _ _
      repeat' (first|with_reducible (first|refine Q1 ?_|refine Q2 ?_|refine Q3 ?_|refine Q4 ?_|refine Q5 ?_|refine Q6 ?_|refine Q7 ?_|refine Q8 ?_|refine Q9 ?_|refine Qa ?_|refine Qb ?_|refine Qc ?_|refine Qd ?_|refine Qe ?_|refine Qf ?_)|((with_reducible refine Qo ?_ ?_);focus rfl)|((with_reducible first|refine QT 13 (l:=?_) ?_ ?_|refine QF 13 (l:=?_) ?_ ?_);rotate_left 1;focus (simp only [Zu,Nat.reduceSub,Nat.reduceBEq];with_reducible rfl))|((with_reducible first|refine QS (cfg_ok 72) Tab.none (s':=?_) ?_ ?_|refine QC (b:=?_) ?_ ?_);rotate_left 1;focus ((with_reducible refine QW ?_);simp only [Zg,seval,if_true,if_false,reduceCtorEq,Nat.reduceEqDiff];with_reducible rfl)))
      refine RunK.loop (β:=Nat) (γ:=Unit) (fun k => ⟨[(0,.c (.val (.int n))),(3,.c (.own 3 n)),(4,.c (.own 4 (done.length + 1))),(6,.c (.val (.int p))),(7,.c (.val (.int q))),(8,.c (.val (.int (p + k:Nat))))],[(3,.row 1 ((copyFrom p q k t).map eI) true),(4,.row 1 (done.map eL ++ [[.sl 1 (t.map eI)]]) true)]⟩)
       (fun k => p + k ≤ n) (fun k => n - k)
       (fun _ => ⟨[(0,.c (.val (.int n))),(3,.c (.own 3 n)),(4,.c (.own 4 (done.length + 1)))],[(3,.row 1 ((copyFrom p q (n - p) t).map eI) true),(4,.row 1 (done.map eL ++ [[.sl 1 (t.map eI)]]) true)]⟩) (fun _ => True) 0 (Nat.le_of_lt hpn) ?_ ?_ ?_
      ·(repeat' (first|with_reducible refine Qn|((with_reducible refine Qr ?_ ?_);focus (first|with_reducible rfl|(simp only [Zz,Nat.reduceBEq,copyFrom];done)|rfl))|((with_reducible refine Qj (o':=?_) ?_ ?_ ?_);rotate_left 1;focus rfl)|((with_reducible refine Qw ?_ ?_);(focus (first|with_reducible rfl|(simp only [Zv,copyFrom];done)));focus (first|exact id|exact (fun h => nomatch h)|exact (fun _ => rfl)))))
      ·intro k hk
       have hk:p + k ≤ n:=hk
       have hcl':=copyFrom_len p q t k
       have hlI:((copyFrom p q k t).map eI).length = n:=by simp [hcl',htl]
       by_cases h:p + k < n
       ·have j1:(((p + k:Nat):Int) < (n:Int)) = True:=eq_true (by omega)
        have j2:w64 ((p:Int) - (q:Int)) = ((p - q:Nat):Int):=by rw [w64_eq (by omega)];omega
        have j3:w64 (((p + k:Nat):Int) - ((p - q:Nat):Int)) = ((p + k - (p - q):Nat):Int):=by rw [w64_eq (by omega)];omega
        have j4:((copyFrom p q k t).map eI)[p + k - (p - q)]? = some [.int ((copyFrom p q k t).getD (p + k - (p - q)) 0)]:=by
         rw [map_get (by omega)];simp [eI,List.getD_eq_getElem?_getD,List.getElem?_eq_getElem (show p + k - (p - q) < (copyFrom p q k t).length by omega)]
        have j5:((0:Int) ≤ ((p + k - (p - q):Nat):Int)) = True:=eq_true (by omega)
        have j6:((0:Int) ≤ ((p + k:Nat):Int)) = True:=eq_true (by omega)
        have j7:(((p + k - (p - q):Nat):Int) < (n:Int)) = True:=eq_true (by omega)
        have j9:((copyFrom p q k t).map eI)[p + k]? = some [.int ((copyFrom p q k t).getD (p + k) 0)]:=by
         rw [map_get (by omega)];simp [eI,List.getD_eq_getElem?_getD,List.getElem?_eq_getElem (show p + k < (copyFrom p q k t).length by omega)]
        have j8:w64 (((p + k:Nat):Int) + 1) = ((p + k + 1:Nat):Int):=w64_succ (n:=p + k) (by omega)
        repeat' (first|with_reducible (first|refine Q1 ?_|refine Q2 ?_|refine Q3 ?_|refine Q4 ?_|refine Q5 ?_|refine Q6 ?_|refine Q7 ?_|refine Q8 ?_|refine Q9 ?_|refine Qa ?_|refine Qb ?_|refine Qc ?_|refine Qd ?_|refine Qe ?_|refine Qf ?_)|((with_reducible refine Qo ?_ ?_);focus rfl)|((with_reducible first|refine QT 13 (l:=?_) ?_ ?_|refine QF 13 (l:=?_) ?_ ?_);rotate_left 1;focus (simp only [Zu,Nat.reduceSub,Nat.reduceBEq];with_reducible rfl))|((with_reducible first|refine QS (cfg_ok 72) Tab.none (s':=?_) ?_ ?_|refine QC (b:=?_) ?_ ?_);rotate_left 1;focus ((with_reducible refine QW ?_);simp only [Zg,seval,if_true,if_false,reduceCtorEq,Nat.reduceEqDiff,j1,j2,j3,j4,j5,j6,j7,j8,j9,hlI,Int.toNat_natCast];with_reducible rfl)))
        refine roundK.on (k + 1) ⟨by show p + (k + 1) ≤ n;omega,by omega⟩ ?_
        (repeat' (first|with_reducible refine Qn|((with_reducible refine Qr ?_ ?_);focus (first|with_reducible rfl|(simp only [Zz,Nat.reduceBEq,copyFrom,List.map_set,eI];done)|rfl))|((with_reducible refine Qj (o':=?_) ?_ ?_ ?_);rotate_left 1;focus rfl)|((with_reducible refine Qw ?_ ?_);(focus (first|with_reducible rfl|(simp only [Zv,copyFrom,List.map_set,eI];done)));focus (first|exact id|exact (fun h => nomatch h)|exact (fun _ => rfl)))))
       ·have j1:(((p + k:Nat):Int) < (n:Int)) = False:=eq_false (by omega)
        obtain rfl:k = n - p:=by omega
        repeat' (first|with_reducible (first|refine Q1 ?_|refine Q2 ?_|refine Q3 ?_|refine Q4 ?_|refine Q5 ?_|refine Q6 ?_|refine Q7 ?_|refine Q8 ?_|refine Q9 ?_|refine Qa ?_|refine Qb ?_|refine Qc ?_|refine Qd ?_|refine Qe ?_|refine Qf ?_)|((with_reducible refine Qo ?_ ?_);focus rfl)|((with_reducible first|refine QT 13 (l:=?_) ?_ ?_|refine QF 13 (l:=?_) ?_ ?_);rotate_left 1;focus (simp only [Zu,Nat.reduceSub,Nat.reduceBEq];with_reducible rfl))|((with_reducible first|refine QS (cfg_ok 72) Tab.none (s':=?_) ?_ ?_|refine QC (b:=?_) ?_ ?_);rotate_left 1;focus ((with_reducible refine QW ?_);simp only [Zg,seval,if_true,if_false,reduceCtorEq,Nat.reduceEqDiff,j1];with_reducible rfl)))
        refine roundK.out () trivial ?_
        (repeat' (first|with_reducible refine Qn|((with_reducible refine Qr ?_ ?_);focus (first|with_reducible rfl|(simp only [Zz,Nat.reduceBEq];done)|rfl))|((with_reducible refine Qj (o':=?_) ?_ ?_ ?_);rotate_left 1;focus rfl)|((with_reducible refine Qw ?_ ?_);(focus (first|with_reducible rfl|(simp only [Zv];done)));focus (first|exact id|exact (fun h => nomatch h)|exact (fun _ => rfl)))))
      ·rintro _ _
       repeat' (first|with_reducible (first|refine Q1 ?_|refine Q2 ?_|refine Q3 ?_|refine Q4 ?_|refine Q5 ?_|refine Q6 ?_|refine Q7 ?_|refine Q8 ?_|refine Q9 ?_|refine Qa ?_|refine Qb ?_|refine Qc ?_|refine Qd ?_|refine Qe ?_|refine Qf ?_)|((with_reducible refine Qo ?_ ?_);focus rfl)|((with_reducible first|refine QT 13 (l:=?_) ?_ ?_|refine QF 13 (l:=?_) ?_ ?_);rotate_left 1;focus (simp only [Zu,Nat.reduceSub,Nat.reduceBEq];with_reducible rfl))|((with_reducible first|refine QS (cfg_ok 72) Tab.none (s':=?_) ?_ ?_|refine QC (b:=?_) ?_ ?_);rotate_left 1;focus ((with_reducible refine QW ?_);simp only [Zg,seval,if_true,if_false,reduceCtorEq,Nat.reduceEqDiff];with_reducible rfl)))
       have hnx:nextT t = some (copyFrom p q (n - p) t):=by unfold nextT;rw [htl,hm];simp only [hqd]
       have htr:treesN n = (done ++ [t]) ++ treesF f (copyFrom p q (n - p) t):=by
        rw [h1,List.append_assoc]
        conv => lhs;unfold treesF
        rw [hnx];rfl
       refine roundK.on (f,done ++ [t],copyFrom p q (n - p) t) ⟨⟨htr,?_,?_⟩,Nat.lt_succ_self f⟩ ?_
       ·show (done ++ [t]).length + f = 120
        simp;omega
       ·show 0 < f
        omega
       ·(repeat' (first|with_reducible refine Qn|((with_reducible refine Qr ?_ ?_);focus (first|with_reducible rfl|(simp only [Zz,Nat.reduceBEq,List.map_append,List.map_cons,List.map_nil,eL,List.length_append,List.length_cons,List.length_nil];done)|rfl))|((with_reducible refine Qj (o':=?_) ?_ ?_ ?_);rotate_left 1;focus rfl)|((with_reducible refine Qw ?_ ?_);(focus (first|with_reducible rfl|(simp only [Zv,List.map_append,List.map_cons,List.map_nil,eL,List.length_append,List.length_cons,List.length_nil];done)));focus (first|exact id|exact (fun h => nomatch h)|exact (fun _ => rfl)))))
  ·rintro _ h
   exact h.elim
end Go.Proofs.Ytedgfkpfhonlpaa
namespace Go.Proofs.Ytedgfkpfhonlpaa
def allTo (n:Nat):List (List Int):=(List.range n).flatMap fun k => treesN (k + 1)
theorem allTo_succ (n:Nat):allTo (n + 1) = allTo n ++ treesN (n + 1):=by unfold allTo;rw [List.range_succ,List.flatMap_append];simp
theorem allTo_len:(allTo 8).length = 200:=by decide +kernel
theorem allTo_pre:∀ (d k:Nat),∃ r,allTo (d + k) = allTo d ++ r
 | d,0 => ⟨[],by simp⟩
 | d,k + 1 => by
  obtain ⟨r,e⟩:=allTo_pre d k
  exact ⟨r ++ treesN (d + k + 1),by rw [← Nat.add_assoc,allTo_succ,e,List.append_assoc]⟩
theorem allTo_rise:(List.range 199).all (fun i => decide (cmpT ((allTo 8).getD i []) ((allTo 8).getD (i + 1) []) < 0)) = true:=by decide +kernel
theorem trees_all:lists8.all (fun t => !decide (canon t = t) || (treesN t.length).contains t) = true:=by decide +kernel
theorem canT_mem {t:List Int} (h:canT t = true) {d:Nat} (hd:t.length ≤ d):t ∈ allTo d:=by
 unfold canT at h
 rw [Bool.and_eq_true] at h
 have h1:=lev8_all trees_all h.1
 rw [h.2] at h1
 have h2:t ∈ treesN t.length:=by simpa using h1
 have hp:0 < t.length:=(lev8_lev h.1).pos
 unfold allTo
 rw [List.mem_flatMap]
 exact ⟨t.length - 1,List.mem_range.2 (by omega),by rw [Nat.sub_add_cancel hp];exact h2⟩
def posT (t:List Int):Nat:=(allTo 8).idxOf t
theorem allTo_pair:(allTo 8).Pairwise fun a b => cmpT a b < 0:=by
 refine adj_pairwise (r:=fun a b => cmpT a b < 0) (fun a b d h1 h2 => cmpT_cmp.lt_tr h1 h2) (fun i hi => ?_)
 rw [allTo_len] at hi
 have:=all_range.1 allTo_rise i (by omega)
 rw [getD_at (by rw [allTo_len];omega),getD_at (by rw [allTo_len];omega)] at this
 exact of_decide_eq_true this
theorem pos_at {t:List Int} (h:canT t = true) {d:Nat} (hd:t.length ≤ d) (hd8:d ≤ 8):∃ hi:posT t < (allTo d).length,(allTo d)[posT t] = t∧(∀ k (hk:k < (allTo d).length),k < posT t→cmpT (allTo d)[k] t < 0)∧∀ k (hk:k < (allTo d).length),posT t ≤ k→0 ≤ cmpT (allTo d)[k] t:=by
 obtain ⟨r,e⟩:=allTo_pre d (8 - d)
 rw [Nat.add_sub_cancel' hd8] at e
 have hm:=canT_mem h hd
 have hp:posT t = (allTo d).idxOf t:=by
  unfold posT
  rw [e,List.idxOf_append,if_pos hm]
 have hi:posT t < (allTo d).length:=by rw [hp];exact List.idxOf_lt_length_of_mem hm
 have ht:(allTo d)[posT t] = t:=by
  have:(allTo d)[(allTo d).idxOf t]'(by rw [← hp];exact hi) = t:=List.getElem_idxOf _
  simp [hp]
 have hpw:(allTo d).Pairwise fun a b => cmpT a b < 0:=by
  have:=allTo_pair
  rw [e] at this
  exact (List.pairwise_append.1 this).1
 rw [List.pairwise_iff_getElem] at hpw
 refine ⟨hi,ht,fun k hk hlt => ?_,fun k hk hle => ?_⟩
 ·have:=hpw k (posT t) hk hi hlt
  rwa [ht] at this
 ·by_cases hq:k = posT t
  ·subst hq
   rw [ht,cmpT_cmp.refl]
   exact Int.le_refl _
  ·have:=hpw (posT t) k hi hk (by omega)
   rw [ht] at this
   have:=(cmpT_cmp.anti t (allTo d)[k]).1 this
   omega
end Go.Proofs.Ytedgfkpfhonlpaa
namespace Go.Proofs.Ytedgfkpfhonlpaa
open Go.RowKit
theorem allTo_le {d:Nat} (h:d ≤ 8):(allTo d).length ≤ 200:=by
 obtain ⟨r,e⟩:=allTo_pre d (8 - d)
 rw [Nat.add_sub_cancel' h] at e
 have:=allTo_len
 rw [e,List.length_append] at this
 omega
set_option maxHeartbeats 4000000 in
theorem a_treesTo (n:Nat) (hn:n ≤ 8):AFn Try.prog 53 [eI n] (· = [.own 1 ((allTo n).map eL) false]):=by
 refine AFn.of_runs (cfg_ok 16) Try.func53 rfl rfl rfl (by simp only [List.length_cons,List.length_nil];decide) ?_
 have hres:Try.f53.results.toList = [.tmp 2]:=rfl
 have hrts:Try.f53.resultTypes.toList = [33]:=rfl
 simp only [argRegs,argAV1,eL,eI,eLL,eB,Nat.zero_add,Nat.reduceAdd]
 intro M
 refine RunK.of ?_
 repeat' (first|with_reducible (first|refine Q1 ?_|refine Q2 ?_|refine Q3 ?_|refine Q4 ?_|refine Q5 ?_|refine Q6 ?_|refine Q7 ?_|refine Q8 ?_|refine Q9 ?_|refine Qa ?_|refine Qb ?_|refine Qc ?_|refine Qd ?_|refine Qe ?_|refine Qf ?_)|((with_reducible refine Qo ?_ ?_);focus rfl)|((with_reducible first|refine QT 5 (l:=?_) ?_ ?_|refine QF 5 (l:=?_) ?_ ?_);rotate_left 1;focus (simp only [Zu,Nat.reduceSub,Nat.reduceBEq];with_reducible rfl))|((with_reducible first|refine QS (cfg_ok 16) Tab.none (s':=?_) ?_ ?_|refine QC (b:=?_) ?_ ?_);rotate_left 1;focus ((with_reducible refine QW ?_);simp only [Zg,seval,if_true,if_false,reduceCtorEq,Nat.reduceEqDiff];with_reducible rfl)))
 refine RunK.loop (β:=Nat) (γ:=Unit) (fun i => ⟨[(0,.c (.val (.int n))),(3,.c (.own 3 (allTo i).length)),(4,.c (.val (.int ((i + 1:Nat):Int))))],[(3,.row 1 ((allTo i).map eL) false)]⟩) (fun i => i ≤ n) (fun i => n - i)
  (fun _ => ⟨[(3,.c (.own 3 (allTo n).length))],[(3,.row 1 ((allTo n).map eL) false)]⟩) (fun _ => True) 0 (Nat.zero_le _) ?_ ?_ ?_
 ·(repeat' (first|with_reducible refine Qn|((with_reducible refine Qr ?_ ?_);focus (first|with_reducible rfl|(simp only [Zz,Nat.reduceBEq,show allTo 0 = [] from rfl,List.map_nil];done)|rfl))|((with_reducible refine Qj (o':=?_) ?_ ?_ ?_);rotate_left 1;focus rfl)|((with_reducible refine Qw ?_ ?_);(focus (first|with_reducible rfl|(simp only [Zv,show allTo 0 = [] from rfl,List.map_nil];done)));focus (first|exact id|exact (fun h => nomatch h)|exact (fun _ => rfl)))))
 ·intro i hi
  have hi:i ≤ n:=hi
  by_cases h:i < n
  ·have j1:(((i + 1:Nat):Int) ≤ (n:Int)) = True:=eq_true (by omega)
   have ht:=a_treesOf (i + 1) (by simp;omega)
   have hw:=w64_succ (n:=i + 1) (by omega)
   have hlen:=allTo_le (show i + 1 ≤ 8 by omega)
   rw [allTo_succ,List.length_append] at hlen
   have q1:=big_le (n:=(allTo i).length + (treesN (i + 1)).length) (by omega)
   have q2:=big_mul (n:=(allTo i).length + (treesN (i + 1)).length) (c:=24) (by omega) (by omega)
   repeat' (first|with_reducible (first|refine Q1 ?_|refine Q2 ?_|refine Q3 ?_|refine Q4 ?_|refine Q5 ?_|refine Q6 ?_|refine Q7 ?_|refine Q8 ?_|refine Q9 ?_|refine Qa ?_|refine Qb ?_|refine Qc ?_|refine Qd ?_|refine Qe ?_|refine Qf ?_)|((with_reducible refine Qo ?_ ?_);focus rfl)|((with_reducible first|refine QT 5 (l:=?_) ?_ ?_|refine QF 5 (l:=?_) ?_ ?_);rotate_left 1;focus (simp only [Zu,Nat.reduceSub,Nat.reduceBEq];with_reducible rfl))|((with_reducible first|refine QS (cfg_ok 16) ((Tab.none.at' 82 ht)) (s':=?_) ?_ ?_|refine QC (b:=?_) ?_ ?_);rotate_left 1;focus ((with_reducible refine QW ?_);simp only [Zg,seval,if_true,if_false,reduceCtorEq,Nat.reduceEqDiff,j1,hw,q1,q2,List.length_map,eI];with_reducible rfl)))
   refine roundK.on (i + 1) ⟨h,by omega⟩ ?_
   rw [allTo_succ]
   (repeat' (first|with_reducible refine Qn|((with_reducible refine Qr ?_ ?_);focus (first|with_reducible rfl|(simp only [Zz,Nat.reduceBEq];done)|rfl))|((with_reducible refine Qj (o':=?_) ?_ ?_ ?_);rotate_left 1;focus rfl)|((with_reducible refine Qw ?_ ?_);(focus (first|with_reducible rfl|(simp only [Zv];done)));focus (first|exact id|exact (fun h => nomatch h)|exact (fun _ => rfl)))))
  ·have j1:(((i + 1:Nat):Int) ≤ (n:Int)) = False:=eq_false (by omega)
   obtain rfl:i = n:=by omega
   repeat' (first|with_reducible (first|refine Q1 ?_|refine Q2 ?_|refine Q3 ?_|refine Q4 ?_|refine Q5 ?_|refine Q6 ?_|refine Q7 ?_|refine Q8 ?_|refine Q9 ?_|refine Qa ?_|refine Qb ?_|refine Qc ?_|refine Qd ?_|refine Qe ?_|refine Qf ?_)|((with_reducible refine Qo ?_ ?_);focus rfl)|((with_reducible first|refine QT 5 (l:=?_) ?_ ?_|refine QF 5 (l:=?_) ?_ ?_);rotate_left 1;focus (simp only [Zu,Nat.reduceSub,Nat.reduceBEq];with_reducible rfl))|((with_reducible first|refine QS (cfg_ok 16) Tab.none (s':=?_) ?_ ?_|refine QC (b:=?_) ?_ ?_);rotate_left 1;focus ((with_reducible refine QW ?_);simp only [Zg,seval,if_true,if_false,reduceCtorEq,Nat.reduceEqDiff,j1];with_reducible rfl)))
   refine roundK.out () trivial ?_
   (repeat' (first|with_reducible refine Qn|((with_reducible refine Qr ?_ ?_);focus (first|with_reducible rfl|(simp only [Zz,Nat.reduceBEq];done)|rfl))|((with_reducible refine Qj (o':=?_) ?_ ?_ ?_);rotate_left 1;focus rfl)|((with_reducible refine Qw ?_ ?_);(focus (first|with_reducible rfl|(simp only [Zv];done)));focus (first|exact id|exact (fun h => nomatch h)|exact (fun _ => rfl)))))
 ·rintro _ _
  repeat' (first|with_reducible (first|refine Q1 ?_|refine Q2 ?_|refine Q3 ?_|refine Q4 ?_|refine Q5 ?_|refine Q6 ?_|refine Q7 ?_|refine Q8 ?_|refine Q9 ?_|refine Qa ?_|refine Qb ?_|refine Qc ?_|refine Qd ?_|refine Qe ?_|refine Qf ?_)|((with_reducible refine Qo ?_ ?_);focus rfl)|((with_reducible first|refine QT 5 (l:=?_) ?_ ?_|refine QF 5 (l:=?_) ?_ ?_);rotate_left 1;focus (simp only [Zu,Nat.reduceSub,Nat.reduceBEq];with_reducible rfl))|((with_reducible first|refine QS (cfg_ok 16) Tab.none (s':=?_) ?_ ?_|refine QC (b:=?_) ?_ ?_);rotate_left 1;focus ((with_reducible refine QW ?_);simp only [Zg,seval,if_true,if_false,reduceCtorEq,Nat.reduceEqDiff];with_reducible rfl)))
  (refine Ends.mk (by simp) (rs:=?_) (ks:=?_) hres hrts ?_ ?_ ?_;rotate_left 2;(focus (simp only [Ze,Zg,seval,if_true,if_false,reduceCtorEq,Nat.reduceEqDiff];with_reducible rfl));(focus simp);focus (first|with_reducible rfl|(simp only [Zv];done)))
set_option maxRecDepth 100000 in
set_option maxHeartbeats 1000000 in
theorem c_indexIn (v1 v2:Value) (L:List (List Int)) (t:List Int) (i:Nat) (w:World) (h1:Rd (RS (RS RI)) w [v1] L) (h2:Rd (RS RI) w [v2] t) (hsz:L.length ≤ 1000000000) (hi:i < L.length)
  (hlo:∀ k (h:k < L.length),k < i→cmpT L[k] t < 0) (hhi:∀ k (h:k < L.length),i ≤ k→0 ≤ cmpT L[k] t) (heq:cmpT L[i] t = 0) :
  Calls Try.prog 52 #[v1,v2] w (RetS w (.int .i64 i)):=by
 have hb:=Lib.hid (c_BinarySearch v1 v2 L t i w h1 h2 hsz hi hlo hhi heq)
 clear h1 h2 hlo hhi heq
 go_enter Try.func52,Try.ntmps52
 go_wp2_with (go_at_call 81;refine hb.out.mono ?_;rintro e w' ⟨rfl,rfl⟩)
 go_ret
 exact ⟨rfl,rfl⟩
theorem a_indexIn (L:List (List Int)) (t:List Int) (i:Nat) (hsz:L.length ≤ 1000000000) (hi:i < L.length) (heq:L[i] = t)
  (hlo:∀ k (h:k < L.length),k < i→cmpT L[k] t < 0) (hhi:∀ k (h:k < L.length),i ≤ k→0 ≤ cmpT L[k] t):AFn Try.prog 52 [eLL L,eL t] (· = [.val (.int i)]) :=
 AFn.of_s (v:=.int .i64 _) (enters_of Try.func52 rfl rfl) (fun _ _ => rdV_int.2 ⟨rfl,by unfold In64;omega⟩) (fun w A vs ⟨v1,_,e1,h1,v2,_,e2,h2,e3⟩ => by
  subst e3;subst e2;subst e1
  exact c_indexIn v1 v2 L t i w (Rd.of (rdLL h1)) (Rd.of (rd1 h2)) hsz hi hlo hhi (by rw [heq];exact cmpT_cmp.refl t))
end Go.Proofs.Ytedgfkpfhonlpaa

/- Lemmas (8). -/
import Derived.ChangeSame
import Derived.Ground.SlsfProg
import Derived.Shelf.SlSortCmp.NoneTotal
import Derived.Shelf.SlSortCmp.WholeK
import Derived.Test.YtedgfkpfhonlpaaGreatZT0
import Derived.Test.YtedgfkpfhonlpaaGreatZT1
import Derived.Test.YtedgfkpfhonlpaaGreatZT2
import Derived.Test.YtedgfkpfhonlpaaGreatZT4
import Derived.Test.YtedgfkpfhonlpaaGreatZT5
import Derived.Test.YtedgfkpfhonlpaaGreatZT6
import Derived.Test.YtedgfkpfhonlpaaGreatZT7
set_option maxHeartbeats 16000000
set_option maxRecDepth 100000
set_option linter.unusedSimpArgs false
set_option linter.unusedVariables false
namespace Go.Proofs.YtedgfkpfhonlpaaGreat
open Go.RowKit
section
theorem lexC_step {α:Type} {c:α→α→Int} {f g:List α} {k:Nat} (h1:k < f.length) (h2:k < g.length):lexC c (f.drop k) (g.drop k) = if c f[k] g[k] = 0 then lexC c (f.drop (k + 1)) (g.drop (k + 1)) else c f[k] g[k]:=by
 rw [List.drop_eq_getElem_cons h1,List.drop_eq_getElem_cons h2];rfl
theorem lexC_endL {α:Type} {c:α→α→Int} {f g:List α} {k:Nat} (h1:¬ k < f.length) (h2:k < g.length):lexC c (f.drop k) (g.drop k) = -1:=by
 rw [List.drop_eq_nil_of_le (Nat.not_lt.1 h1),List.drop_eq_getElem_cons h2];rfl
theorem lexC_endR {α:Type} {c:α→α→Int} {f g:List α} {k:Nat} (h1:k < f.length) (h2:¬ k < g.length):lexC c (f.drop k) (g.drop k) = 1:=by
 rw [List.drop_eq_getElem_cons h1,List.drop_eq_nil_of_le (Nat.not_lt.1 h2)];rfl
theorem lexC_end0 {α:Type} {c:α→α→Int} {f g:List α} {k:Nat} (h1:¬ k < f.length) (h2:¬ k < g.length):lexC c (f.drop k) (g.drop k) = 0:=by
 rw [List.drop_eq_nil_of_le (Nat.not_lt.1 h1),List.drop_eq_nil_of_le (Nat.not_lt.1 h2)];rfl
theorem c_CompareFunc (v1 v2:Value) (f g:List (List Int)) (w:World) (h1:Rd (RS (RS RI)) w [v1] f) (h2:Rd (RS (RS RI)) w [v2] g) :
  Calls Tryz.prog 181 #[v1,v2,.func (.func 119) #[] #[]] w (RetS w (.int .i64 (lexC cmpT f g))):=by
 obtain ⟨oa,ca,L1⟩:=h1.lists
 obtain ⟨ob,cb,L2⟩:=h2.lists
 obtain rfl:=L1.val
 obtain rfl:=L2.val
 have m1:=L1.le;have m2:=L1.capLe;have m3:=L2.le;have m4:=L2.capLe
 unfold maxLen at m2 m4
 have HL1:=Lib.hid L1
 have HL2:=Lib.hid L2
 clear L1 L2 h1 h2
 go_enter Tryz.func181,Tryz.ntmps181
 go_wp2_with fail
 go_loop [13] (fun i => ∃ k:Nat,k ≤ f.length∧k ≤ g.length∧i = .int .i64 k∧lexC cmpT f g = lexC cmpT (f.drop k) (g.drop k)) (fun i => f.length - (intOf i).toNat)
 case atStart => exact ⟨0,Nat.zero_le _,Nat.zero_le _,rfl,by simp⟩
 case round =>
  obtain ⟨k,hk,hk2,rfl,he⟩:=hrel
  have He:=Lib.hid he
  clear he
  by_cases hlt:k < f.length
  ·obtain ⟨b1,o1,rfl,hb1,hc1⟩:=HL1.out.get hlt
   obtain ⟨oi,ci,g1,hrd1,q1,q2⟩:=hc1 k hlt
   clear hc1
   by_cases hlt2:k < g.length
   ·obtain ⟨b2,o2,rfl,hb2,hc2⟩:=HL2.out.get hlt2
    obtain ⟨oj,cj,g2,hrd2,q3,q4⟩:=hc2 k hlt2
    clear hc2
    have hs:=lexC_step (c:=cmpT) hlt hlt2
    by_cases h0:cmpT f[k] g[k] = 0
    ·rw [if_pos h0] at hs
     have hcall:=qL0 _ _ _ _ w hrd1 hrd2
     rw [h0] at hcall
     have HC:=Lib.hid hcall
     have Hs:=Lib.hid hs
     obtain ⟨x1,hx1⟩:∃ x,x = f[k].length:=⟨_,rfl⟩
     obtain ⟨x2,hx2⟩:∃ x,x = g[k].length:=⟨_,rfl⟩
     rw [← hx1] at g1 q1 HC
     rw [← hx2] at g2 q3 HC
     clear hs h0 hcall hrd1 hrd2 hx1 hx2
     go_wp2_with (go_at_call 119;refine HC.out.mono ?_;rintro e w' ⟨rfl,rfl⟩)
     go_round
     case rel => exact ⟨k + 1,by omega,by omega,by go_num,by rw [He.out,Hs.out]⟩
     case measure => simp [intOf];omega
    ·rw [if_neg h0] at hs
     have hcall:=qL0 _ _ _ _ w hrd1 hrd2
     have hb:(cmpT f[k] g[k] != 0) = true:=by simp [h0]
     obtain ⟨z,hz⟩:∃ z,z = cmpT f[k] g[k]:=⟨_,rfl⟩
     rw [← hz] at hcall hb hs
     have HC:=Lib.hid hcall
     have Hs:=Lib.hid hs
     obtain ⟨x1,hx1⟩:∃ x,x = f[k].length:=⟨_,rfl⟩
     obtain ⟨x2,hx2⟩:∃ x,x = g[k].length:=⟨_,rfl⟩
     rw [← hx1] at g1 q1 HC
     rw [← hx2] at g2 q3 HC
     clear hs h0 hcall hrd1 hrd2 hx1 hx2 hz
     go_wp2_with (go_at_call 119;refine HC.out.mono ?_;rintro e w' ⟨rfl,rfl⟩)
     go_ret
     exact ⟨by (rw [He.out,Hs.out] <;> rfl),rfl⟩
   ·have HE:=Lib.hid (lexC_endR (c:=cmpT) hlt hlt2)
    go_wp2_with fail
    go_ret
    exact ⟨by (rw [He.out,HE.out] <;> rfl),rfl⟩
  ·by_cases hlt2:k < g.length
   ·have HE:=Lib.hid (lexC_endL (c:=cmpT) hlt hlt2)
    go_wp2_with fail
    go_ret
    exact ⟨by (rw [He.out,HE.out] <;> rfl),rfl⟩
   ·have HE:=Lib.hid (lexC_end0 (c:=cmpT) hlt hlt2)
    go_wp2_with fail
    go_ret
    exact ⟨by (rw [He.out,HE.out] <;> rfl),rfl⟩
theorem jD0 (v1 v2:Value) (f g:List (List Int)) (w:World) (h1:Rd (RS (RS RI)) w [v1] f) (h2:Rd (RS (RS RI)) w [v2] g) :
  Calls Tryz.prog 121 #[v1,v2] w (RetS w (.int .i64 (cmpN f g))):=by
 obtain ⟨oa,c1,e1,m1,m2⟩:=h1.val
 obtain ⟨ob,c2,e2,m3,m4⟩:=h2.val
 subst e1;subst e2
 unfold maxLen at m2 m4
 rw [cmpN_eq]
 by_cases hl:f.length = g.length
 ·have hlb:((f.length:Int) != (g.length:Int)) = false:=by simp [hl]
  have hcall:=c_CompareFunc _ _ _ _ w h1 h2
  rw [if_pos (by rw [hl])]
  have HC:=Lib.hid hcall
  clear hl hcall h1 h2
  go_enter Tryz.func121,Tryz.ntmps121
  go_wp2_with (go_at_call 181;refine HC.out.mono ?_;rintro e w' ⟨rfl,rfl⟩)
  go_ret
  exact ⟨rfl,rfl⟩
 ·have hlb:((f.length:Int) != (g.length:Int)) = true:=by simp;omega
  have hw:IntKind.i64.wrap ((f.length:Int) - (g.length:Int)) = (f.length:Int) - (g.length:Int):=IntWalk.i64_in _ (by omega)
  rw [if_neg (by omega)]
  clear h1 h2
  go_enter Tryz.func121,Tryz.ntmps121
  go_wp2_with fail
  go_ret
  exact ⟨rfl,rfl⟩
theorem jO0 (v1 v2:Value) (f g:List (List Int)) (w:World) (h1:Rd (RS (RS RI)) w [v1] f) (h2:Rd (RS (RS RI)) w [v2] g) (hf:qJ f ≤ 1000000000000000000) (hg:qJ g ≤ 1000000000000000000) :
  Calls Tryz.prog 87 #[v1,v2] w (RetS w (.int .i64 (cmpF f g))):=by
 have hn1:=jW0 _ _ w h1
 have hn2:=jW0 _ _ w h2
 rw [vD f hf] at hn1
 rw [vD g hg] at hn2
 have ht:=jD0 _ _ _ _ w h1 h2
 rw [cmpF_N]
 obtain ⟨p,hp⟩:∃ p,p = qJ f:=⟨_,rfl⟩
 obtain ⟨q,hq⟩:∃ q,q = qJ g:=⟨_,rfl⟩
 rw [← hp] at hf hn1 ⊢
 rw [← hq] at hg hn2 ⊢
 have hw:IntKind.i64.wrap ((p:Int) - (q:Int)) = (p:Int) - (q:Int):=IntWalk.i64_in _ (by omega)
 obtain ⟨Rl,hR⟩:∃ R:Value→Int→Prop,∀ v n,R v n ↔ Calls Tryz.prog 88 #[v] w (RetS w (.int .i64 n)):=⟨_,fun _ _ => Iff.rfl⟩
 have r1:Rl v1 p:=(hR _ _).2 hn1
 have r2:Rl v2 q:=(hR _ _).2 hn2
 have HN:Hid (∀ v n,Rl v n→Calls Tryz.prog 88 #[v] w (RetS w (.int .i64 n))):=Lib.hid (fun v n => (hR v n).1)
 have H3:=Lib.hid ht
 clear hp hq h1 h2 hn1 hn2 ht hR
 by_cases hl:(p:Int) = q
 ·have hlb:(((p:Int) - (q:Int)) != 0) = false:=by rw [hl];simp
  rw [if_pos hl]
  clear hl
  go_enter Tryz.func87,Tryz.ntmps87
  go_wp2_with (first|(go_at_call 88;refine (HN.out _ _ (by assumption)).mono ?_;rintro e w' ⟨rfl,rfl⟩)|(go_at_call 121;refine H3.out.mono ?_;rintro e w' ⟨rfl,rfl⟩))
  go_ret
  exact ⟨rfl,rfl⟩
 ·have hlb:(((p:Int) - (q:Int)) != 0) = true:=by simp;omega
  rw [if_neg hl]
  clear hl
  go_enter Tryz.func87,Tryz.ntmps87
  go_wp2_with (go_at_call 88;refine (HN.out _ _ (by assumption)).mono ?_;rintro e w' ⟨rfl,rfl⟩)
  go_ret
  exact ⟨rfl,rfl⟩
theorem lexC_in64:∀ (f g:List (List Int)),(∀ t ∈ f,t.length ≤ maxLen)→(∀ t ∈ g,t.length ≤ maxLen)→qB (lexC cmpT f g):=by
 intro f
 induction f with
 | nil => intro g _ _;cases g <;> (unfold lexC qB;omega)
 | cons x xs ih => intro g h3 h4;cases g with
  | nil => unfold lexC qB;omega
  | cons y bs =>
   unfold lexC
   split
   ·exact ih bs (fun t ht => h3 t (by simp [ht])) (fun t ht => h4 t (by simp [ht]))
   ·exact cmpT_in64 (h3 x (by simp)) (h4 y (by simp))
theorem cmpF_in64 {f g:List (List Int)} (hf:qJ f ≤ 1000000000000000000) (hg:qJ g ≤ 1000000000000000000) (h1:f.length ≤ maxLen) (h2:g.length ≤ maxLen) (h3:∀ t ∈ f,t.length ≤ maxLen) (h4:∀ t ∈ g,t.length ≤ maxLen):qB (cmpF f g):=by
 rw [cmpF_N,cmpN_eq]
 unfold maxLen at h1 h2
 split
 ·split
  ·exact lexC_in64 f g h3 h4
  ·unfold qB;omega
 ·unfold qB;omega
end
section
abbrev Elt:=List (Int × List (List Int))
def canT (t:List Int):Bool:=lev8 t && decide (canon t = t)
def okT (f:List (List Int)) (i:Nat):Bool:=canT (f.getD i []) && (decide (i = 0) || decide (cmpT (f.getD (i - 1) []) (f.getD i []) ≤ 0))
def forB (f:List (List Int)):Bool:=decide (qJ f ≤ 8) && (List.range f.length).all (okT f)
def okP (e:Elt) (i:Nat):Bool :=
 decide (1 ≤ (e.getD i (0,[])).1) && decide ((e.getD i (0,[])).1 < 10007) && forB (e.getD i (0,[])).2 && (decide (i = 0) || decide (cmpF (e.getD (i - 1) (0,[])).2 (e.getD i (0,[])).2 < 0))
def elB (e:Elt):Bool:=decide (e.length ≤ 300) && (List.range e.length).all (okP e)
theorem wV {n:Nat} {p:Nat→Bool}:(List.range n).all p = true ↔ ∀ i < n,p i = true:=by
 rw [List.all_eq_true]
 exact ⟨fun h i hi => h i (List.mem_range.2 hi),fun h i hi => h i (List.mem_range.1 hi)⟩
theorem qK0 {n i:Nat} {p:Nat→Bool} (hi:i < n) (h:p i = false):(List.range n).all p = false:=by
 rcases hq:(List.range n).all p with _|_
 ·rfl
 ·rw [wV.1 hq i hi] at h;cases h
theorem adj_pairwise {α:Type} {r:α→α→Prop} (ht:∀ a b d,r a b→r b d→r a d):∀ {l:List α},(∀ i (h:i + 1 < l.length),r l[i] l[i + 1])→l.Pairwise r
 | [],_ => List.Pairwise.nil
 | [a],_ => List.pairwise_singleton _ _
 | a :: b :: l,h => by
  have ih:=adj_pairwise ht (l:=b :: l) (fun i hi => h (i + 1) (by simp at hi ⊢;omega))
  refine List.pairwise_cons.2 ⟨fun x hx => ?_,ih⟩
  have h0:r a b:=h 0 (by simp)
  rcases List.mem_cons.1 hx with rfl|hx
  ·exact h0
  ·exact ht a b x h0 ((List.pairwise_cons.1 ih).1 x hx)
theorem xP {α:Type} {l:List α} {d:α} {i:Nat} (h:i < l.length):l.getD i d = l[i]:=by
 rw [List.getD_eq_getElem?_getD,List.getElem?_eq_getElem h];rfl
theorem kG {f:List (List Int)} (h:forB f = true):qJ f ≤ 8∧(∀ t ∈ f,canT t = true)∧f.Pairwise fun a b => cmpT a b ≤ 0:=by
 unfold forB at h
 rw [Bool.and_eq_true,wV] at h
 refine ⟨of_decide_eq_true h.1,fun t ht => ?_,adj_pairwise (fun a b d => yL.trans a b d) (fun i hi => ?_)⟩
 ·obtain ⟨i,hi,rfl⟩:=List.getElem_of_mem ht
  have:=h.2 i hi
  unfold okT at this
  rw [Bool.and_eq_true,xP hi] at this
  exact this.1
 ·have:=h.2 (i + 1) hi
  unfold okT at this
  rw [Bool.and_eq_true,Bool.or_eq_true,xP hi,Nat.add_sub_cancel,xP (show i < f.length by omega)] at this
  rcases this.2 with h1|h1
  ·have:=of_decide_eq_true h1;omega
  ·exact of_decide_eq_true h1
def degE (e:Elt):Int:=match e.getLast? with
 | none => -1
 | some p => qJ p.2
def limS (L:Elt):Elt × Int:=if L.length ≤ 300∧∀ p ∈ L,qJ p.2 ≤ 8 then (L,0) else ([],3)
def addOf (d e:Elt):Elt × Int:=if (elB d && elB e) = true then limS (sumS cmpF (d ++ e)) else ([],1)
def sclOf (e:Elt) (k:Int):Elt × Int:=if elB e = true then (if inR k 0 10006 = true then (sumS cmpF (e.map fun p => (mP (p.1 * k),p.2)),0) else ([],2)) else ([],1)
def timOf (d e:Elt):Elt × Int:=if (elB d && elB e) = true then limS (sumS cmpF (prodL d e)) else ([],1)
end
section
theorem kJ {f:List (List Int)} (h:forB f = true):∀ b ∈ f,qY b:=fun b hb => by
 have:=(kG h).2.1 b hb
 unfold canT at this
 rw [Bool.and_eq_true] at this
 exact xE this.1
theorem forB_can {f:List (List Int)} (h:forB f = true):∀ b ∈ f,canon b = b:=fun b hb => by
 have:=(kG h).2.1 b hb
 unfold canT at this
 rw [Bool.and_eq_true] at this
 exact of_decide_eq_true this.2
end
section
theorem a_impl_IsTree (t:List Int):AFn Tryz.prog 118 [eL t] (· = [.val (.bool (canT t))]):=by
 have h1:=qH0 t
 unfold canT
 cases h8:lev8 t
 ·rw [h8] at h1
  rw [Bool.false_and]
  refine AFn.of_runs (qX 11) Tryz.func118 rfl rfl rfl gz ?_
  have hres:Tryz.f118.results.toList = [.tmp 2]:=rfl
  have hrts:Tryz.f118.resultTypes.toList = [4]:=rfl
  simp only [qK,qA,eL,eI,eLL,eB,Nat.zero_add,Nat.reduceAdd]
  intro M
  refine qQ.of ?_
  refine gw15 (kk 3) ?_
  exact gw8
 ·rw [h8] at h1
  rw [Bool.true_and]
  have h2:=a_canonical t (xE h8) (xG h8)
  have h3:=a_slicesEqual (canon t) t
  refine AFn.of_runs (qX 11) Tryz.func118 rfl rfl rfl gz ?_
  have hres:Tryz.f118.results.toList = [.tmp 2]:=rfl
  have hrts:Tryz.f118.resultTypes.toList = [4]:=rfl
  simp only [qK,qA,eL,eI,eLL,eB,Nat.zero_add,Nat.reduceAdd]
  intro M
  refine qQ.of ?_
  refine gw16 (kk 3) ?_
  exact gw8
theorem a_spec_IsTree (t:List Int) (hsz:t.length ≤ 1048576):AFn Tryz.prog 128 [eL t] (· = [.val (.bool (canT t))]):=by
 have h1:=a_spec_l03Is t hsz
 unfold canT
 cases h8:lev8 t
 ·rw [h8] at h1
  rw [Bool.false_and]
  refine AFn.of_runs (qX 11) Tryz.func128 rfl rfl rfl gz ?_
  have hres:Tryz.f128.results.toList = [.tmp 2]:=rfl
  have hrts:Tryz.f128.resultTypes.toList = [4]:=rfl
  simp only [qK,qA,eL,eI,eLL,eB,Nat.zero_add,Nat.reduceAdd]
  intro M
  refine qQ.of ?_
  refine gw17 (kk 3) ?_
  exact gw8
 ·rw [h8] at h1
  rw [Bool.true_and]
  have h2:=a_l03Canon t (xE h8) (xG h8)
  have h3:=a_l01Same (canon t) t
  refine AFn.of_runs (qX 11) Tryz.func128 rfl rfl rfl gz ?_
  have hres:Tryz.f128.results.toList = [.tmp 2]:=rfl
  have hrts:Tryz.f128.resultTypes.toList = [4]:=rfl
  simp only [qK,qA,eL,eI,eLL,eB,Nat.zero_add,Nat.reduceAdd]
  intro M
  refine qQ.of ?_
  refine gw18 (kk 3) ?_
  exact gw8
noncomputable def TFor:Tab Tryz.prog :=
 ((Tab.none.add 118 (tab1 codL fun t => some [.val (.bool (canT t))]) (kF fun t rs h => by cases h;exact a_impl_IsTree t)).add
   119 (tab2 codL codL fun xs ys => some [.val (.int (cmpT xs ys))]) (kY fun xs ys rs h => by cases h;exact a_compareTrees xs ys)).add
   88 (tab1 codLL fun f => some [.val (.int (jP f))]) (kF fun f rs h => by cases h;exact a_nodesIn f)
noncomputable def jD:Tab Tryz.prog :=
 ((Tab.none.add 128 (tab1 codL fun t => if t.length ≤ 1048576 then some [.val (.bool (canT t))] else none) (kF fun t rs h => by split at h;cases h;exact a_spec_IsTree t ‹_›;cases h)).add
   129 (tab2 codL codL fun xs ys => some [.val (.bool (decide (cmpT xs ys < 0)))]) (kY fun xs ys rs h => by cases h;exact a_l03Before xs ys)).add
   130 (tab1 codLL fun f => some [.val (.int (jP f))]) (kF fun f rs h => by cases h;exact a_l03Nodes f)
theorem qW0 {n:Nat} {p:Nat→Bool} (h:(List.range n).all p = true) (h2:p n = true):(List.range (n + 1)).all p = true :=
 wV.2 (fun i hi => by
  by_cases e:i = n
  ·rw [e];exact h2
  ·exact wV.1 h i (by omega))
theorem a_impl_IsForest (f:List (List Int)) (hsz:qJ f ≤ 1000000000) (hln:f.length ≤ 1000000000):AFn Tryz.prog 59 [eLL f] (· = [.val (.bool (forB f))]):=by
 have hn:jP f = qJ f:=vD f (by omega)
 refine AFn.of_runs (qX 33) Tryz.func59 rfl rfl rfl gz ?_
 have hres:Tryz.f59.results.toList = [.tmp 2]:=rfl
 have hrts:Tryz.f59.resultTypes.toList = [4]:=rfl
 simp only [qK,qA,eL,eI,eLL,eB,Nat.zero_add,Nat.reduceAdd]
 intro M
 refine qQ.of ?_
 by_cases h8:qJ f ≤ 8
 ·have i8:((qJ f:Int) > 8) = False:=eq_false (by omega)
  refine gw19 (kk 11) (Yp hn i8) ?_
  refine qQ.loop (β:=Nat) (γ:=Unit) (fun i => ⟨[(0,.c (.val (.sl 1 (f.map eL)))),(8,.c (.val (.sl 1 (f.map eL)))),(9,.c (.val (.int f.length))),(10,.c (.val (.int i)))],[]⟩) (fun i => i ≤ f.length∧(List.range i).all (okT f) = true) (fun i => f.length - i)
   (fun _ => ⟨[],[]⟩) (fun _ => (List.range f.length).all (okT f) = true) 0 ⟨Nat.zero_le _,rfl⟩ ?_ ?_ ?_
  ·exact gw6
  ·rintro i ⟨hi,hall⟩
   have hw:=qI (n:=i) (by omega)
   by_cases h:i < f.length
   ·have i1:((i:Int) < (f.length:Int)) = True:=eq_true (by omega)
    have i2:((0:Int) ≤ (i:Int)) = True:=eq_true (by omega)
    obtain ⟨t,ht⟩:∃ t,t = f[i]:=⟨_,rfl⟩
    have hg:(f.map eL)[i]? = some [.sl 1 (t.map eI)]:=by rw [qP h,ht];rfl
    have hgd:f.getD i [] = t:=by rw [xP h,ht]
    by_cases hc:canT t = true
    ·by_cases h0:i = 0
     ·have j1:((i:Int) > 0) = False:=eq_false (by omega)
      have hok:okT f i = true:=by unfold okT;rw [hgd,hc,h0];rfl
      refine gw20 (kk 11) (Y6 i1 i2 hg hw hc j1) ?_
      refine qW.on (i + 1) ⟨⟨h,qW0 hall hok⟩,by omega⟩ ?_
      exact gw6
     ·have j1:((i:Int) > 0) = True:=eq_true (by omega)
      have hw1:w64 ((i:Int) - 1) = ((i - 1:Nat):Int):=by rw [qR (by omega)];omega
      have i3:((0:Int) ≤ ((i - 1:Nat):Int)) = True:=eq_true (by omega)
      have i4:(((i - 1:Nat):Int) < (f.length:Int)) = True:=eq_true (by omega)
      obtain ⟨s,hs⟩:∃ s,s = f[i - 1]:=⟨_,rfl⟩
      have hgs:(f.map eL)[i - 1]? = some [.sl 1 (s.map eI)]:=by rw [qP (by omega),hs];rfl
      have hgds:f.getD (i - 1) [] = s:=by rw [xP (by omega),hs]
      by_cases hk:cmpT s t > 0
      ·have hok:okT f i = false:=by unfold okT;rw [hgd,hgds,hc,decide_eq_false h0,decide_eq_false (by omega)];rfl
       have hB:forB f = false:=by unfold forB;rw [qK0 h hok,Bool.and_false]
       have k1:(cmpT s t > 0) = True:=eq_true hk
       rw [hB]
       refine gw20 (kk 11) (Y11 i1 i2 i3 i4 hg hgs hw hw1 hc j1 k1) ?_
       refine qW.ret ?_
       refine gw21 (kk 11) Y0 ?_
       exact gw8
      ·have hok:okT f i = true:=by unfold okT;rw [hgd,hgds,hc,decide_eq_true (show cmpT s t ≤ 0 by omega),Bool.or_true];rfl
       have k1:(cmpT s t > 0) = False:=eq_false hk
       refine gw20 (kk 11) (Y11 i1 i2 i3 i4 hg hgs hw hw1 hc j1 k1) ?_
       refine qW.on (i + 1) ⟨⟨h,qW0 hall hok⟩,by omega⟩ ?_
       exact gw6
    ·have hc:canT t = false:=by simpa using hc
     have hok:okT f i = false:=by unfold okT;rw [hgd,hc,Bool.false_and]
     have hB:forB f = false:=by unfold forB;rw [qK0 h hok,Bool.and_false]
     rw [hB]
     refine gw20 (kk 11) (Y5 i1 i2 hg hw hc) ?_
     refine qW.ret ?_
     refine gw21 (kk 11) Y0 ?_
     exact gw8
   ·have i1:((i:Int) < (f.length:Int)) = False:=eq_false (by omega)
    obtain rfl:i = f.length:=by omega
    refine gw21 (kk 11) i1 ?_
    refine qW.out () hall ?_
    exact gw6
  ·rintro _ hall
   have hB:forB f = true:=by unfold forB;rw [hall,decide_eq_true h8];rfl
   rw [hB]
   refine gw21 (kk 11) Y0 ?_
   exact gw8
 ·have i8:((qJ f:Int) > 8) = True:=eq_true (by omega)
  have hB:forB f = false:=by unfold forB;rw [decide_eq_false h8,Bool.false_and]
  rw [hB]
  refine gw19 (kk 11) (Yp hn i8) ?_
  exact gw8
end
section
theorem a_l03Forest (f:List (List Int)) (hsz:qJ f ≤ 1048576) (hln:f.length ≤ 1048576):AFn Tryz.prog 65 [eLL f] (· = [.val (.bool (forB f))]):=by
 have hn:jP f = qJ f:=vD f (by omega)
 refine AFn.of_runs (qX 35) Tryz.func65 rfl rfl rfl gz ?_
 have hres:Tryz.f65.results.toList = [.tmp 2]:=rfl
 have hrts:Tryz.f65.resultTypes.toList = [4]:=rfl
 simp only [qK,qA,eL,eI,eLL,eB,Nat.zero_add,Nat.reduceAdd]
 intro M
 refine qQ.of ?_
 refine gw22 (kk 4) Y0 ?_
 refine qQ.loop (β:=Nat) (γ:=Unit) (fun i => ⟨[(0,.c (.val (.sl 1 (f.map eL)))),(3,.c (.val (.int i)))],[]⟩) (fun i => i ≤ f.length∧(List.range i).all (okT f) = true) (fun i => f.length - i)
  (fun _ => ⟨[(0,.c (.val (.sl 1 (f.map eL))))],[]⟩) (fun _ => (List.range f.length).all (okT f) = true) 0 ⟨Nat.zero_le _,rfl⟩ ?_ ?_ ?_
 ·exact gw6
 ·rintro i ⟨hi,hall⟩
  have hw:=qI (n:=i) (by omega)
  by_cases h:i < f.length
  ·have i1:((i:Int) < (f.length:Int)) = True:=eq_true (by omega)
   have i2:((0:Int) ≤ (i:Int)) = True:=eq_true (by omega)
   obtain ⟨t,ht⟩:∃ t,t = f[i]:=⟨_,rfl⟩
   have hg:(f.map eL)[i]? = some [.sl 1 (t.map eI)]:=by rw [qP h,ht];rfl
   have hgd:f.getD i [] = t:=by rw [xP h,ht]
   have htl:(t.length ≤ 1048576) = True:=eq_true (Nat.le_trans (by rw [ht];exact yX (List.getElem_mem h)) hsz)
   by_cases hc:canT t = true
   ·by_cases h0:i = 0
    ·have j1:((i:Int) > 0) = False:=eq_false (by omega)
     have hok:okT f i = true:=by unfold okT;rw [hgd,hc,h0];rfl
     refine gw23 (kk 4) (Y7 i1 i2 hg hw hc j1 htl) ?_
     refine qW.on (i + 1) ⟨⟨h,qW0 hall hok⟩,by omega⟩ ?_
     exact gw6
    ·have j1:((i:Int) > 0) = True:=eq_true (by omega)
     have hw1:w64 ((i:Int) - 1) = ((i - 1:Nat):Int):=by rw [qR (by omega)];omega
     have i3:((0:Int) ≤ ((i - 1:Nat):Int)) = True:=eq_true (by omega)
     have i4:(((i - 1:Nat):Int) < (f.length:Int)) = True:=eq_true (by omega)
     obtain ⟨s,hs⟩:∃ s,s = f[i - 1]:=⟨_,rfl⟩
     have hgs:(f.map eL)[i - 1]? = some [.sl 1 (s.map eI)]:=by rw [qP (by omega),hs];rfl
     have hgds:f.getD (i - 1) [] = s:=by rw [xP (by omega),hs]
     have han:=yL.anti t s
     by_cases hk:cmpT t s < 0
     ·have hok:okT f i = false:=by unfold okT;rw [hgd,hgds,hc,decide_eq_false h0,decide_eq_false (by omega)];rfl
      have hB:forB f = false:=by unfold forB;rw [qK0 h hok,Bool.and_false]
      have k1:decide (cmpT t s < 0) = true:=decide_eq_true hk
      rw [hB]
      refine gw23 (kk 4) (Y12 i1 i2 i3 i4 hg hgs hw hw1 hc j1 k1 htl) ?_
      refine qW.ret ?_
      refine gw24 (kk 4) Y0 ?_
      exact gw8
     ·have hok:okT f i = true:=by unfold okT;rw [hgd,hgds,hc,decide_eq_true (show cmpT s t ≤ 0 by omega),Bool.or_true];rfl
      have k1:decide (cmpT t s < 0) = false:=decide_eq_false hk
      refine gw23 (kk 4) (Y12 i1 i2 i3 i4 hg hgs hw hw1 hc j1 k1 htl) ?_
      refine qW.on (i + 1) ⟨⟨h,qW0 hall hok⟩,by omega⟩ ?_
      exact gw6
   ·have hc:canT t = false:=by simpa using hc
    have hok:okT f i = false:=by unfold okT;rw [hgd,hc,Bool.false_and]
    have hB:forB f = false:=by unfold forB;rw [qK0 h hok,Bool.and_false]
    rw [hB]
    refine gw23 (kk 4) (Y6 i1 i2 hg hw hc htl) ?_
    refine qW.ret ?_
    refine gw24 (kk 4) Y0 ?_
    exact gw8
  ·have i1:((i:Int) < (f.length:Int)) = False:=eq_false (by omega)
   obtain rfl:i = f.length:=by omega
   refine gw25 (kk 4) i1 ?_
   refine qW.out () hall ?_
   exact gw6
 ·rintro _ hall
  have hB:forB f = decide ((qJ f:Int) ≤ 8):=by
   unfold forB;rw [hall,Bool.and_true]
   exact decide_eq_decide.2 (by omega)
  rw [hB]
  refine gw22 (kk 4) hn ?_
  exact gw8
theorem sgn_neg {n:Int} (h:n < 0):sgn n = -1:=by unfold sgn;rw [if_pos h]
theorem sgn_pos {n:Int} (h:0 < n):sgn n = 1:=by unfold sgn;rw [if_neg (by omega),if_neg (by omega)]
theorem sgn_zero:sgn 0 = 0:=rfl
theorem a_l05Compare (f g:List (List Int)) (hf:f.length ≤ 1000000000) (hg:g.length ≤ 1000000000):AFn Tryz.prog 195 [eLL f,eLL g] (· = [.val (.int (sgn (cmpN f g)))]):=by
 rw [cmpN_eq]
 refine AFn.of_runs (qX 42) Tryz.func195 rfl rfl rfl gz ?_
 have hres:Tryz.f195.results.toList = [.tmp 4]:=rfl
 have hrts:Tryz.f195.resultTypes.toList = [2]:=rfl
 simp only [qK,qA,eL,eI,eLL,eB,Nat.zero_add,Nat.reduceAdd]
 intro M
 refine qQ.of ?_
 by_cases hl:f.length = g.length
 ·have hb:((f.length:Int) != (g.length:Int)) = false:=by simp [hl]
  rw [if_pos (by rw [hl])]
  refine gw26 (kk 6) hb ?_
  refine qQ.loop (β:=Nat) (γ:=Unit) (fun i => ⟨[(0,.c (.val (.sl 1 (f.map eL)))),(1,.c (.val (.sl 1 (g.map eL)))),(5,.c (.val (.int i)))],[]⟩) (fun i => i ≤ f.length∧lexC cmpT f g = lexC cmpT (f.drop i) (g.drop i)) (fun i => f.length - i)
   (fun _ => ⟨[],[]⟩) (fun _ => lexC cmpT f g = 0) 0 ⟨Nat.zero_le _,rfl⟩ ?_ ?_ ?_
  ·exact gw6
  ·rintro i ⟨hi,hx⟩
   have hw:=qI (n:=i) (by omega)
   by_cases h:i < f.length
   ·have h2:i < g.length:=by omega
    have i1:((i:Int) < (f.length:Int)) = True:=eq_true (by omega)
    have i1':((i:Int) < (g.length:Int)) = True:=eq_true (by omega)
    have i2:((0:Int) ≤ (i:Int)) = True:=eq_true (by omega)
    have hs:=lexC_step (c:=cmpT) h h2
    obtain ⟨t,ht⟩:∃ t,t = f[i]:=⟨_,rfl⟩
    obtain ⟨s,hsd⟩:∃ s,s = g[i]:=⟨_,rfl⟩
    rw [← ht,← hsd] at hs
    have hgt:(f.map eL)[i]? = some [.sl 1 (t.map eI)]:=by rw [qP h,ht];rfl
    have hgs:(g.map eL)[i]? = some [.sl 1 (s.map eI)]:=by rw [qP h2,hsd];rfl
    have han:=yL.anti s t
    by_cases c1:cmpT t s < 0
    ·have d1:decide (cmpT t s < 0) = true:=decide_eq_true c1
     rw [hx,hs,if_neg (by omega),sgn_neg c1]
     refine gw23 (kk 6) (Y7 i1 i1' i2 hgt hgs hw d1) ?_
     refine qW.ret ?_
     refine gw24 (kk 6) Y0 ?_
     exact gw8
    ·have d1:decide (cmpT t s < 0) = false:=decide_eq_false c1
     by_cases c2:cmpT s t < 0
     ·have d2:decide (cmpT s t < 0) = true:=decide_eq_true c2
      rw [hx,hs,if_neg (by omega),sgn_pos (by omega)]
      refine gw23 (kk 6) (Y8 i1 i1' i2 hgt hgs hw d1 d2) ?_
      refine qW.ret ?_
      refine gw24 (kk 6) Y0 ?_
      exact gw8
     ·have d2:decide (cmpT s t < 0) = false:=decide_eq_false c2
      rw [if_pos (by omega)] at hs
      refine gw23 (kk 6) (Y8 i1 i1' i2 hgt hgs hw d1 d2) ?_
      refine qW.on (i + 1) ⟨⟨h,by rw [hx,hs]⟩,by omega⟩ ?_
      exact gw6
   ·have i1:((i:Int) < (f.length:Int)) = False:=eq_false (by omega)
    rw [lexC_end0 h (by omega)] at hx
    refine gw25 (kk 6) i1 ?_
    refine qW.out () hx ?_
    exact gw6
  ·rintro _ h0
   rw [h0,sgn_zero]
   refine gw24 (kk 6) Y0 ?_
   exact gw8
 ·have hb:((f.length:Int) != (g.length:Int)) = true:=by simp;omega
  rw [if_neg (by omega)]
  by_cases h2:f.length < g.length
  ·have i1:((f.length:Int) < (g.length:Int)) = True:=eq_true (by omega)
   rw [sgn_neg (by omega)]
   refine gw26 (kk 6) (Yp hb i1) ?_
   exact gw8
  ·have i1:((f.length:Int) < (g.length:Int)) = False:=eq_false (by omega)
   rw [sgn_pos (by omega)]
   refine gw26 (kk 6) (Yp hb i1) ?_
   exact gw8
theorem a_compareForests (f g:List (List Int)) (hf:qJ f ≤ 1000000000) (hg:qJ g ≤ 1000000000):AFn Tryz.prog 87 [eLL f,eLL g] (· = [.val (.int (cmpF f g))]):=by
 refine ⟨enters_of Tryz.func87 rfl rfl,fun A w vs hA ⟨v1,_,e1,h1,v2,_,e2,h2,e3⟩ => ?_⟩
 subst e3;subst e2;subst e1
 have r1:=Rd.of (rdLL h1)
 have r2:=Rd.of (rdLL h2)
 obtain ⟨oa,c1,k1,m1,m2⟩:=r1.val
 obtain ⟨ob,c2,k2,m3,m4⟩:=r2.val
 refine (jO0 v1 v2 f g w r1 r2 (by omega) (by omega)).mono ?_
 rintro e w' ⟨rfl,rfl⟩
 have hle:∀ {f:List (List Int)},qJ f ≤ 1000000000→∀ t ∈ f,t.length ≤ maxLen:=fun h t ht => Nat.le_trans (yX ht) (Nat.le_trans h (by decide))
 exact ⟨_,_,rfl,rfl,Below.refl _ _,[_],[],[],rfl,List.nodup_nil,by simp,_,[],[],[],[],[],rfl,rfl,rfl,rfl,⟨qO.2 ⟨rfl,cmpF_in64 (by omega) (by omega) (by omega) (by omega) (hle hf) (hle hg)⟩,rfl,rfl⟩,rfl,rfl,rfl⟩
end
section
def eSp (z:Spl × Int):List D:=[.sl 1 (z.1.1.map eL),.sl 1 (z.1.2.map eL),.int z.2]
def codF2:Cod Spl:=codP 1 codLL codLL (fun _ => rfl)
def codSp:Cod (Spl × Int):=codP 2 codF2 codI (fun _ => rfl)
theorem kP (f g:List (List Int)) (n:Int):codSp.d [.sl 1 (f.map eL),.sl 1 (g.map eL),.int n] = some ((f,g),n):=codSp.de ((f,g),n)
theorem codSps_d (L:List (Spl × Int)):(codS 3 codSp).d [.sl 3 (L.map eSp)] = some L:=(codS 3 codSp).de L
def SmS (s:Spl):Prop:=SmF s.1∧SmF s.2
instance (s:Spl):Decidable (SmS s):=inferInstanceAs (Decidable (_∧_))
def HaF (f:List (List Int)):Prop:=f.length ≤ 9∧qJ f ≤ 50
instance (f:List (List Int)):Decidable (HaF f):=inferInstanceAs (Decidable (_∧_))
def HaS (s:Spl):Prop:=HaF s.1∧HaF s.2
theorem HaF.mul {f g:List (List Int)} (hf:HaF f) (hg:HaF g):SmF (mulF f g):=by
 obtain ⟨h1,h2⟩:=hf
 obtain ⟨h3,h4⟩:=hg
 exact ⟨by rw [mulF_len];omega,by rw [mulF_sum];omega⟩
theorem HaS.mul {s c:Spl} (hs:HaS s) (hc:HaS c):SmS (mulS s c):=⟨hs.1.mul hc.1,hs.2.mul hc.2⟩
theorem HaF.sm {f:List (List Int)} (hf:HaF f):SmF f:=⟨by have:=hf.1;omega,by have:=hf.2;omega⟩
theorem HaS.sm {s:Spl} (hs:HaS s):SmS s:=⟨hs.1.sm,hs.2.sm⟩
theorem cmpS_sgn (s c:Spl):sgn (cmpS s c) = if qJ s.1 = qJ c.1 then (if sgn (cmpN s.1 c.1) = 0 then sgn (cmpN s.2 c.2) else sgn (cmpN s.1 c.1)) else (if qJ s.1 < qJ c.1 then -1 else 1):=by
 have z:∀ n:Int,sgn n = 0 ↔ n = 0:=fun n => by unfold sgn;split <;> (try split) <;> omega
 unfold cmpS pairC
 rw [cmpF_N]
 by_cases h:qJ s.1 = qJ c.1
 ·rw [if_pos h]
  simp only [h,if_true]
  by_cases h0:cmpN s.1 c.1 = 0
  ·rw [if_pos h0,if_pos ((z _).2 h0)]
  ·rw [if_neg h0,if_neg (fun e => h0 ((z _).1 e))]
 ·rw [if_neg h,if_neg (show ¬ (qJ s.1:Int) = qJ c.1 by omega),if_neg (by omega)]
  by_cases h2:qJ s.1 < qJ c.1
  ·rw [if_pos h2,sgn_neg (by omega)]
  ·rw [if_neg h2,sgn_pos (by omega)]
noncomputable def TOrd:Tab Tryz.prog :=
 jD.add 195 (tab2 codLL codLL fun f g => if SmF f∧SmF g then some [.val (.int (sgn (cmpN f g)))] else none) (kY fun f g rs h => by split at h;cases h;rename_i hs;exact a_l05Compare f g (by have:=hs.1.1;omega) (by have:=hs.2.1;omega);cases h)
theorem a_l05Order (z y:Spl × Int) (hz:SmS z.1) (hy:SmS y.1):AFn Tryz.prog 231 [eSp z,eSp y] (· = [.val (.int (sgn (cmpS z.1 y.1)))]):=by
 obtain ⟨⟨f,g⟩,n⟩:=z
 obtain ⟨⟨f',g'⟩,n'⟩:=y
 obtain ⟨hz1,hz2⟩:=hz
 obtain ⟨hy1,hy2⟩:=hy
 simp only at hz1 hz2 hy1 hy2
 have hn1:jP f = qJ f:=vD f (by have:=hz1.2;omega)
 have hn2:jP f' = qJ f':=vD f' (by have:=hy1.2;omega)
 have e1:=eq_true hz1
 have e2:=eq_true hz2
 have e3:=eq_true hy1
 have e4:=eq_true hy2
 rw [cmpS_sgn]
 simp only
 refine AFn.of_runs (qX 33) Tryz.func231 rfl rfl rfl gz ?_
 have hres:Tryz.f231.results.toList = [.tmp 4]:=rfl
 have hrts:Tryz.f231.resultTypes.toList = [2]:=rfl
 simp only [qK,qA,eL,eI,eLL,eB,Nat.zero_add,Nat.reduceAdd,eSp]
 intro M
 refine qQ.of ?_
 by_cases hl:qJ f = qJ f'
 ·have hb:((qJ f:Int) != (qJ f':Int)) = false:=by simp [hl]
  rw [if_pos hl]
  by_cases h0:sgn (cmpN f f') = 0
  ·have h0b:(sgn (cmpN f f') != 0) = false:=by simp [h0]
   rw [if_pos h0]
   refine gw27 (kk 8) (Y7 hb hn1 hn2 h0b e1 e2 e4) ?_
   exact gw8
  ·have h0b:(sgn (cmpN f f') != 0) = true:=bne_iff_ne.2 h0
   rw [if_neg h0]
   refine gw27 (kk 8) (Y7 hb hn1 hn2 h0b e1 e2 e4) ?_
   exact gw8
 ·have hb:((qJ f:Int) != (qJ f':Int)) = true:=by simp;omega
  rw [if_neg hl]
  by_cases h2:qJ f < qJ f'
  ·have i1:((qJ f:Int) < (qJ f':Int)) = True:=eq_true (by omega)
   rw [if_pos h2]
   refine gw24 (kk 8) (Y4 hb hn1 hn2 i1) ?_
   exact gw8
  ·have i1:((qJ f:Int) < (qJ f':Int)) = False:=eq_false (by omega)
   rw [if_neg h2]
   refine gw24 (kk 8) (Y4 hb hn1 hn2 i1) ?_
   exact gw8
noncomputable def yG:Tab Tryz.prog :=
 Tab.none.add 231 (tab2 codSp codSp fun z y => if SmS z.1∧SmS y.1 then some [.val (.int (sgn (cmpS z.1 y.1)))] else none) (kY fun z y rs h => by split at h;cases h;rename_i hs;exact a_l05Order z y hs.1 hs.2;cases h)
structure PutNI (L:List (Spl × Int)) (k:Int) (x:Spl) (y:Nat × Bool × List (Spl × Int)):Prop where
 le:y.1 ≤ L.length
 no:y.2.1 = false→y.2.2 = L.take y.1∧∀ q ∈ L.take y.1,0 < cmpS x q.1
 yes:y.2.1 = true→y.2.2 ++ L.drop y.1 = putN cmpS L k x
 len:y.2.2.length ≤ y.1 + 1
theorem putN_at {L:List (Spl × Int)} {k:Int} {x:Spl} {i:Nat} (h:i < L.length) (hlow:∀ q ∈ L.take i,0 < cmpS x q.1):putN cmpS L k x = L.take i ++ putN cmpS (L[i] :: L.drop (i + 1)) k x:=by
 have h1:=putN_skip (k:=k) (L.drop i) hlow
 rw [List.take_append_drop,List.drop_eq_getElem_cons h] at h1
 exact h1
theorem a_l05Put (L:List (Spl × Int)) (k:Int) (x:Spl) (hl:L.length ≤ 1000000) (hL:∀ q ∈ L,(1 ≤ q.2∧q.2 ≤ 1000000000)∧SmS q.1) (hk:1 ≤ k∧k ≤ 1000000000) (hx:SmS x):AFn Tryz.prog 191 [[.sl 3 (L.map eSp)],eSp (x,k)] (· = [.val (.sl 3 ((putN cmpS L k x).map eSp))]):=by
 refine AFn.val1 ?_
 have hff:=eq_true hx
 obtain ⟨xf,xg⟩:=x
 refine AFn.of_runs (qX 54) Tryz.func191 rfl rfl rfl gz ?_
 have hres:Tryz.f191.results.toList = [.tmp 4]:=rfl
 have hrts:Tryz.f191.resultTypes.toList = [33]:=rfl
 simp only [qK,qA,eL,eI,eLL,eB,Nat.zero_add,Nat.reduceAdd,eSp]
 intro M
 refine qQ.of ?_
 refine gw28 (kk 10) Y0 ?_
 refine qQ.loop (β:=Nat × Bool × List (Spl × Int)) (γ:=Bool × List (Spl × Int)) (fun y => ⟨[(0,.c (.val (.sl 3 (L.map eSp)))),(3,.optr 3 0 0),(5,.c (.own 5 y.2.2.length)),(6,.c (.val (.bool y.2.1))),(7,.c (.val (.int y.1)))],[(3,.row 3 [[.sl 1 (xf.map eL),.sl 1 (xg.map eL),.int k]] false),(5,.row 3 (y.2.2.map eSp) false)]⟩) (PutNI L k (xf,xg)) (fun y => L.length - y.1)
  (fun y => ⟨[(3,.optr 3 0 0),(5,.c (.own 5 y.2.length)),(6,.c (.val (.bool y.1)))],[(3,.row 3 [[.sl 1 (xf.map eL),.sl 1 (xg.map eL),.int k]] false),(5,.row 3 (y.2.map eSp) false)]⟩) (fun y => PutNI L k (xf,xg) (L.length,y)) (0,false,[]) ⟨Nat.zero_le _,fun _ => ⟨rfl,by simp⟩,(fun h => nomatch h),Nat.zero_le _⟩ ?_ ?_ ?_
 ·exact gw29
 ·rintro ⟨i,d,o⟩ ⟨hi,hno,hyes,hlen⟩
  simp only at hi hno hyes hlen ⊢
  have hw:=qI (n:=i) (by omega)
  have q1:=jS (n:=o.length + 1) (by omega)
  have q2:=jO (n:=o.length + 1) (c:=56) (by omega) (by omega)
  have q3:=jS (n:=o.length + 1 + 1) (by omega)
  have q4:=jO (n:=o.length + 1 + 1) (c:=56) (by omega) (by omega)
  by_cases h:i < L.length
  ·have i1:((i:Int) < (L.length:Int)) = True:=eq_true (by omega)
   have i2:((0:Int) ≤ (i:Int)) = True:=eq_true (by omega)
   obtain ⟨z,hz⟩:∃ z,z = L[i]:=⟨_,rfl⟩
   obtain ⟨⟨hz1,hz2⟩,hz3⟩:=hL L[i] (List.getElem_mem _)
   have hg:(L.map eSp)[i]? = some [.sl 1 (z.1.1.map eL),.sl 1 (z.1.2.map eL),.int z.2]:=by rw [qP h,hz];rfl
   have hdr:L.drop i = z :: L.drop (i + 1):=by rw [hz];exact List.drop_eq_getElem_cons h
   have htk:L.take (i + 1) = L.take i ++ [z]:=by rw [hz];exact List.take_succ_eq_append_getElem h
   rw [← hz] at hz1 hz2 hz3
   obtain ⟨⟨zf,zg⟩,zn⟩:=z
   simp only at hz1 hz2 hz3 hg
   have hzz:=eq_true hz3
   cases d with
   | true =>
    refine gw30 (kk 10) (Y6 i1 i2 hg hw q1 q2) ?_
    refine qW.on (i + 1,true,o ++ [((zf,zg),zn)]) ?_ ?_
    refine ⟨⟨h,(fun h => nomatch h),fun _ => ?_,?_⟩,?_⟩
    ·rw [← hyes rfl,hdr];simp
    ·simp;omega
    ·show L.length - (i + 1) < L.length - i;omega
    ·exact gw31
   | false =>
    obtain ⟨ho,hlow⟩:=hno rfl
    have hpa:=putN_at (k:=k) h hlow
    rw [← hz] at hpa
    rcases Int.lt_trichotomy (cmpS (xf,xg) (zf,zg)) 0 with hc|hc|hc
    ·have hs:=sgn_neg hc
     have hp:putN cmpS L k (xf,xg) = o ++ [((xf,xg),k)] ++ [((zf,zg),zn)] ++ L.drop (i + 1):=by
      rw [hpa,ho];unfold putN;rw [if_pos hc];simp
     refine gw32 (kk 10) (Y11 i1 i2 hg hw hs hff hzz q1 q2 q3 q4) ?_
     refine qW.on (i + 1,true,o ++ [((xf,xg),k)] ++ [((zf,zg),zn)]) ?_ ?_
     refine ⟨⟨h,(fun h => nomatch h),fun _ => hp.symm,?_⟩,?_⟩
     ·have:o.length = i:=by rw [ho,List.length_take];omega
      simp;omega
     ·show L.length - (i + 1) < L.length - i;omega
     ·exact gw31
    ·have hs:sgn (cmpS (xf,xg) (zf,zg)) = 0:=by rw [hc];rfl
     have hwk:=qR (n:=zn + k) (by omega)
     have hp:putN cmpS L k (xf,xg) = o ++ [((zf,zg),zn + k)] ++ L.drop (i + 1):=by
      rw [hpa,ho];unfold putN;rw [if_neg (show ¬ cmpS (xf,xg) (zf,zg) < 0 by omega),if_pos hc];simp
     refine gw30 (kk 10) (Y10 i1 i2 hg hw hs hwk hff hzz q1 q2) ?_
     refine qW.on (i + 1,true,o ++ [((zf,zg),zn + k)]) ?_ ?_
     refine ⟨⟨h,(fun h => nomatch h),fun _ => hp.symm,?_⟩,?_⟩
     ·simp;omega
     ·show L.length - (i + 1) < L.length - i;omega
     ·exact gw31
    ·have hs:=sgn_pos hc
     refine gw30 (kk 10) (Y9 i1 i2 hg hw hs hff hzz q1 q2) ?_
     refine qW.on (i + 1,false,o ++ [((zf,zg),zn)]) ?_ ?_
     refine ⟨⟨h,fun _ => ⟨by rw [htk,ho],?_⟩,(fun h => nomatch h),?_⟩,?_⟩
     ·intro q hq
      have hq:q ∈ L.take (i + 1):=hq
      rw [htk,List.mem_append,List.mem_singleton] at hq
      rcases hq with hq|rfl
      ·exact hlow q hq
      ·exact hc
     ·simp;omega
     ·show L.length - (i + 1) < L.length - i;omega
     ·exact gw31
  ·have i1:((i:Int) < (L.length:Int)) = False:=eq_false (by omega)
   obtain rfl:i = L.length:=by omega
   refine gw33 (kk 10) i1 ?_
   refine qW.out (d,o) ⟨Nat.le_refl _,hno,hyes,hlen⟩ ?_
   exact gw6
 ·rintro ⟨d,o⟩ ⟨_,hno,hyes,hlen⟩
  simp only at hno hyes hlen ⊢
  have q1:=jS (n:=o.length + 1) (by omega)
  have q2:=jO (n:=o.length + 1) (c:=56) (by omega) (by omega)
  cases d with
  | true =>
   have hp:putN cmpS L k (xf,xg) = o:=by rw [← hyes rfl];simp
   rw [hp]
   refine gw28 (kk 10) Y0 ?_
   exact gw8
  | false =>
   obtain ⟨ho,hlow⟩:=hno rfl
   have hp:putN cmpS L k (xf,xg) = o ++ [((xf,xg),k)]:=by
    have h1:=putN_skip (k:=k) [] hlow
    rw [List.append_nil,List.take_length] at h1
    rw [h1,ho,List.take_length]
    rfl
   rw [hp]
   refine gw34 (kk 10) (Yp q1 q2) ?_
   (refine Ends.mk (by simp) (rs:=?_) (ks:=?_) hres hrts ?_ ?_ ?_;rotate_left 2;(focus (simp only [Ze,Zg,Zi,seval,eSp];with_reducible rfl));(focus simp);focus (first|with_reducible rfl|(simp only [Zv,eSp];done)))
def sumN (P:List (Spl × Int)):List (Spl × Int):=P.foldl (fun s p => putN cmpS s p.2 p.1) []
theorem sumN_snoc (P:List (Spl × Int)) (p:Spl × Int):sumN (P ++ [p]) = putN cmpS (sumN P) p.2 p.1:=by unfold sumN;rw [List.foldl_append];rfl
theorem sumN_is {P:List (Spl × Int)} (h:∀ p ∈ P,1 ≤ p.2):IsN cmpS (sumN P) (expN P):=by
 have:=IsN.puts yN P (IsN.nil (c:=cmpS)) h
 rw [List.nil_append] at this
 exact this
theorem sumN_ok {P:List (Spl × Int)} (hP:∀ q ∈ P,1 ≤ q.2∧SmS q.1) (hn:(expN P).length ≤ 1000000):(sumN P).length ≤ 1000000∧∀ q ∈ sumN P,(1 ≤ q.2∧q.2 ≤ 1000000000)∧SmS q.1:=by
 have h:=sumN_is (fun p hp => (hP p hp).1)
 refine ⟨Nat.le_trans h.len hn,fun q hq => ?_⟩
 have h1:=h.cnt q hq
 obtain ⟨r,hr,e⟩:=expN_mem (h.key q hq)
 exact ⟨⟨h1.1,by omega⟩,e ▸ (hP r hr).2⟩
def prodN (A B:List (Spl × Int)):List (Spl × Int):=A.flatMap fun a => B.map fun b => (mulS a.1 b.1,a.2 * b.2)
theorem times_sum (A B:List (Spl × Int)):timesN cmpS mulS A B = sumN (prodN A B):=rfl
theorem prodN_len {A B:List (Spl × Int)} (hA:∀ p ∈ A,1 ≤ p.2) (hB:∀ p ∈ B,1 ≤ p.2):(expN (prodN A B)).length = (expN A).length * (expN B).length:=by
 unfold prodN
 rw [(exp_prod mulS B hB A hA).length_eq]
 generalize expN A = X
 induction X with
 | nil => simp
 | cons x X ih => rw [List.flatMap_cons,List.length_append,ih,List.length_map,List.length_cons,Nat.succ_mul,Nat.add_comm]
theorem prodN_snoc (A B:List (Spl × Int)) (a:Spl × Int):prodN (A ++ [a]) B = prodN A B ++ B.map fun b => (mulS a.1 b.1,a.2 * b.2):=by simp [prodN]
theorem prodN_take {A B:List (Spl × Int)} {i:Nat} (h:i < A.length):∃ Y,prodN A B = (prodN (A.take i) B ++ B.map fun b => (mulS A[i].1 b.1,A[i].2 * b.2)) ++ Y:=by
 refine ⟨prodN (A.drop (i + 1)) B,?_⟩
 rw [← prodN_snoc,← List.take_succ_eq_append_getElem h]
 unfold prodN
 rw [← List.flatMap_append,List.take_append_drop]
noncomputable def TTmN:Tab Tryz.prog :=
 (Tab.none.add 148 (tab2 codLL codLL fun f g => if HaF f∧HaF g then some [.val (.sl 1 ((mulF f g).map eL))] else none) (kY fun f g rs h => by
  split at h
  ·rename_i hs
   cases h
   exact AFn.valT (a_l03Times f g (by have:=hs.1.1;omega) (fun b hb => by have:=yX hb;have:=hs.1.2;omega) (by have:=hs.2.1;omega) (fun b hb => by have:=yX hb;have:=hs.2.2;omega))
  ·cases h)).add
  191 (tab2 (codS 3 codSp) codSp fun L p => if L.length ≤ 1000000∧(∀ q ∈ L,(1 ≤ q.2∧q.2 ≤ 1000000000)∧SmS q.1)∧(1 ≤ p.2∧p.2 ≤ 1000000000)∧SmS p.1 then some [.val (.sl 3 ((putN cmpS L p.2 p.1).map eSp))] else none) (kY fun L p rs h => by
  split at h
  ·rename_i hs
   cases h
   exact a_l05Put L p.2 p.1 hs.1 hs.2.1 hs.2.2.1 hs.2.2.2
  ·cases h)
theorem a_l05Times (A B:List (Spl × Int)) (hA:∀ p ∈ A,1 ≤ p.2∧HaS p.1) (hB:∀ p ∈ B,1 ≤ p.2∧HaS p.1) (nA:(expN A).length ≤ 1000) (nB:(expN B).length ≤ 1000) :
  AFn Tryz.prog 131 [[.sl 3 (A.map eSp)],[.sl 3 (B.map eSp)]] (· = [.val (.sl 3 ((timesN cmpS mulS A B).map eSp))]):=by
 rw [times_sum]
 have cA:∀ p ∈ A,p.2 ≤ 1000:=fun p hp => by
  obtain ⟨s,t,rfl⟩:=List.append_of_mem hp
  rw [kS,jM,List.length_append,List.length_append,List.length_replicate] at nA
  omega
 have cB:∀ p ∈ B,p.2 ≤ 1000:=fun p hp => by
  obtain ⟨s,t,rfl⟩:=List.append_of_mem hp
  rw [kS,jM,List.length_append,List.length_append,List.length_replicate] at nB
  omega
 have len1:∀ (L:List (Spl × Int)),(∀ p ∈ L,1 ≤ p.2)→L.length ≤ (expN L).length:=by
  intro L
  induction L with
  | nil => intro _;exact Nat.le_refl _
  | cons p L ih =>
   intro hp
   have h1:=hp p (by simp)
   have h2:=ih (fun q hq => hp q (by simp [hq]))
   rw [jM,List.length_append,List.length_replicate,List.length_cons];omega
 have lA:A.length ≤ 1000:=Nat.le_trans (len1 A (fun p hp => (hA p hp).1)) nA
 have lB:B.length ≤ 1000:=Nat.le_trans (len1 B (fun p hp => (hB p hp).1)) nB
 have hP:∀ q ∈ prodN A B,1 ≤ q.2∧SmS q.1:=fun q hq => by
  obtain ⟨a,ha,hq⟩:=List.mem_flatMap.1 hq
  obtain ⟨b,hb,rfl⟩:=List.mem_map.1 hq
  exact ⟨Int.mul_pos (hA a ha).1 (hB b hb).1,(hA a ha).2.mul (hB b hb).2⟩
 have hN:(expN (prodN A B)).length ≤ 1000000:=by
  rw [prodN_len (fun p hp => (hA p hp).1) (fun p hp => (hB p hp).1)]
  exact Nat.le_trans (Nat.mul_le_mul nA nB) (by decide)
 have hpre:∀ X Y,prodN A B = X ++ Y→(sumN X).length ≤ 1000000∧∀ q ∈ sumN X,(1 ≤ q.2∧q.2 ≤ 1000000000)∧SmS q.1:=fun X Y e =>
  sumN_ok (fun q hq => hP q (by rw [e];simp [hq])) (by rw [e,kS,List.length_append] at hN;omega)
 refine AFn.of_runs (qX 58) Tryz.func131 rfl rfl rfl gz ?_
 have hres:Tryz.f131.results.toList = [.tmp 4]:=rfl
 have hrts:Tryz.f131.resultTypes.toList = [33]:=rfl
 simp only [qK,qA,eL,eI,eLL,eB,Nat.zero_add,Nat.reduceAdd]
 intro M
 refine qQ.of ?_
 refine gw28 (kk 8) Y0 ?_
 refine qQ.frz 5 ?_
 refine qQ.fits (s0:=⟨[(0,.c (.val (.sl 3 (A.map eSp)))),(1,.c (.val (.sl 3 (B.map eSp)))),(5,.c (.val (.sl 3 []))),(6,.c (.val (.int 0)))],[]⟩) ?_ ?_
 ·exact gw35
 refine qQ.loop (β:=Nat) (γ:=Unit) (fun i => ⟨[(0,.c (.val (.sl 3 (A.map eSp)))),(1,.c (.val (.sl 3 (B.map eSp)))),(5,.c (.val (.sl 3 ((sumN (prodN (A.take i) B)).map eSp)))),(6,.c (.val (.int i)))],[]⟩) (fun i => i ≤ A.length) (fun i => A.length - i)
  (fun _ => ⟨[(5,.c (.val (.sl 3 ((sumN (prodN A B)).map eSp))))],[]⟩) (fun _ => True) 0 (Nat.zero_le _) ?_ ?_ ?_
 ·exact gw36 (Yp (show prodN [] B = [] from rfl) (show sumN [] = [] from rfl))
 ·intro i hi
  have hi:i ≤ A.length:=hi
  have hw:=qI (n:=i) (by omega)
  by_cases h:i < A.length
  ·have i1:((i:Int) < (A.length:Int)) = True:=eq_true (by omega)
   have i2:((0:Int) ≤ (i:Int)) = True:=eq_true (by omega)
   obtain ⟨z,hz⟩:∃ z,z = A[i]:=⟨_,rfl⟩
   obtain ⟨hz1,hz2⟩:=hA A[i] (List.getElem_mem _)
   have hz3:=cA A[i] (List.getElem_mem _)
   obtain ⟨Y,hY⟩:=prodN_take (B:=B) h
   have hg:(A.map eSp)[i]? = some [.sl 1 (z.1.1.map eL),.sl 1 (z.1.2.map eL),.int z.2]:=by rw [qP h,hz];rfl
   have htk:prodN (A.take (i + 1)) B = prodN (A.take i) B ++ B.map fun b => (mulS z.1 b.1,z.2 * b.2):=by
    rw [hz,List.take_succ_eq_append_getElem h,prodN_snoc]
   rw [← hz] at hz1 hz2 hz3 hY
   obtain ⟨R,hR⟩:∃ R,R = prodN (A.take i) B:=⟨_,rfl⟩
   rw [← hR] at hY htk ⊢
   have hle:(A.map eSp).length = A.length:=List.length_map _
   refine gw37 (kk 8) (Y3 i1 i2 hle) ?_
   refine qQ.loop (β:=Nat) (γ:=Unit) (fun j => ⟨[(0,.c (.val (.sl 3 (A.map eSp)))),(1,.c (.val (.sl 3 (B.map eSp)))),(5,.c (.val (.sl 3 ((sumN (R ++ (B.take j).map fun b => (mulS z.1 b.1,z.2 * b.2))).map eSp)))),(6,.c (.val (.int i))),(7,.c (.val (.int j)))],[]⟩) (fun j => j ≤ B.length) (fun j => B.length - j)
    (fun _ => ⟨[(0,.c (.val (.sl 3 (A.map eSp)))),(1,.c (.val (.sl 3 (B.map eSp)))),(5,.c (.val (.sl 3 ((sumN (R ++ B.map fun b => (mulS z.1 b.1,z.2 * b.2))).map eSp)))),(6,.c (.val (.int i)))],[]⟩) (fun _ => True) 0 (Nat.zero_le _) ?_ ?_ ?_
   ·exact gw38
   ·intro j hj
    have hj:j ≤ B.length:=hj
    have hwj:=qI (n:=j) (by omega)
    by_cases g:j < B.length
    ·have j1:((j:Int) < (B.length:Int)) = True:=eq_true (by omega)
     have j2:((0:Int) ≤ (j:Int)) = True:=eq_true (by omega)
     obtain ⟨y,hy⟩:∃ y,y = B[j]:=⟨_,rfl⟩
     obtain ⟨hy1,hy2⟩:=hB B[j] (List.getElem_mem _)
     have hy3:=cB B[j] (List.getElem_mem _)
     have hgj:(B.map eSp)[j]? = some [.sl 1 (y.1.1.map eL),.sl 1 (y.1.2.map eL),.int y.2]:=by rw [qP g,hy];rfl
     have hst:(R ++ (B.take (j + 1)).map fun b => (mulS z.1 b.1,z.2 * b.2)) = (R ++ (B.take j).map fun b => (mulS z.1 b.1,z.2 * b.2)) ++ [(mulS z.1 y.1,z.2 * y.2)]:=by
      rw [hy,List.take_succ_eq_append_getElem g,List.map_append,List.append_assoc];rfl
     rw [← hy] at hy1 hy2 hy3
     have hsplit:prodN A B = (R ++ (B.take j).map fun b => (mulS z.1 b.1,z.2 * b.2)) ++ (((B.drop j).map fun b => (mulS z.1 b.1,z.2 * b.2)) ++ Y):=by
      rw [hY]
      conv => lhs;rw [← List.take_append_drop j B,List.map_append]
      simp only [List.append_assoc]
     obtain ⟨K,hK⟩:∃ K,K = R ++ (B.take j).map fun b => (mulS z.1 b.1,z.2 * b.2):=⟨_,rfl⟩
     rw [← hK] at hsplit hst ⊢
     have hKb:=hpre K _ hsplit
     have hej:(B.map eSp).length = B.length:=List.length_map _
     have hm0:1 ≤ z.2 * y.2:=Int.mul_pos hz1 hy1
     have hm1:z.2 * y.2 ≤ 1000000:=Int.mul_le_mul hz3 hy3 (by omega) (by decide)
     have hwm:=qR (n:=z.2 * y.2) (by omega)
     have t1:=eq_true (And.intro hz2.1 hy2.1)
     have t2:=eq_true (And.intro hz2.2 hy2.2)
     have t3:=eq_true (And.intro hKb.1 (And.intro hKb.2 (And.intro (show 1 ≤ z.2 * y.2∧z.2 * y.2 ≤ 1000000000 by omega) (show SmS (mulF z.1.1 y.1.1,mulF z.1.2 y.1.2) from hz2.mul hy2))))
     refine gw39 (kk 8) (Y12 i1 i2 j1 j2 hg hgj hwj hle hej hwm t1 (Yp t2 t3)) ?_
     refine qW.on (j + 1) ⟨g,by omega⟩ ?_
     rw [hst,sumN_snoc]
     exact gw40
    ·have j1:((j:Int) < (B.length:Int)) = False:=eq_false (by omega)
     obtain rfl:j = B.length:=by omega
     rw [List.take_length]
     refine gw33 (kk 8) j1 ?_
     refine qW.out () trivial ?_
     exact gw6
   ·rintro _ _
    refine gw28 (kk 8) hw ?_
    refine qW.on (i + 1) ⟨h,by omega⟩ ?_
    rw [htk]
    exact gw6
  ·have i1:((i:Int) < (A.length:Int)) = False:=eq_false (by omega)
   obtain rfl:i = A.length:=by omega
   rw [List.take_length]
   refine gw33 (kk 8) i1 ?_
   refine qW.out () trivial ?_
   exact gw6
 ·rintro _ _
  refine gw28 (kk 8) Y0 ?_
  exact gw8
end
section
theorem Row.take {w:World} {k n m cap:Nat} {ds:List Value} {og:Option Nat} (h:Row w (slv og n cap) k n ds og) (hm:m ≤ n):Row w (slv og m cap) k m (ds.take (m * k)) og:=by
 refine ⟨by rw [List.length_take,h.1];exact Nat.min_eq_left (Nat.mul_le_mul_right k hm),?_⟩
 rcases h.2 with ⟨h1,h2,h3⟩|⟨g,c,cur,e,h1,h2,h3,h4,h5,h6,h7⟩
 ·subst h3
  exact .inl ⟨rfl,by omega,rfl⟩
 ·subst h2
  have hc:cap = c:=by
   unfold slv at h1
   simp only [Value.slice.injEq] at h1
   exact h1.2.2
  subst hc
  refine .inr ⟨g,cap,cur,e,rfl,rfl,h3,by omega,h5,h6,?_⟩
  rw [← h7,List.take_take,Nat.min_eq_left (Nat.mul_le_mul_right k hm)]
section
variable {P:Program} {cfg:Cfg} {M:Nat→Prop} {w0:W0} {w w':World} {Ok:Nat→Prop} {N:Nat} {σ:Asg} {s:St} {a:Act} {ops:Array Oper}
theorem qQ.regCut (C:CfgOK P cfg) (T:Tab P) {fs:List Fr} {Q:Exit→St→Prop} {id:Nat} (n:Nat) {s1:St} (ha:Work (aopsT cfg T ops (ops.toList.take n) s) (some s1))
  (h:qV P cfg M ops (ops.toList.drop n) (outK P cfg M fs Q .normal) s1):qQ P cfg M (.region id ops false) fs Q s:=by
 refine qU.region ?_
 have e:ops.toList = ops.toList.take n ++ ops.toList.drop n:=(List.take_append_drop n _).symm
 have cut:∀ (l m:List Oper) (s:St),aopsT cfg T ops l s = some s1→qV P cfg M ops m (outK P cfg M fs Q .normal) s1→qV P cfg M ops (l ++ m) (outK P cfg M fs Q .normal) s:=by
  intro l
  induction l with
  | nil => intro m s h1 h2;simp only [aopsT,Option.some.injEq] at h1;subst h1;exact h2
  | cons o l ih =>
   intro m s h1 h2
   simp only [aopsT] at h1
   obtain ⟨s2,h3,h4⟩:=bind_some h1
   exact qV.stepT C h3 (ih m s2 h4 h2)
 rw [e]
 exact cut _ _ s ha h
end
end
section
section
variable {P:Program} {cfg:Cfg} {w0:W0} {w w':World} {Ok:Nat→Prop} {N:Nat} {σ σ':Asg} {s s':St} {a:Act} {M:Nat→Prop}
theorem qN.join {A:Nat→Prop}:∀ {pre:List (List D)} {ds:List (List D)} {vs1 vs2:List Value},qN A w pre vs1→qN A w ds vs2→qN A w (pre ++ ds) (vs1 ++ vs2)
 | [],ds,vs1,vs2,h,k => by rw [show vs1 = [] from h];exact k
 | d :: pre,ds,vs1,vs2,⟨v,us,e,h1,h2⟩,k => by
  subst e
  exact ⟨v,us ++ vs2,rfl,h1,qN.join h2 k⟩
theorem n_callR (C:CfgOK P cfg) (h:Sim w0 Ok N σ s a w) {o:Oper} {f:Operand} {args:Array Operand} {ts:Array TypeId} {g:FuncId} (ho:o.op = .call ⟨.value f,args,ts⟩) (hf:((opv s.regs f).bind avD).bind fnId = some g)
  {ds:List (List D)} (hd:qN (Zn σ s.heap w) w ds (args.toList.map a.eval)) {Q0:List Res→Prop} (hfn:AFn P g ds Q0)
  {K:Act→World→Prop} {Q:Exit→Act→World→Prop} {key:Nat} (hfr:∀ rs,Q0 rs→∀ q ob,look q (qZ key rs).2 = some ob→Free s q)
  (hK:∀ rs,Q0 rs→∀ v w' σ',relAV σ' ((qZ key rs).2 ++ s.heap) w' (outAV (qZ key rs).1) v→Sim w0 Ok N σ' ⟨s.regs,(qZ key rs).2 ++ s.heap⟩ a w'→K (a.put o.dst v) w'):o.wp P a w K Q:=by
 have hfv:a.eval f = .func (.func g) #[] #[]:=wI h hf
 have hrun:(execOp a.eval o).run P w = .ok (.enter g (args.map a.eval)) w:=by
  unfold execOp
  rw [ho]
  simp [resolve,Deferred.ofValue,hfv,invoke,hfn.call]
 obtain ⟨A,hA,hAa,hAz⟩:∃ A:Nat→Prop,(∀ b,A b→b < w.heap.size)∧qN A w ds (args.toList.map a.eval)∧((∃ rs,Q0 rs∧rs.all Res.scalar = false)→∀ b,A b→Zn σ s.heap w b):=by
  exact ⟨Zn σ s.heap w,fun _ h => h.1,hd,fun _ b hb => hb⟩
 have hcall:=hfn.fn A w (args.toList.map a.eval) hA hAa
 unfold Oper.wp
 rw [hrun,Oper.upon_enter]
 have e:(args.toList.map a.eval).toArray = args.map a.eval:=by rw [← Array.toList_map,Array.toArray_toList]
 rw [← e]
 refine hcall.mono ?_
 rintro e w' ⟨v,rs,rfl,hQ,hw,us,G,X,rfl,hG1,hG2,hrel⟩
 obtain ⟨σ',k0,k1,k2,k3,k4⟩:=wM key σ hrel hG1
 have hgn:∀ q u,look q (qZ key rs).2 = some u→∀ b,σ'.g q = some b→w.heap.size ≤ b:=fun q u hq b hb => hG2 b ((k2 q u hq).2.2.1 b (qC hb))
 have hZ1:(∀ b,A b→Zn σ s.heap w b)→∀ b,((A b ∨ w.heap.size ≤ b)∧b ∉ X)→b < w'.heap.size→Zn σ' ((qZ key rs).2 ++ s.heap) w' b:=by
  intro hAz b hb hlt
  have hz:=jZ.grown hw h hAz b hb.1 hlt
  refine ⟨hlt,by rw [k0];exact hz.2.1,fun q u hq e => ?_⟩
  rw [jH] at hq
  cases hn:look q (qZ key rs).2 with
  | some o' => exact hb.2 ((k2 q o' hn).2.2.2 b e)
  | none =>
   rw [hn] at hq
   rw [(k1 q hn).1] at e
   exact hz.2.2 q u hq e
 refine hK rs hQ _ w' σ' (out_rel ?_) ?_
 ·by_cases hsc:rs.all Res.scalar = true
  ·exact k4.relS hsc
  ·exact k4.rel (hZ1 (hAz ⟨rs,hQ,by simpa using hsc⟩))
 ·refine h.news k0 hw (hfr rs hQ) k1 (fun q o' hq => ?_) (fun q o' hq => ?_) k3
  ·obtain ⟨⟨dd,k,xs,d,b1,b2,b3,b4⟩,_⟩:=k2 q o' hq
   subst b1
   refine ⟨dd,b2,b3,?_⟩
   show if d = true then ownR k w' dd xs (σ'.F q) else rdR k (Zn σ' ((qZ key rs).2 ++ s.heap) w') w' dd xs
   cases d with
   | true => rw [if_pos rfl];exact b4
   | false =>
    rw [if_neg (by decide)]
    have b4':rdR k (fun b => (A b ∨ w.heap.size ≤ b)∧b ∉ X) w' dd xs:=b4
    have hsc:rs.all Res.scalar = false:=by
     have key:∀ {rs:List Res} {key:Nat} {q:Nat},look q (qZ key rs).2 = some (.row k xs false)→rs.all Res.scalar = false:=by
      intro rs
      induction rs with
      | nil => intro key q hq;cases hq
      | cons r rs ih =>
       intro key q hq
       cases r with
       | val d => rw [List.all_cons,ih (by simpa [qZ,resAC] using hq),Bool.and_false]
       | own kk ys d =>
        simp only [qZ,resAC,List.singleton_append,look] at hq
        split at hq
        ·cases hq;rfl
        ·rw [List.all_cons,ih hq,Bool.and_false]
     exact key hq
    exact b4'.mono (fun b hb hlt => hZ1 (hAz ⟨rs,hQ,hsc⟩) b hb hlt)
  ·obtain ⟨_,b5,b6,_⟩:=k2 q o' hq
   exact ⟨fun b hb => hG2 b (b6 b hb),b5⟩
theorem qV.callNilP (C:CfgOK P cfg) {ops:Array Oper} {o:Oper} {l:List Oper} {Q:St→Prop} {d:Nat} {f:Operand} {args:Array Operand} {ts:Array TypeId} {g:FuncId} (hb:jQ ops s.regs o = some true) (hdN:d < cfg.N)
  (ho:o.op = .call ⟨.value f,args,ts⟩) (hod:o.dst = some d) (hf:((opv s.regs f).bind avD).bind fnId = some g)
  {xs:List Operand} {tx:List TypeId} {pre:List (List D)} {ys:List Operand} {ty:List TypeId} {post:List (List D)} (ha:args.toList = xs ++ .const (.slice none 0 0) :: ys) (hpre:aargs cfg (fun k => look k s.heap) s.regs xs tx = some pre) (hr:qL s.regs xs = []) (hpost:aargs cfg (fun k => look k s.heap) s.regs ys ty = some post) (hr2:qL s.regs ys = [])
  {rs:List Res} (hfn:AFn P g (pre ++ [.raw (.slice none 0 0)] :: post) (· = rs)) (hfr:(qZ d rs).2.all (fun p => fresh s p.1) = true)
  (h:qV P cfg M ops l Q (s.got d rs)):qV P cfg M ops (o :: l) Q s:=by
 intro w0 Ok σ a w Q' hM hS hQ
 refine wpList_step (fun K hK => ?_)
 rw [xH hS hb]
 simp only [if_true]
 have hrel:qN (Zn σ s.heap w) w (pre ++ [.raw (.slice none 0 0)] :: post) (args.toList.map a.eval):=by
  rw [ha,List.map_append]
  exact qN.join ((kX C hS hpre).2 hr) ⟨_,_,rfl,jL.2 ⟨rfl,rfl⟩,(kX C hS hpost).2 hr2⟩
 refine n_callR C hS (key:=d) ho hf hrel hfn (fun rs' e => e ▸ fun q ob hq => xU (List.all_eq_true.1 hfr _ (yW hq))) (fun rs' e v w' σ' hv hS' => ?_)
 subst e
 rw [hod]
 have hsub:∀ k o',look k (jI (qZ d rs').2 s.heap) = some o'→look k ((qZ d rs').2 ++ s.heap) = some o':=fun k o' ho' => by rw [kU] at ho';exact ho'
 exact hK _ _ (h w0 Ok σ' _ _ Q' hM (Sim.ins (hS'.forget (fun _ _ h => h) hsub) hdN (hv.sub hsub)) hQ)
end
noncomputable def atOwn (A:List (List D)) (k:Nat) (X:List (List D)) (B:List (List D)) (R:List Res) (a:List (List D)) (k':Nat) (x:List (List D)) (b:List (List D)):Option (List Res × Option (List (List D))):=by
 classical
 exact if a = A∧k' = k∧x = X∧b = B then some (R,Option.none) else Option.none
theorem atOwn_eq (A:List (List D)) (k:Nat) (X:List (List D)) (B:List (List D)) (R:List Res):atOwn A k X B R A k X B = some (R,Option.none):=by
 unfold atOwn;rw [if_pos ⟨rfl,rfl,rfl,rfl⟩]
theorem atOwn_some {A:List (List D)} {k:Nat} {X:List (List D)} {B:List (List D)} {R:List Res} {a:List (List D)} {k':Nat} {x b:List (List D)} {r:List Res × Option (List (List D))} (h:atOwn A k X B R a k' x b = some r):a = A∧k' = k∧x = X∧b = B∧r = (R,Option.none):=by
 unfold atOwn at h
 split at h
 ·rename_i h1
  exact ⟨h1.1,h1.2.1,h1.2.2.1,h1.2.2.2,(Option.some.inj h).symm⟩
 ·exact nomatch h
noncomputable def Tab.own' {P:Program} (T:Tab P) (g:FuncId) (n:Nat) {A:List (List D)} {k:Nat} {X B:List (List D)} {R:List Res} (h:AOw P g A k X B (· = R)):Tab P :=
 T.own g ⟨false,n,atOwn A k X B R⟩ (fun pre k' xs post r _ e => by
  obtain ⟨rfl,rfl,rfl,rfl,rfl⟩:=atOwn_some e
  exact h.toEf)
end
section
theorem foldS_len {α:Type} (f:α→List Spl) (m:α→Nat):∀ (bs:List α) (A:List Spl),(∀ b ∈ bs,(f b).length ≤ 2 ^ m b)→(foldS A (bs.map f)).length ≤ A.length * 2 ^ (bs.map m).sum
 | [],A,_ => by simp [foldS]
 | b :: bs,A,h => by
  have h1:=foldS_len f m bs (A.flatMap fun s => (f b).map (catS s)) (fun x hx => h x (by simp [hx]))
  have h2:(A.flatMap fun s => (f b).map (catS s)).length = A.length * (f b).length:=by
   clear h1
   induction A with
   | nil => simp
   | cons a A ih => rw [List.flatMap_cons,List.length_append,ih,List.length_map,List.length_cons,Nat.succ_mul,Nat.add_comm]
  rw [h2] at h1
  have e:((b :: bs).map m).sum = m b + (bs.map m).sum:=by simp
  rw [e,Nat.pow_add]
  refine Nat.le_trans h1 ?_
  rw [← Nat.mul_assoc]
  exact Nat.mul_le_mul_right _ (Nat.mul_le_mul_left _ (h b (by simp)))
theorem vT:∀ (n:Nat) {t:List Int},t.length ≤ n→qY t→(split t).length ≤ 2 ^ t.length
 | 0,t,hn,h => by have:=h.pos;omega
 | n + 1,t,hn,h => by
  rw [xW h,List.length_append,List.length_map,List.length_singleton]
  have h1:=foldS_len split List.length (brs t) [([],[])] (fun b hb => vT n (by have:=yA h b hb;omega) (jX h b hb))
  have hb:=xB h
  have h2:(prodS ((brs t).map split)).length ≤ 2 ^ qJ (brs t):=by
   have:(foldS [([],[])] ((brs t).map split)).length ≤ 1 * 2 ^ qJ (brs t):=h1
   rw [Nat.one_mul] at this;exact this
  rw [← hb,Nat.pow_succ]
  have:0 < 2 ^ qJ (brs t):=Nat.pow_pos (by decide)
  omega
theorem vU {bs:List (List Int)} (h:∀ b ∈ bs,qY b) (h8:qJ bs ≤ 8):(prodS (bs.map split)).length ≤ 256:=by
 have h1:=foldS_len split List.length bs [([],[])] (fun b hb => vT _ (Nat.le_refl _) (h b hb))
 have h2:(prodS (bs.map split)).length ≤ 2 ^ qJ bs:=by
  have:(foldS [([],[])] (bs.map split)).length ≤ 1 * 2 ^ qJ bs:=h1
  rw [Nat.one_mul] at this;exact this
 exact Nat.le_trans h2 (Nat.pow_le_pow_right (by decide) h8)
theorem kM {bs:List (List Int)} (h:∀ b ∈ bs,qY b):∀ s ∈ prodS (bs.map split),yU (qJ bs) s:=fun s hs => by
 have:=qF0 split List.length bs [([],[])] 0 (fun b hb => kE _ (Nat.le_refl _) (h b hb)) (fun s hs => by
  obtain rfl:=List.mem_singleton.1 hs
  exact ⟨by simp,rfl⟩) s hs
 rw [Nat.zero_add] at this
 exact this
theorem yU.nrm {n:Nat} {s:Spl} (h:yU n s):yU n (nrmS s):=by
 refine ⟨fun t ht => h.1 t ?_,?_⟩
 ·unfold nrmS at ht
  simp only [List.mem_append,yQ] at ht ⊢
  exact ht
 ·unfold nrmS
  simp only
  rw [xR (jE _),xR (jE _)]
  exact h.2
theorem xM:∀ {f:List (List Int)},(∀ t ∈ f,qY t)→f.length ≤ qJ f
 | [],_ => Nat.le_refl _
 | t :: f,h => by
  have h1:=(h t (by simp)).pos
  have h2:=xM (f:=f) (fun x hx => h x (by simp [hx]))
  have:qJ (t :: f) = t.length + qJ f:=rfl
  rw [this,List.length_cons];omega
theorem yU.ha {n:Nat} {s:Spl} (h:yU n s) (hn:n ≤ 9):HaS s:=by
 have h1:=xM (f:=s.1) (fun t ht => (h.1 t (by simp [ht])).1)
 have h2:=xM (f:=s.2) (fun t ht => (h.1 t (by simp [ht])).1)
 have h3:=h.2
 exact ⟨⟨by omega,by omega⟩,⟨by omega,by omega⟩⟩
theorem gath_ok {L:List Spl} {n:Nat} (hL:∀ s ∈ L,yU n s) (hn:n ≤ 9):∀ p ∈ gathS L,1 ≤ p.2∧HaS p.1:=fun p hp => by
 have h:=jB L
 refine ⟨(h.cnt p hp).1,?_⟩
 obtain ⟨s,hs,e⟩:=List.mem_map.1 (h.key p hp)
 rw [← e]
 exact (hL s hs).nrm.ha hn
theorem qJ0 {L:List Spl} {n:Nat} (hL:∀ s ∈ L,yU n s):∀ p ∈ gathS L,1 ≤ p.2∧p.2 ≤ L.length∧yU n p.1:=fun p hp => by
 have h:=jB L
 have hc:=h.cnt p hp
 rw [List.length_map] at hc
 refine ⟨hc.1,hc.2,?_⟩
 obtain ⟨s,hs,e⟩:=List.mem_map.1 (h.key p hp)
 rw [← e]
 exact (hL s hs).nrm
theorem gath_exp (L:List Spl):(expN (gathS L)).length = L.length:=by rw [(jB L).2.length_eq,List.length_map]
theorem gath_one:gathS [([],[])] = [(([],[]),1)]:=IsN.ext yN (jB _) one_is (List.Perm.refl _)
theorem prodS_snoc (Ls:List (List Spl)) (L:List Spl):prodS (Ls ++ [L]) = (prodS Ls).flatMap fun s => L.map (catS s):=by unfold prodS;rw [List.foldl_append];rfl
theorem times_gath (Ls:List (List Spl)) (L:List Spl):timesN cmpS mulS (gathS (prodS Ls)) (gathS L) = gathS (prodS (Ls ++ [L])):=by
 refine IsN.ext yN (IsN.times yN mulS (jB _) (jB _)) (jB _) ?_
 rw [prodS_snoc,vL]
theorem vG {α:Type} {l:List α} {i:Nat} {P:α→Prop} (h:∀ b ∈ l,P b):∀ b ∈ l.take i,P b:=fun b hb => h b (List.mem_of_mem_take hb)
theorem qE0 (l:List (List Int)) (i:Nat):qJ (l.take i) ≤ qJ l:=by
 conv => rhs;rw [← List.take_append_drop i l,kR]
 omega
theorem a_l03Parts (t:List Int) (h:qY t) (hl:t.length ≤ 1000):AFn Tryz.prog 230 [eL t] (· = [.own 1 ((brs t).map eL) true]) :=
 afn_L_oo (enters_of Tryz.func230 rfl rfl) (fun u w h' => yK0 u t w h' h (by omega))
theorem a_l03Branches (t:List Int) (h:qY t) (hc:canon t = t) (hl:t.length ≤ 1000):AFn Tryz.prog 192 [eL t] (· = [.own 1 ((sortC cmpT (brs t)).map eL) true]):=by
 have h1:=jC0 t h hl
 have h2:=a_l03Parts t h hl
 have hb:=xB h
 have h3:=a_l03Sort (brs t) (by have:=brs_few h;omega) (fun b hb' => by have:=yX hb';omega)
 rw [hc] at h1
 simp only [eL,eLL] at h1 h2 h3
 refine AFn.of_runs (qX 7) Tryz.func192 rfl rfl rfl gz ?_
 have hres:Tryz.f192.results.toList = [.tmp 2]:=rfl
 have hrts:Tryz.f192.resultTypes.toList = [36]:=rfl
 simp only [qK,qA,eL,eI,eLL,eB,Nat.zero_add,Nat.reduceAdd]
 intro M
 refine qQ.of ?_
 refine gw41 (kk 3) ?_
 (refine Ends.mk (by simp) (rs:=?_) (ks:=?_) hres hrts ?_ ?_ ?_;rotate_left 2;(focus (simp only [Ze,Zg,Zi,seval,forest];with_reducible rfl));(focus simp);focus (first|with_reducible rfl|(simp only [Zv,forest];done)))
theorem yJ0 (n:Nat) (hT:∀ b,qY b→canon b = b→b.length ≤ n→AFn Tryz.prog 132 [eL b] (· = [.val (.sl 3 ((gathS (split b)).map eSp))])) (bs:List (List Int)) (hb:∀ b ∈ bs,qY b∧canon b = b∧b.length ≤ n) (h8:qJ bs ≤ 8) :
  AFn Tryz.prog 66 [eLL bs] (· = [.val (.sl 3 ((gathS (prodS (bs.map split))).map eSp))]):=by
 have hlev:∀ b ∈ bs,qY b:=fun b hb' => (hb b hb').1
 have hbl:=xM hlev
 refine AFn.of_runs (qX 21) Tryz.func66 rfl rfl rfl gz ?_
 have hres:Tryz.f66.results.toList = [.tmp 2]:=rfl
 have hrts:Tryz.f66.resultTypes.toList = [33]:=rfl
 simp only [qK,qA,eL,eI,eLL,eB,Nat.zero_add,Nat.reduceAdd]
 intro M
 refine qQ.of ?_
 refine gw7 (kk 5) Y0 ?_
 refine qQ.frz 3 ?_
 refine qQ.fits (s0:=⟨[(0,.c (.val (.sl 1 (bs.map eL)))),(3,.c (.val (.sl 3 [[.sl 1 [],.sl 1 [],.int 1]]))),(4,.c (.val (.int 0)))],[]⟩) ?_ ?_
 ·exact gw35
 refine qQ.loop (β:=Nat) (γ:=Unit) (fun i => ⟨[(0,.c (.val (.sl 1 (bs.map eL)))),(3,.c (.val (.sl 3 ((gathS (prodS ((bs.take i).map split))).map eSp)))),(4,.c (.val (.int i)))],[]⟩) (fun i => i ≤ bs.length) (fun i => bs.length - i)
  (fun _ => ⟨[(3,.c (.val (.sl 3 ((gathS (prodS (bs.map split))).map eSp))))],[]⟩) (fun _ => True) 0 (Nat.zero_le _) ?_ ?_ ?_
 ·exact gw42 (show prodS [] = [([],[])] from rfl)
 ·intro i hi
  have hi:i ≤ bs.length:=hi
  have hw:=qI (n:=i) (by omega)
  by_cases h:i < bs.length
  ·have i1:((i:Int) < (bs.length:Int)) = True:=eq_true (by omega)
   have i2:((0:Int) ≤ (i:Int)) = True:=eq_true (by omega)
   obtain ⟨b,hbe⟩:∃ b,b = bs[i]:=⟨_,rfl⟩
   have hmem:b ∈ bs:=by rw [hbe];exact List.getElem_mem _
   have hg:(bs.map eL)[i]? = some [.sl 1 (b.map eI)]:=by rw [qP h,hbe];rfl
   have hle:(bs.map eL).length = bs.length:=List.length_map _
   obtain ⟨hb1,hb2,hb3⟩:=hb b hmem
   have hb4:b.length ≤ 8:=by have:=yX hmem;omega
   have ht:=hT b hb1 hb2 hb3
   have hX:=qE0 bs i
   have hlevX:=vG (i:=i) hlev
   have htm:=a_l05Times (gathS (prodS ((bs.take i).map split))) (gathS (split b)) (gath_ok (kM hlevX) (by omega)) (gath_ok (kE _ (Nat.le_refl _) hb1) (by omega))
    (by rw [gath_exp];have:=vU hlevX (by omega);omega)
    (by rw [gath_exp];have:=vT _ (Nat.le_refl _) hb1;have h2:2 ^ b.length ≤ 2 ^ 8:=Nat.pow_le_pow_right (by decide) hb4;omega)
   rw [times_gath] at htm
   have htk:(bs.take (i + 1)).map split = (bs.take i).map split ++ [split b]:=by rw [hbe,List.take_succ_eq_append_getElem h,List.map_append];rfl
   simp only [eL] at ht
   refine gw43 (kk 5) (Y5 i1 i2 hg hw hle) ?_
   refine qW.on (i + 1) ⟨h,by omega⟩ ?_
   rw [htk]
   exact gw6
  ·have i1:((i:Int) < (bs.length:Int)) = False:=eq_false (by omega)
   obtain rfl:i = bs.length:=by omega
   rw [List.take_length]
   refine gw5 (kk 5) i1 ?_
   refine qW.out () trivial ?_
   exact gw6
 ·rintro _ _
  refine gw7 (kk 5) Y0 ?_
  exact gw8
theorem tree_sum {t:List Int} (h:qY t) (hc:canon t = t):(gathS (prodS ((sortC cmpT (brs t)).map split))).foldl (fun s p => putN cmpS s p.2 (rootS p.1)) [(([t],[]),1)] = gathS (split t):=by
 have hf:=spec_tree h hc (fun b => gathS (split b)) (fun b _ => jB _)
 unfold putsS at hf
 rw [spec_forest (sortC cmpT (brs t)) (fun b => gathS (split b)) (fun b _ => rfl)] at hf
 exact hf
theorem putM_is (L:List (Spl × Int)) (P:List (Spl × Int)) {M:List Spl} (hL:IsN cmpS L M) (hP:∀ p ∈ P,1 ≤ p.2):IsN cmpS (P.foldl (fun s p => putN cmpS s p.2 (rootS p.1)) L) (M ++ expN (P.map fun p => (rootS p.1,p.2))):=by
 have h2:=IsN.puts yN (P.map fun p => (rootS p.1,p.2)) hL (fun p hp => by
  obtain ⟨q,hq,rfl⟩:=List.mem_map.1 hp
  exact hP q hq)
 rw [List.foldl_map] at h2
 exact h2
theorem canon_brs {t:List Int} (h:qY t) (hc:canon t = t):∀ b ∈ brs t,canon b = b:=fun b hb => by
 have hl:∀ c ∈ sortC cmpD ((brs t).map canon),qY c:=fun c hc' => by
  rw [yQ,List.mem_map] at hc'
  obtain ⟨x,hx,rfl⟩:=hc'
  exact yE (jX h x hx)
 have e:=xD h
 rw [hc] at e
 rw [e,vW hl,yQ,List.mem_map] at hb
 obtain ⟨x,hx,rfl⟩:=hb
 exact kH (jX h x hx)
theorem root_sm {s:Spl} {n:Nat} (h:yU n s) (hn:n ≤ 8):SmS (rootS s):=by
 have h1:=(h.ha (by omega)).1.sm
 have hl:qY (qT s.2):=kN fun b hb => (h.1 b (by simp [hb])).1
 refine ⟨h1,by simp [rootS],?_⟩
 show (canon (qT s.2)).length + 0 ≤ 100
 rw [xN hl,xA]
 have:=h.2;omega
theorem a_l05Tree:∀ (n:Nat),n ≤ 8→∀ t:List Int,qY t→canon t = t→t.length ≤ n→AFn Tryz.prog 132 [eL t] (· = [.val (.sl 3 ((gathS (split t)).map eSp))])
 | 0,_,t,h,_,hn => by have:=h.pos;omega
 | n + 1,hn8,t,h,hc,hn => by
  have hsb:=xB h
  have hperm:=jE (c:=cmpT) (brs t)
  have hlev:∀ b ∈ sortC cmpT (brs t),qY b:=fun b hb => jX h b (yQ.1 hb)
  have hs8:qJ (sortC cmpT (brs t)) ≤ 7:=by rw [xR hperm];omega
  have hbr:=AFn.valT (a_l03Branches t h hc (by omega))
  have hfo:=yJ0 n (fun b h1 h2 h3 => a_l05Tree n (by omega) b h1 h2 h3) (sortC cmpT (brs t)) (fun b hb => by
   have hb':=yQ.1 hb
   exact ⟨jX h b hb',canon_brs h hc b hb',by have:=yA h b hb';omega⟩) (by omega)
  have how:=AFn.valT (a_l01Own t (by omega))
  have hgood:=qJ0 (kM hlev)
  have hlen:=vU hlev (by omega)
  have hfin:=tree_sum h hc
  have hBl:(gathS (prodS ((sortC cmpT (brs t)).map split))).length ≤ 256:=by have:=(jB (prodS ((sortC cmpT (brs t)).map split))).len;rw [List.length_map] at this;omega
  have hBe:=gath_exp (prodS ((sortC cmpT (brs t)).map split))
  obtain ⟨B,hB⟩:∃ B,B = gathS (prodS ((sortC cmpT (brs t)).map split)):=⟨_,rfl⟩
  rw [← hB] at hgood hfin hfo hBl hBe
  have hone:IsN cmpS [((([t],[]):Spl),1)] [([t],[])]:=⟨⟨by simp,by simp⟩,List.Perm.refl _⟩
  have hF:∀ j,((B.take j).foldl (fun s p => putN cmpS s p.2 (rootS p.1)) [(([t],[]),1)]).length ≤ 1000000∧∀ q ∈ (B.take j).foldl (fun s p => putN cmpS s p.2 (rootS p.1)) [(([t],[]),1)],(1 ≤ q.2∧q.2 ≤ 1000000000)∧SmS q.1:=fun j => by
   have hP:∀ p ∈ B.take j,1 ≤ p.2∧p.2 ≤ 256∧SmS (rootS p.1):=fun p hp => by
    obtain ⟨g1,g2,g3⟩:=hgood p (List.mem_of_mem_take hp)
    exact ⟨g1,by omega,root_sm g3 (by omega)⟩
   have hi:=putM_is _ (B.take j) hone (fun p hp => (hP p hp).1)
   have hlt:(expN ((B.take j).map fun p => (rootS p.1,p.2))).length ≤ 256 * 256:=by
    have key:∀ (X:List (Spl × Int)),(∀ p ∈ X,p.2 ≤ 256)→(expN (X.map fun p => (rootS p.1,p.2))).length ≤ 256 * X.length:=by
     intro X
     induction X with
     | nil => intro _;simp [expN]
     | cons x X ih =>
      intro hx
      have h1:=ih (fun p hp => hx p (by simp [hp]))
      have h2:=hx x (by simp)
      rw [List.map_cons,jM,List.length_append,List.length_replicate,List.length_cons,Nat.mul_succ]
      show x.2.toNat + _ ≤ _
      omega
    have h1:=key (B.take j) (fun p hp => (hP p hp).2.1)
    have h2:(B.take j).length ≤ 256:=by rw [List.length_take];omega
    exact Nat.le_trans h1 (Nat.mul_le_mul_left _ h2)
   have hM:([(([t],[]):Spl)] ++ expN ((B.take j).map fun p => (rootS p.1,p.2))).length ≤ 1 + 256 * 256:=by rw [List.length_append,List.length_singleton];omega
   refine ⟨Nat.le_trans hi.len (by omega),fun q hq => ?_⟩
   have hcq:=hi.cnt q hq
   refine ⟨⟨hcq.1,by omega⟩,?_⟩
   have hk:=hi.key q hq
   rcases List.mem_append.1 hk with hk|hk
   ·rw [List.mem_singleton.1 hk]
    exact ⟨⟨by simp,by show t.length + 0 ≤ 100;omega⟩,by show SmF [];decide⟩
   ·obtain ⟨r,hr,e⟩:=expN_mem hk
    obtain ⟨p,hp,rfl⟩:=List.mem_map.1 hr
    rw [← e]
    exact (hP p hp).2.2
  simp only [eL,eLL] at hbr hfo how
  refine AFn.of_runs (qX 41) Tryz.func132 rfl rfl rfl gz ?_
  have hres:Tryz.f132.results.toList = [.tmp 2]:=rfl
  have hrts:Tryz.f132.resultTypes.toList = [33]:=rfl
  simp only [qK,qA,eL,eI,eLL,eB,Nat.zero_add,Nat.reduceAdd]
  intro M
  refine qQ.of ?_
  refine gw44 (kk 6) ?_
  refine qQ.regCut (qX 41) (Tab.none.at' 133 how) 3 (s1:=?_) ?_ ?_
  rotate_left 1
  focus (refine Work.mk ?_;simp only [Zg,Zi,seval];with_reducible rfl)
  simp only [List.toList_toArray,List.drop_succ_cons,List.drop_zero]
  refine qV.frzs [11] ?_
  refine qV.opsT (qX 41) (T:=Tab.none) (s':=?_) ?_ ?_
  rotate_left 1
  focus (simp only [Zg,Zi,seval];with_reducible rfl)
  refine gw28 (kk 6) Y0 ?_
  refine qQ.frz 4 ?_
  refine qQ.fits (s0:=⟨[(3,.c (.val (.sl 3 (B.map eSp)))),(4,.c (.val (.sl 3 [[.sl 1 [[.sl 1 (t.map eI)]],.sl 1 [],.int 1]]))),(5,.c (.val (.int 0)))],[]⟩) ?_ ?_
  ·exact gw35
  refine qQ.loop (β:=Nat) (γ:=Unit) (fun j => ⟨[(3,.c (.val (.sl 3 (B.map eSp)))),(4,.c (.val (.sl 3 (((B.take j).foldl (fun s p => putN cmpS s p.2 (rootS p.1)) [(([t],[]),1)]).map eSp)))),(5,.c (.val (.int j)))],[]⟩) (fun j => j ≤ B.length) (fun j => B.length - j)
   (fun _ => ⟨[(4,.c (.val (.sl 3 ((gathS (split t)).map eSp))))],[]⟩) (fun _ => True) 0 (Nat.zero_le _) ?_ ?_ ?_
  ·exact gw45
  ·intro i hi
   have hi:i ≤ B.length:=hi
   have hw:=qI (n:=i) (by omega)
   by_cases h':i < B.length
   ·have i1:((i:Int) < (B.length:Int)) = True:=eq_true (by omega)
    have i2:((0:Int) ≤ (i:Int)) = True:=eq_true (by omega)
    obtain ⟨z,hz⟩:∃ z,z = B[i]:=⟨_,rfl⟩
    have hgz:=hgood B[i] (List.getElem_mem _)
    rw [← hz] at hgz
    obtain ⟨g1,g2,g3⟩:=hgz
    have hgz:=(g3.ha (by omega)).2.sm
    have hlz:∀ b ∈ z.1.2,qY b:=fun b hb => (g3.1 b (by simp [hb])).1
    have hroot:=AFn.valT (a_l03Root z.1.2 hgz hlz)
    have hst:(B.take (i + 1)).foldl (fun s p => putN cmpS s p.2 (rootS p.1)) [(([t],[]),1)] = putN cmpS ((B.take i).foldl (fun s p => putN cmpS s p.2 (rootS p.1)) [(([t],[]),1)]) z.2 (rootS z.1):=by
     rw [hz,List.take_succ_eq_append_getElem h',List.foldl_append];rfl
    have hFi:=hF i
    obtain ⟨K,hK⟩:∃ K,K = (B.take i).foldl (fun s p => putN cmpS s p.2 (rootS p.1)) [(([t],[]),1)]:=⟨_,rfl⟩
    rw [← hK] at hst hFi ⊢
    have hput:=a_l05Put K z.2 (rootS z.1) hFi.1 hFi.2 ⟨g1,by omega⟩ (root_sm g3 (by omega))
    have hg:(B.map eSp)[i]? = some [.sl 1 (z.1.1.map eL),.sl 1 (z.1.2.map eL),.int z.2]:=by rw [qP h',hz];rfl
    have hle:(B.map eSp).length = B.length:=List.length_map _
    simp only [eLL,rootS,eSp,eL,List.map_cons,List.map_nil] at hroot hput
    refine gw46 (kk 6) (Y5 i1 i2 hg hw hle) ?_
    refine qW.on (i + 1) ⟨h',by omega⟩ ?_
    rw [hst]
    exact gw47
   ·have i1:((i:Int) < (B.length:Int)) = False:=eq_false (by omega)
    obtain rfl:i = B.length:=by omega
    rw [List.take_length,hfin]
    refine gw33 (kk 6) i1 ?_
    refine qW.out () trivial ?_
    exact gw6
  ·rintro _ _
   refine gw28 (kk 6) Y0 ?_
   exact gw8
end
section
structure PutI (e:Elt) (k:Int) (f:List (List Int)) (x:Nat × Bool × Elt):Prop where
 le:x.1 ≤ e.length
 no:x.2.1 = false→x.2.2 = e.take x.1∧∀ q ∈ e.take x.1,0 < cmpF f q.2
 yes:x.2.1 = true→x.2.2 ++ e.drop x.1 = putS cmpF e k f
 len:x.2.2.length ≤ x.1 + 1
end
section
end
section
def cmpTe:Spl→Spl→Int:=pairC cmpF cmpF
structure PutTI (e:List (Int × Spl)) (k:Int) (x:Spl) (y:Nat × Bool × List (Int × Spl)):Prop where
 le:y.1 ≤ e.length
 no:y.2.1 = false→k ≠ 0∧y.2.2 = e.take y.1∧∀ q ∈ e.take y.1,0 < cmpTe x q.2
 yes:y.2.1 = true→y.2.2 ++ e.drop y.1 = putS cmpTe e k x
 len:y.2.2.length ≤ y.1 + 1
end
section
def Eqm (a b:Int):Prop:=∃ k,a = b + 10007 * k
theorem Eqm.symm {a b:Int}:Eqm a b→Eqm b a:=fun ⟨k,h⟩ => ⟨-k,by omega⟩
theorem Eqm.trans {a b d:Int}:Eqm a b→Eqm b d→Eqm a d:=fun ⟨k,h⟩ ⟨m,h'⟩ => ⟨k + m,by omega⟩
theorem Eqm.add {a b d e:Int}:Eqm a b→Eqm d e→Eqm (a + d) (b + e):=fun ⟨k,h⟩ ⟨m,h'⟩ => ⟨k + m,by omega⟩
section
variable {κ:Type}
variable {c:κ→κ→Int} (hc:Cmp c)
include hc
omit hc
end
theorem pairwise_at {α:Type} {r:α→α→Prop} {l:List α} (h:l.Pairwise r) {i j:Nat} (hi:i < l.length) (hj:j < l.length) (hij:i < j):r l[i] l[j]:=List.pairwise_iff_getElem.1 h i j hi hj hij
theorem forB_of {f:List (List Int)} (h1:qJ f ≤ 8) (h2:∀ t ∈ f,canT t = true) (h3:f.Pairwise fun a b => cmpT a b ≤ 0):forB f = true:=by
 unfold forB
 rw [Bool.and_eq_true,wV]
 refine ⟨decide_eq_true h1,fun i hi => ?_⟩
 unfold okT
 rw [xP hi,h2 _ (List.getElem_mem _),Bool.true_and,Bool.or_eq_true]
 rcases Nat.eq_zero_or_pos i with h|h
 ·exact .inl (decide_eq_true h)
 ·refine .inr (decide_eq_true ?_)
  rw [xP (show i - 1 < f.length by omega)]
  exact pairwise_at h3 (by omega) hi (by omega)
end
section
open Go.RowKit Go.Shelf
theorem flatMap_getG {α β:Type} (enc:α→List β) (k:Nat) (hk:∀ x,(enc x).length = k) (hp:0 < k):∀ (l:List α) (t:Nat),(l.flatMap enc)[t]? = (l[t / k]?).bind fun x => (enc x)[t % k]?
 | [],t => by simp
 | x :: l,t => by
  rw [List.flatMap_cons]
  by_cases h:t < k
  ·rw [List.getElem?_append_left (by rw [hk];exact h),Nat.div_eq_of_lt h,Nat.mod_eq_of_lt h];rfl
  ·rw [List.getElem?_append_right (by rw [hk];omega),hk,flatMap_getG enc k hk hp l (t - k)]
   have e1:t / k = (t - k) / k + 1:=by rw [Nat.div_eq_sub_div hp (by omega)]
   have e2:t % k = (t - k) % k:=Nat.mod_eq_sub_mod (by omega)
   rw [e1,e2,List.getElem?_cons_succ]
theorem flatK_listG {α:Type} [Inhabited α] (enc:α→List Value) (k:Nat) (hk:∀ x,(enc x).length = k) (hp:0 < k) (d:Array α):(Go.Sort.flatK enc k d).toList = d.toList.flatMap enc:=by
 have hl:∀ (l:List α),(l.flatMap enc).length = l.length * k:=by
  intro l
  induction l with
  | nil => simp
  | cons x l ih => rw [List.flatMap_cons,List.length_append,hk,ih,List.length_cons,Nat.succ_mul];omega
 refine List.ext_getElem? fun t => ?_
 by_cases h:t < d.size * k
 ·have hs:t < (Go.Sort.flatK enc k d).toList.length:=by simpa using h
  have hq:t / k < d.size:=Nat.div_lt_of_lt_mul (by rw [Nat.mul_comm];exact h)
  rw [flatMap_getG enc k hk hp,List.getElem?_eq_getElem hs]
  have e1:=Go.Sort.get_flatK enc k d t h
  rw [getElem!_pos (Go.Sort.flatK enc k d) t (by simpa using h),getElem!_pos d (t / k) hq] at e1
  have hm:t % k < (enc d[t / k]).length:=by rw [hk];exact Nat.mod_lt _ hp
  rw [getElem!_pos (enc d[t / k]) (t % k) hm] at e1
  rw [List.getElem?_eq_getElem (by simpa using hq),Option.bind_some]
  simp only [Array.getElem_toList]
  rw [List.getElem?_eq_getElem hm,e1]
 ·rw [List.getElem?_eq_none (by simpa using h),List.getElem?_eq_none (by rw [hl];simpa using h)]
section
variable {α:Type} [Inhabited α] (enc:α→List Value) (k:Nat) (w:World) (blk m:Nat) (dk:Array α) (os:Array Go.Obj)
theorem sg_block {b:Nat} (hne:b ≠ blk) (hb:b < w.heap.size):(sortWorldK enc k w blk 0 m dk os).heap[b]? = w.heap[b]?:=by
 show ((w.heap.modify blk _) ++ os)[b]? = _
 rw [Array.getElem?_append_left (by simpa using hb),Array.getElem?_modify,if_neg (fun e => hne e.symm)]
theorem sg_size:w.heap.size ≤ (sortWorldK enc k w blk 0 m dk os).heap.size:=by
 show _ ≤ ((w.heap.modify blk _) ++ os).size
 simp
theorem sg_row {n cap:Nat} {ds:List Value} (h:Row w (slv (some blk) n cap) k n ds (some blk)) (hs:dk.size = n) (hlt:blk < w.heap.size) :
  Row (sortWorldK enc k w blk 0 m dk os) (slv (some blk) n cap) k n (Go.Sort.flatK enc k dk).toList (some blk):=by
 obtain ⟨h0,h⟩:=h
 rcases h with ⟨_,_,h⟩|⟨g,cap',cur,e,hv,hg,hh,hc1,hc2,hc3,hc4⟩
 ·cases h
 ·cases hg
  refine ⟨by simp [hs],.inr ⟨blk,cap',Sort.putCells id 0 (Go.Sort.flatK enc k dk) cur,e,hv,rfl,?_,hc1,hc2,by simpa [Sort.putCells] using hc3,?_⟩⟩
  ·show ((w.heap.modify blk _) ++ os)[blk]? = _
   rw [Array.getElem?_append_left (by simpa using hlt),Array.getElem?_modify,if_pos rfl,hh]
   rfl
  ·have hle:n * k ≤ cap' * k:=Nat.mul_le_mul_right k hc1
   refine List.ext_getElem? fun t => ?_
   by_cases ht:t < n * k
   ·rw [List.getElem?_take_of_lt ht,List.getElem?_eq_getElem (by simp [Sort.putCells];omega),List.getElem?_eq_getElem (by simp [hs];omega)]
    simp only [Array.getElem_toList,Sort.putCells,Array.getElem_mapIdx,id]
    rw [if_pos ⟨Nat.zero_le _,by simp [hs];omega⟩,Nat.sub_zero,getElem!_pos _ t (by simp [hs];omega)]
   ·rw [List.getElem?_eq_none (by simp;omega),List.getElem?_eq_none (by simp [hs];omega)]
end
abbrev ElC {β:Type} (e:β→List D) (ok:β→Prop) (A:Nat→Prop) (w:World):Type:={ x:List Value × β // rdCs A w x.1 (e x.2)∧ok x.2 }
theorem elc_of {β:Type} {e:β→List D} {ok:β→Prop} {A:Nat→Prop} {w:World} {k:Nat}:∀ {zs:List β} {ds:List Value},rdR k A w ds (zs.map e)→(∀ z ∈ zs,ok z)→∃ xs:List (ElC e ok A w),ds = xs.flatMap (·.1.1)∧zs = xs.map (·.1.2)
 | [],ds,h,_ => ⟨[],by have:=h.len;simpa using this,rfl⟩
 | z :: zs,ds,h,hz => by
  obtain ⟨c,e',rfl,hy,hc,k1,k2⟩:=h.cons_inv
  obtain ⟨xs,e1,e2⟩:=elc_of k2 (fun z hz' => hz z (by simp [hz']))
  exact ⟨⟨(c,z),k1,hz z (by simp)⟩ :: xs,by rw [e1];rfl,congrArg (z :: ·) e2⟩
theorem elc_to {β:Type} {e:β→List D} {ok:β→Prop} {A:Nat→Prop} {w w':World} {k:Nat} (hkp:0 < k) (hk:∀ z,(e z).length = k) (hf:∀ b,A b→b < w.heap.size→w'.heap[b]? = w.heap[b]?):∀ (xs:List (ElC e ok A w)),rdR k A w' (xs.flatMap (·.1.1)) ((xs.map (·.1.2)).map e)
 | [] => rdR.nil hkp
 | x :: xs => by
  have h1:=x.2.1.frame hf
  have h2:=elc_to hkp hk hf xs
  rw [List.flatMap_cons]
  exact (rdR.single hkp (hk x.1.2) h1).append h2
section
variable {P:Program} {ρ:Ren} (L:SlLaysF0.n6 P ρ) {β κ:Type} (e:β→List D) {k:Nat} (hkp:0 < k) (hk:∀ z,(e z).length = k) (aE:∀ w,(isAgg (ρ.t 24)).run P w = .ok true w) (zE:∀ w,(Go.sizeOf (ρ.t 24)).run P w = .ok k w)
 {c:κ→κ→Int} (hc:Cmp c) (key:β→κ) (ok:β→Prop) (z0:β) (u0:List Value) (h0:∀ A w,rdCs A w u0 (e z0)) (hz0:ok z0) (g:Nat) (eg:∀ args w,(callFunc g args).run P w = .ok (.enter g args) w)
 (hcmp:∀ (W:World) (A:Nat→Prop) (x y:β) (us vs:List Value),(∀ b,A b→b < W.heap.size)→ok x→ok y→rdCs A W us (e x)→rdCs A W vs (e y) →
   Calls P g #[.agg us.toArray,.agg vs.toArray] W fun e w' => e = .returned (.int .i64 (c (key x) (key y)))∧∃ q os',w' = Sort.grow (W.drewN q) os')
include L hkp hk aE zE hc h0 hz0 eg hcmp
theorem a_SortG (call:∀ args w,(callFunc (ρ.f 6) args).run P w = .ok (.enter (ρ.f 6) args) w) (zs:List β) (hok:∀ z ∈ zs,ok z) (hn:zs.length ≤ 1000000000) :
  AEf P (ρ.f 6) false [] k (zs.map e) [[.raw (.func (.func g) #[] #[])]] (fun rs oc => rs = []∧∃ zs':List β,oc = some (zs'.map e)∧zs'.Perm zs∧zs'.Pairwise (fun a b => c (key a) (key b) ≤ 0)):=by
 refine ⟨call,fun A w vs us og cap ds hA hv hu hrow _ hel hog => ?_⟩
 have hv:vs = []:=hv
 subst hv
 obtain ⟨u,us',rfl,hu1,hu2⟩:=hu
 have hu2:us' = []:=hu2
 subst hu2
 have hu1:u = .func (.func g) #[] #[]:=(jL.1 hu1).1
 subst hu1
 have fin:∀ w' (zs':List β) ds',zs'.Perm zs→zs'.Pairwise (fun a b => c (key a) (key b) ≤ 0)→Row w' (slv og zs.length cap) k zs.length ds' og→rdR k A w' ds' (zs'.map e)→Bel ⟨w,fun b => og = some b⟩ w' →
   ∃ v rs oc,(Ending.returned (.tuple #[]):Ending) = .returned v∧(rs = []∧∃ zs':List β,oc = some (zs'.map e)∧zs'.Perm zs∧zs'.Pairwise (fun a b => c (key a) (key b) ≤ 0))∧Bel ⟨w,fun b => og = some b⟩ w' ∧
    xL A (fun b => w.heap.size ≤ b ∨ (oc = none∧og = some b)) w' rs v∧Left A w' og cap k oc∧∀ ys,oc = some ys→ys.length = zs.length:=by
  intro w' zs' ds' hp hso hrow' hrd' hb
  have hl:(zs'.map e).length = (zs.map e).length:=by rw [List.length_map,List.length_map,hp.length_eq]
  refine ⟨.tuple #[],[],some (zs'.map e),rfl,⟨rfl,zs',rfl,hp,hso⟩,hb,⟨[],[],[],rfl,List.nodup_nil,by simp,rfl,rfl,rfl⟩,⟨ds',?_,hrd'⟩,fun ys e => by cases e;rw [hl,List.length_map]⟩
  rw [hl,List.length_map]
  exact hrow'
 rw [List.length_map] at hrow ⊢
 cases og with
 | none =>
  have hz:zs = []:=List.eq_nil_of_length_eq_zero hrow.len0
  subst hz
  refine (AnyF.slices_SortFunc_none L none 0 _ w).mono ?_
  rintro e' w' ⟨rfl,rfl⟩
  exact fin w' [] ds (List.Perm.refl _) List.Pairwise.nil hrow hel ⟨rfl,rfl,rfl,Nat.le_refl _,fun _ _ _ _ => rfl⟩
 | some blk =>
  haveI:Inhabited (ElC e ok A w):=⟨⟨(u0,z0),h0 A w,hz0⟩⟩
  obtain ⟨xs,e1,e2⟩:=elc_of hel hok
  have hlen:xs.toArray.size = zs.length:=by rw [e2];simp
  have hlt:=hrow.lt blk rfl
  have hek:∀ x:ElC e ok A w,x.1.1.length = k:=fun x => by rw [x.2.1.len,hk]
  have hH:Go.Sort.HoldsK (fun x:ElC e ok A w => x.1.1) k w blk 0 xs.toArray:=fun j hj => by
   rw [Nat.zero_add]
   refine ⟨?_,hrow.frozen j⟩
   have hf:=flatK_listG (fun x:ElC e ok A w => x.1.1) k hek hkp xs.toArray
   rw [List.toList_toArray] at hf
   rw [getElem!_pos _ j hj]
   refine hrow.cells j _ ?_
   rw [e1,← hf,List.getElem?_eq_getElem (by simpa using hj)]
   simp
  have hswo:Go.Sort.SWO (ltOf fun x y:ElC e ok A w => c (key x.1.2) (key y.1.2)) :=
   { irrefl:=fun x => decide_eq_false (by show ¬ c _ _ < 0;rw [hc.refl];omega)
     trans:=fun x y z h1 h2 => decide_eq_true (by
     have h1:c (key x.1.2) (key y.1.2) < 0:=of_decide_eq_true h1
     have h2:c (key y.1.2) (key z.1.2) < 0:=of_decide_eq_true h2
     have a1:=hc.anti (key x.1.2) (key y.1.2)
     have a2:=hc.anti (key y.1.2) (key z.1.2)
     have a3:=hc.anti (key z.1.2) (key x.1.2)
     have a4:=hc.anti (key x.1.2) (key z.1.2)
     have t1:=hc.trans (key x.1.2) (key y.1.2) (key z.1.2) (by omega) (by omega)
     rcases Int.lt_or_eq_of_le t1 with t|t
     ·exact t
     ·have e3:=hc.zero _ _ t
      rw [e3] at h1
      omega)
     ntrans:=fun x y z h1 h2 => decide_eq_false (by
     have h1:¬ c (key x.1.2) (key y.1.2) < 0:=of_decide_eq_false h1
     have h2:¬ c (key y.1.2) (key z.1.2) < 0:=of_decide_eq_false h2
     show ¬ c (key x.1.2) (key z.1.2) < 0
     intro h
     have a1:=hc.anti (key x.1.2) (key y.1.2)
     have a2:=hc.anti (key y.1.2) (key z.1.2)
     have:=hc.trans (key z.1.2) (key y.1.2) (key x.1.2) (by have:=hc.anti (key y.1.2) (key z.1.2);omega) (by have:=hc.anti (key x.1.2) (key y.1.2);omega)
     have a3:=hc.anti (key x.1.2) (key z.1.2)
     omega) }
  have hC:CmpLays P g #[] (fun x:ElC e ok A w => x.1.1) k (fun x y:ElC e ok A w => c (key x.1.2) (key y.1.2)) blk 0 xs.toArray.size w:=fun m os dk _ x y => by
   have hfr:∀ b,A b→b < w.heap.size→(sortWorldK (fun x:ElC e ok A w => x.1.1) k w blk 0 m dk os).heap[b]? = w.heap[b]?:=fun b hb hl => sg_block _ k w blk m dk os (fun e => hog b (by rw [e]) hb) hl
   exact hcmp _ A x.1.2 y.1.2 _ _ (fun b hb => Nat.lt_of_lt_of_le (hA b hb) (sg_size _ k w blk m dk os)) x.2.2 y.2.2 (x.2.1.frame hfr) (y.2.1.frame hfr)
  have hs:=AnyQ.slices_SortFunc L k aE zE (fun x:ElC e ok A w => x.1.1) hek (fun x v hv => x.2.1.one v hv) (fun x y:ElC e ok A w => c (key x.1.2) (key y.1.2)) hswo g #[] blk 0 cap xs.toArray w eg hC hH hlt (by rw [hlen];omega)
  rw [hlen] at hs
  have hm:=Calls.mono hs (R':=fun e' w' => ∃ v rs oc,e' = .returned v∧(rs = []∧∃ zs':List β,oc = some (zs'.map e)∧zs'.Perm zs∧zs'.Pairwise (fun a b => c (key a) (key b) ≤ 0))∧Bel ⟨w,fun b => some blk = some b⟩ w' ∧
    xL A (fun b => w.heap.size ≤ b ∨ (oc = none∧some blk = some b)) w' rs v∧Left A w' (some blk) cap k oc∧∀ ys,oc = some ys→ys.length = zs.length) ?_
  ·exact hm
  rintro e' w' ⟨rfl,d',n,os,⟨hp1,_,hp3⟩,hsd,rfl⟩
  have hd:d'.size = zs.length:=by rw [hp1,hlen]
  refine fin _ (d'.toList.map (·.1.2)) _ ?_ ?_ (sg_row _ k w blk n d' os hrow hd hlt) ?_ ⟨rfl,rfl,rfl,sg_size _ k w blk n d' os,fun b hb hne _ => sg_block _ k w blk n d' os (fun e => hne (by rw [e])) hb⟩
  ·rw [e2]
   refine List.Perm.map _ ?_
   rw [← hlen] at hp3
   rw [show d'.extract 0 xs.toArray.size = d' by rw [← hp1];simp,show xs.toArray.extract 0 xs.toArray.size = xs.toArray by simp,List.toList_toArray] at hp3
   exact hp3
  ·rw [List.pairwise_iff_getElem]
   intro i j hi hj hij
   have hi':i < d'.size:=by simpa using hi
   have hj':j < d'.size:=by simpa using hj
   have h1:=hsd i j (Nat.zero_le _) hij (by omega)
   rw [getElem!_pos d' i hi',getElem!_pos d' j hj'] at h1
   have h1:¬ c (key d'[j].1.2) (key d'[i].1.2) < 0:=of_decide_eq_false h1
   have h2:=hc.anti (key d'[j].1.2) (key d'[i].1.2)
   simp only [List.getElem_map,Array.getElem_toList]
   omega
  ·rw [flatK_listG _ k hek hkp]
   exact elc_to hkp hk (fun b hb hl => sg_block _ k w blk n d' os (fun e => hog b (by rw [e]) hb) hl) d'.toList
end
end
end Go.Proofs.YtedgfkpfhonlpaaGreat

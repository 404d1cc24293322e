/- Lemmas (15). -/
import Derived.Test.YtedgfkpfhonlpaaGreatZN0
import Derived.Test.YtedgfkpfhonlpaaGreatZN3
import Derived.Test.YtedgfkpfhonlpaaGreatZN6
import Derived.Test.YtedgfkpfhonlpaaGreatZN8
import Derived.Test.YtedgfkpfhonlpaaGreatZN10
import Derived.Test.YtedgfkpfhonlpaaGreatZN11
import Derived.Test.YtedgfkpfhonlpaaGreatZN12
import Derived.Test.YtedgfkpfhonlpaaGreatZN13
import Derived.Test.YtedgfkpfhonlpaaGreatZN14
set_option maxHeartbeats 16000000
set_option maxRecDepth 100000
set_option linter.unusedSimpArgs false
set_option linter.unusedVariables false
namespace Go.Proofs.YtedgfkpfhonlpaaGreat
open Go.RowKit
theorem lin_flat {α:Type} (F:List (List Int)→Int) (g:α→Elt) (h:α→Int) (L:List α) (e:∀ a ∈ L,Eqm (lin F (g a)) (h a)):Eqm (lin F (L.flatMap g)) ((L.map h).sum):=by
 rw [qS0]
 exact qU0 e
theorem lin_sumL (F:List (List Int)→Int):∀ (e:Elt),lin F e = (e.map fun p => p.1 * F p.2).sum
 | [] => rfl
 | p :: e => by rw [jP,lin_sumL F e,List.map_cons,List.sum_cons]
theorem lin_antM (F:List (List Int)→Int) (e:Elt):Eqm (lin F (antM e)) (lin (sF F) e):=by
 rw [antM_mulE,lin_sumL (sF F)]
 exact lin_flat F _ _ _ fun p _ => lin_mulE F p.1 (ant p.2)
theorem okF_one {T:List Int} (h:qZ T) (hc:canon T = T):OkF [T]:=⟨fun x hx => by obtain rfl:=List.mem_singleton.1 hx;exact ⟨h,hc⟩,List.pairwise_singleton _ _⟩
def OkA (L:Elt):Prop:=∀ q ∈ L,OkF q.2
theorem OkA.prod {d e:Elt} (hd:OkA d) (he:OkA e):OkA (prodL d e):=fun q hq => by
 unfold prodL at hq
 obtain ⟨p,hp,hq⟩:=List.mem_flatMap.1 hq
 obtain ⟨r,hr,rfl⟩:=List.mem_map.1 hq
 exact okF_mul (hd p hp) (he r hr)
theorem OkA.sum {L:Elt} (h:OkA L):OkA (sumS cmpF L):=fun q hq => by
 obtain ⟨p,hp,e⟩:=kR hq
 rw [← e];exact h p hp
theorem OkA.fold {g:List Int→Elt}:∀ {f:List (List Int)} {out:Elt},(∀ t ∈ f,OkA (g t))→OkA out→OkA (f.foldl (stepA g) out)
 | [],_,_,h => h
 | t :: f,out,hg,h => by
  rw [List.foldl_cons]
  exact OkA.fold (fun x hx => hg x (by simp [hx])) (OkA.sum (h.prod (hg t (by simp))))
theorem okA_one:OkA [(1,[])]:=fun q hq => by
 obtain rfl:=List.mem_singleton.1 hq
 exact okF_nil
theorem okA_antT:∀ (n:Nat) {t:List Int},qZ t→t.length ≤ n→OkA (antT n t)
 | 0,t,_,_ => fun q hq => nomatch hq
 | n + 1,t,h,hn => by
  unfold antT
  refine OkA.sum fun q hq => ?_
  obtain ⟨c,hc,hq⟩:=List.mem_flatMap.1 hq
  obtain ⟨z,hz,rfl,hg,_,h1⟩:=wY h hc
  unfold cutE at hq
  rcases h1 with ⟨_,h1⟩|⟨h1,h2⟩
  ·rw [if_pos h1] at hq;cases hq
  ·rw [if_neg h1] at hq
   have a2:=hg.2
   have a3:qQ z.1.2 = (cutS z).1.2.length:=by rw [h2];simp [qQ]
   have a4:=hg.1 (cutS z).1.2 (by rw [h2];simp)
   have a5:=a4.1.pos
   have b1:OkA (antF (antT n) z.1.1):=OkA.fold (fun x hx => okA_antT n (hg.1 x (by simp [hx])).1 (by have:=jK hx;omega)) okA_one
   have b2:OkA [(mP (-(cutS z).2),[(cutS z).1.2])]:=fun q hq => by
    obtain rfl:=List.mem_singleton.1 hq
    exact okF_one a4.1 a4.2
   exact OkA.sum (b1.prod b2) q hq
theorem okA_ant {f:List (List Int)} (h:OkF f):OkA (ant f):=OkA.fold (fun t ht => okA_antT t.length (h.1 t ht).1 (Nat.le_refl _)) okA_one
theorem gd_ant {f:List (List Int)} (h:OkF f):GdA (qQ f) (ant f):=by
 have:=GdA.fold (g:=ant1) (f:=f) (out:=[(1,[])]) (m:=0) (fun x hx => kA x.length (h.1 x hx).1 (Nat.le_refl _)) wQ
 rw [Nat.zero_add] at this
 exact this
theorem ant_len {f:List (List Int)} (h:OkF f) (h8:qQ f ≤ 8):(ant f).length ≤ 256:=by
 have h1:=vJ (g:=ant1) f [(1,[])] (fun x hx => kT x.length x (h.1 x hx).1 (h.1 x hx).2 (Nat.le_refl _))
 have h2:=eF_le f
 have h3:2 ^ eF f ≤ 2 ^ 8:=Nat.pow_le_pow_right (by decide) (by omega)
 rw [List.length_singleton,Nat.one_mul] at h1
 exact Nat.le_trans h1 h3
theorem antM_range (e:Elt):∀ q ∈ antM e,0 ≤ q.1∧q.1 < 10007:=fun q hq => by
 unfold antM at hq
 obtain ⟨p,_,hq⟩:=List.mem_flatMap.1 hq
 obtain ⟨x,_,rfl⟩:=List.mem_map.1 hq
 exact jD _
theorem antM_mem {e:Elt} {q:Int × List (List Int)} (hq:q ∈ antM e):∃ p ∈ e,∃ x ∈ ant p.2,x.2 = q.2:=by
 unfold antM at hq
 obtain ⟨p,hp,hq⟩:=List.mem_flatMap.1 hq
 obtain ⟨x,hx,rfl⟩:=List.mem_map.1 hq
 exact ⟨p,hp,x,hx,rfl⟩
theorem elB_p {e:Elt} (h:elB e = true) {p:Int × List (List Int)} (hp:p ∈ e):OkF p.2∧qQ p.2 ≤ 8:=by
 have hb:=(yE h).2.2.2 p hp
 exact ⟨okF_of hb,(xU hb).1⟩
theorem ant_forB {e:Elt} (h:elB e = true):∀ q ∈ sumS cmpF (antM e),forB q.2 = true∧qQ q.2 ≤ 8:=fun q hq => by
 obtain ⟨p,hp,e1⟩:=kR hq
 obtain ⟨r,hr,x,hx,e2⟩:=antM_mem hp
 obtain ⟨a1,a2⟩:=elB_p h hr
 have b1:=okA_ant a1 x hx
 have b2:=(gd_ant a1 x hx).2.2
 rw [← e1,← e2]
 exact ⟨okF_forB b1 (by omega),by omega⟩
theorem jD0 {e:Elt} (h:elB e = true):(antOf e = (sumS cmpF (antM e),0)∧elB (sumS cmpF (antM e)) = true) ∨ antOf e = ([],3):=by
 unfold antOf
 rw [if_pos h]
 rcases limS_code (sumS cmpF (antM e)) with h1|h1
 ·refine .inl ⟨h1,?_⟩
  have h2:=(limS_ok (by rw [h1])).2.1
  exact elB_of h2 (xH jV (antM_range e)) fun q hq => (ant_forB h q hq).1
 ·exact .inr h1
theorem ant_bad {e:Elt} (h:elB e ≠ true):antOf e = ([],1):=by unfold antOf;rw [if_neg h]
theorem ant_back {e s t:Elt} (h:elB e = true) (h1:antOf e = (s,0)) (h2:antOf s = (t,0)):t = e:=by
 rcases jD0 h with ⟨k1,k2⟩|k1
 rotate_left
 ·rw [k1] at h1;injection h1 with _ h1;exact absurd h1 (by decide)
 rw [k1] at h1
 injection h1 with h1 _
 subst h1
 rcases jD0 k2 with ⟨m1,m2⟩|m1
 rotate_left
 ·rw [m1] at h2;injection h2 with _ h2;exact absurd h2 (by decide)
 rw [m1] at h2
 injection h2 with h2 _
 subst h2
 refine nf_lin jV (yE m2).2.1 (yE h).2.1 fun F => ?_
 refine (xM jV F _).trans ((lin_antM F _).trans ((xM jV _ _).trans ((lin_antM _ e).trans ?_)))
 exact jB0 fun p hp => anti_anti p.2 (elB_p h hp).1 F
def tenL (q:Int × Spl):Elt:=sumS cmpF (prodL (sumS cmpF (antM [(q.1,q.2.1)])) [(1,q.2.2)])
theorem elB_one {k:Int} {f:List (List Int)} (hk:1 ≤ k∧k < 10007) (hf:OkF f) (h8:qQ f ≤ 8):elB [(k,f)] = true :=
 elB_of (by simp) ⟨List.pairwise_singleton _ _,fun q hq => by obtain rfl:=List.mem_singleton.1 hq;exact hk⟩ fun q hq => by obtain rfl:=List.mem_singleton.1 hq;exact okF_forB hf h8
theorem ten_left {q:Int × Spl} (hk:1 ≤ q.1∧q.1 < 10007) (h1:OkF q.2.1) (h8:qQ q.2.1 ≤ 8):antOf [(q.1,q.2.1)] = (sumS cmpF (antM [(q.1,q.2.1)]),0)∧elB (sumS cmpF (antM [(q.1,q.2.1)])) = true∧(sumS cmpF (antM [(q.1,q.2.1)])).length ≤ 256∧∀ p ∈ sumS cmpF (antM [(q.1,q.2.1)]),qQ p.2 = qQ q.2.1:=by
 have he:=elB_one hk h1 h8
 have hl:(sumS cmpF (antM [(q.1,q.2.1)])).length ≤ 256:=by
  refine Nat.le_trans (wW _) ?_
  have e1:antM [(q.1,q.2.1)] = (ant q.2.1).map (fun x => (mP (x.1 * q.1),x.2)) ++ []:=rfl
  rw [e1,List.append_nil,List.length_map]
  exact ant_len h1 h8
 have hs:∀ p ∈ sumS cmpF (antM [(q.1,q.2.1)]),qQ p.2 = qQ q.2.1:=fun p hp => by
  obtain ⟨r,hr,e1⟩:=kR hp
  obtain ⟨u,hu,x,hx,e2⟩:=antM_mem hr
  obtain rfl:=List.mem_singleton.1 hu
  rw [← e1,← e2]
  exact (gd_ant h1 x hx).2.2
 have hc:antOf [(q.1,q.2.1)] = (sumS cmpF (antM [(q.1,q.2.1)]),0):=by
  unfold antOf
  rw [if_pos he]
  exact limS_of (by omega) fun p hp => by rw [hs p hp];exact h8
 refine ⟨hc,?_,hl,hs⟩
 rcases jD0 he with ⟨_,k⟩|k
 ·exact k
 ·rw [hc] at k;injection k with _ k;exact absurd k (by decide)
theorem ten_part {q:Int × Spl} (hk:1 ≤ q.1∧q.1 < 10007) (h1:OkF q.2.1) (h2:OkF q.2.2) (h8:qQ q.2.1 + qQ q.2.2 ≤ 8):elB [(1,q.2.2)] = true∧timOf (sumS cmpF (antM [(q.1,q.2.1)])) [(1,q.2.2)] = (tenL q,0)∧elB (tenL q) = true:=by
 obtain ⟨_,a2,a3,a4⟩:=ten_left hk h1 (by omega)
 have he:=elB_one (k:=1) (by decide) h2 (by omega:qQ q.2.2 ≤ 8)
 have hc:timOf (sumS cmpF (antM [(q.1,q.2.1)])) [(1,q.2.2)] = (tenL q,0):=by
  unfold timOf
  rw [if_pos (by rw [a2,he];rfl)]
  refine limS_of ?_ fun p hp => ?_
  ·refine Nat.le_trans (wW _) ?_
   rw [prodLn,List.length_singleton]
   omega
  ·obtain ⟨r,hr,e1⟩:=kR hp
   unfold prodL at hr
   obtain ⟨u,hu,hr⟩:=List.mem_flatMap.1 hr
   obtain ⟨v,hv,rfl⟩:=List.mem_map.1 hr
   obtain rfl:=List.mem_singleton.1 hv
   rw [← e1]
   show qQ (mulF u.2 q.2.2) ≤ 8
   rw [kU,a4 u hu]
   exact h8
 refine ⟨he,hc,?_⟩
 rcases tim_cases a2 he with ⟨_,k⟩|k
 ·exact k
 ·rw [hc] at k;injection k with _ k;exact absurd k (by decide)
theorem lin_tenL (F:List (List Int)→Int) (q:Int × Spl):Eqm (lin F (tenL q)) (q.1 * sF (fun a => F (mulF a q.2.2)) q.2.1):=by
 refine (xM jV F _).trans ((jK0 F _ _).trans ((xM jV _ _).trans ((lin_antM _ _).trans (Eqm.of ?_))))
 have e1:(fun x => lin (fun y => F (mulF x y)) [(1,q.2.2)]) = fun a => F (mulF a q.2.2):=by
  funext x
  show 1 * F (mulF x q.2.2) + 0 = _
  omega
 rw [e1]
 show q.1 * sF (fun a => F (mulF a q.2.2)) q.2.1 + 0 = _
 omega
def dueOf (e:Elt):Elt:=match e.head? with
 | some p => if p.2 = [] then [(p.1,[])] else []
 | none => []
theorem dueOf_nil:dueOf [] = []:=rfl
theorem yG0 (p:Int × List (List Int)) (L:Elt):dueOf (p :: L) = if p.2 = [] then [(p.1,[])] else []:=rfl
theorem cmpF_nil (f:List (List Int)):0 ≤ cmpF f []:=by
 unfold cmpF thenC
 have h1:qQ ([]:List (List Int)) = 0:=rfl
 simp only [h1,List.length_nil]
 split
 ·split
  ·cases f with
   | nil => simp [lexC]
   | cons t f =>
    rename_i h2 h3
    rw [List.length_cons] at h3
    omega
  ·omega
 ·omega
theorem due_lin {e:Elt} (h:elB e = true) (F:List (List Int)→Int):lin (epsF F) e = lin F (dueOf e):=by
 have hn:=(yE h).2.1.1
 have key:∀ (L:Elt),(∀ q ∈ L,q.2 ≠ [])→lin (epsF F) L = 0:=by
  intro L
  induction L with
  | nil => intro _;rfl
  | cons q L ih =>
   intro hL
   rw [jP,ih fun x hx => hL x (by simp [hx])]
   unfold epsF
   rw [if_neg (hL q (by simp))]
   omega
 cases e with
 | nil => rfl
 | cons p L =>
  have hL:∀ q ∈ L,q.2 ≠ []:=fun q hq e => by
   have h1:=(List.pairwise_cons.1 hn).1 q hq
   rw [e] at h1
   have:=cmpF_nil p.2
   omega
  rw [jP,key L hL,yG0]
  unfold epsF
  by_cases hp:p.2 = []
  ·rw [if_pos hp,if_pos hp];rfl
  ·rw [if_neg hp,if_neg hp]
   show p.1 * 0 + 0 = 0
   omega
theorem due_nf {e:Elt} (h:elB e = true):NfS cmpF (dueOf e):=by
 have hn:=(yE h).2.1.2
 cases e with
 | nil => exact ⟨List.Pairwise.nil,fun q hq => nomatch hq⟩
 | cons p L =>
  rw [yG0]
  split
  ·exact ⟨List.pairwise_singleton _ _,fun q hq => by obtain rfl:=List.mem_singleton.1 hq;exact hn p (by simp)⟩
  ·exact ⟨List.Pairwise.nil,fun q hq => nomatch hq⟩
theorem ten_all {e:Elt} (h:elB e = true) {x:List (Int × Spl)} (hx:copOf e = (x,0)) {s:Elt} (hs:NfS cmpF s) (hl:∀ F,Eqm (lin F s) ((x.map fun q => lin F (tenL q)).sum)):s = dueOf e:=by
 have hx':x = sumS cmpTe (copM e):=by
  rcases cop_case h with k|k
  ·rw [k] at hx;injection hx with hx _;exact hx.symm
  ·rw [k] at hx;injection hx with _ hx;exact absurd hx (by decide)
 refine nf_lin jV hs (due_nf h) fun F => (hl F).trans ?_
 rw [← due_lin h F]
 have a1:Eqm ((x.map fun q => lin F (tenL q)).sum) (lin (fun s:Spl => sF (fun a => F (mulF a s.2)) s.1) x):=by
  have e1:∀ L:List (Int × Spl),lin (fun s:Spl => sF (fun a => F (mulF a s.2)) s.1) L = (L.map fun q => q.1 * sF (fun a => F (mulF a q.2.2)) q.2.1).sum:=by
   intro L
   induction L with
   | nil => rfl
   | cons q L ih => rw [jP,ih,List.map_cons,List.sum_cons]
  rw [e1]
  exact qU0 fun q _ => lin_tenL F q
 refine a1.trans ?_
 rw [hx']
 refine (xM yM0 _ _).trans ((lin_copM _ e).trans ?_)
 exact jB0 fun p hp => left_inv p.2 (elB_p h hp).1 F
theorem copM_take {e:Elt} {i:Nat} (h:i < e.length):copM (e.take (i + 1)) = copM (e.take i) ++ copP e[i]:=by
 unfold copM
 rw [List.take_succ_eq_append_getElem h,List.flatMap_append];simp
theorem copP_len {p:Int × List (List Int)} (h:forB p.2 = true):(copP p).length ≤ 256:=by
 unfold copP
 rw [List.length_map]
 have h0:=(yY (prodS (p.2.map split))).len
 rw [List.length_map] at h0
 have h1:=qZ0 (vZ h) (xU h).1
 omega
theorem copP_ok {p:Int × List (List Int)} (h:forB p.2 = true):∀ q ∈ copP p,(0 ≤ q.1∧q.1 < 10007)∧SmS q.2:=fun q hq => by
 obtain ⟨z,hz,rfl⟩:=List.mem_map.1 hq
 have h1:=(xU h).1
 exact ⟨jD _,(((kI (kD (vZ h))) z hz).2.2.ha (by omega)).sm⟩
theorem copM_ok {e:Elt} (h:∀ p ∈ e,forB p.2 = true):∀ q ∈ copM e,(0 ≤ q.1∧q.1 < 10007)∧SmS q.2:=fun q hq => by
 obtain ⟨p,hp,hq⟩:=List.mem_flatMap.1 hq
 exact copP_ok (h p hp) q hq
theorem copM_len:∀ (e:Elt),(∀ p ∈ e,forB p.2 = true)→(copM e).length ≤ 256 * e.length
 | [],_ => by simp [copM]
 | p :: e,h => by
  have h1:=copP_len (h p (by simp))
  have h2:=copM_len e (fun q hq => h q (by simp [hq]))
  unfold copM at h2 ⊢
  rw [List.flatMap_cons,List.length_append,List.length_cons,Nat.mul_succ];omega
instance (L:List (Int × Spl)):Decidable (OkT L):=inferInstanceAs (Decidable (∀ q ∈ L,(1 ≤ q.1∧q.1 < 10007)∧SmS q.2))
theorem a_splitForest (f:List (List Int)) (hlev:∀ b ∈ f,qZ b) (h8:qQ f ≤ 8):AFn Tryz.prog 61 [eLL f] (· = [.own 3 ((prodS (f.map split)).map eS0) false]):=by
 have hbl:=len_sum hlev
 have hlen8:∀ b ∈ f,b.length ≤ 8:=fun b hb => by have:=jK hb;omega
 have hAg:∀ k,(∀ s ∈ prodS ((f.take k).map split),yS (qQ (f.take k)) s)∧(prodS ((f.take k).map split)).length ≤ 256∧qQ (f.take k) ≤ 8:=fun k => by
  have h1:=xI0 f k
  exact ⟨kD (qE0 hlev),qZ0 (qE0 hlev) (by omega),by omega⟩
 refine AFn.of_runs (qX 54) Tryz.func61 rfl rfl rfl gz ?_
 have hres:Tryz.f61.results.toList = [.tmp 2]:=rfl
 have hrts:Tryz.f61.resultTypes.toList = [33]:=rfl
 simp only [qU,qT,eL,eI,eLL,eB,Nat.zero_add,Nat.reduceAdd]
 intro M
 refine qJ.of ?_
 refine gw34 (kk 30) Y0 ?_
 refine qJ.loop (β:=Nat) (γ:=Unit) (fun k => ⟨[(3,.c (.own 3 (prodS ((f.take k).map split)).length)),(13,.c (.val (.sl 1 (f.map eL)))),(14,.c (.val (.int f.length))),(15,.c (.val (.int k)))],[(3,.row 3 ((prodS ((f.take k).map split)).map eS0) false)]⟩) (fun k => k ≤ f.length) (fun k => f.length - k)
  (fun _ => ⟨[(3,.c (.own 3 (prodS (f.map split)).length))],[(3,.row 3 ((prodS (f.map split)).map eS0) false)]⟩) (fun _ => True) 0 (Nat.zero_le _) ?_ ?_ ?_
 ·exact gw78 (show prodS [] = [([],[])] from rfl)
 ·intro k hk
  have hk:k ≤ f.length:=hk
  have hwk:=qD (n:=k) (by omega)
  obtain ⟨g1,g2,g3⟩:=hAg k
  by_cases hkb:k < f.length
  ·have i1:((k:Int) < (f.length:Int)) = True:=eq_true (by omega)
   have i2:((0:Int) ≤ (k:Int)) = True:=eq_true (by omega)
   obtain ⟨b,hb⟩:∃ b,b = f[k]:=⟨_,rfl⟩
   have hbm:b ∈ f:=by rw [hb];exact List.getElem_mem _
   have hg:(f.map eL)[k]? = some [.sl 1 (b.map eI)]:=by rw [qE hkb,hb];rfl
   have hle:(f.map eL).length = f.length:=List.length_map _
   have hblen:=hlen8 b hbm
   have hih:=AFn.val1 (xO0 8 (by omega) b (hlev b hbm) (by omega))
   have hgB:=xI _ (Nat.le_refl _) (hlev b hbm)
   have hlB:(split b).length ≤ 256:=by
    have h1:=kX _ (Nat.le_refl _) (hlev b hbm)
    have h2:2 ^ b.length ≤ 2 ^ 8:=Nat.pow_le_pow_right (by decide) (by omega)
    omega
   have htk:prodS ((f.take (k + 1)).map split) = (prodS ((f.take k).map split)).flatMap fun s => (split b).map (catS s):=by
    rw [hb,List.take_succ_eq_append_getElem hkb,List.map_append];exact foldS_snoc _ _ _
   have hn2:(prodS ((f.take (k + 1)).map split)).length ≤ 256:=(hAg (k + 1)).2.1
   obtain ⟨A,hA⟩:∃ A,A = prodS ((f.take k).map split):=⟨_,rfl⟩
   obtain ⟨B,hB⟩:∃ B,B = split b:=⟨_,rfl⟩
   rw [← hA] at g1 g2 htk ⊢
   rw [← hB] at hih hgB hlB htk
   rw [htk] at hn2
   simp only [eL] at hih
   have hsA:∀ s ∈ A,SmS s:=fun s hs => ((g1 s hs).ha (by omega)).sm
   have hsB:∀ s ∈ B,SmS s:=fun s hs => ((hgB s hs).ha (by omega)).sm
   have hAl:(A.map eS0).length = A.length:=List.length_map _
   refine gw79 (kk 30) (Y4 i1 i2 hg hle) ?_
   refine qJ.loop (β:=Nat) (γ:=Unit) (fun i => ⟨[(3,.c (.own 3 A.length)),(5,.c (.val (.sl 1 (b.map eI)))),(6,.c (.own 6 ((A.take i).flatMap fun s => B.map (catS s)).length)),(13,.c (.val (.sl 1 (f.map eL)))),(14,.c (.val (.int f.length))),(15,.c (.val (.int k))),(20,.c (.own 3 A.length)),(21,.c (.val (.int A.length))),(22,.c (.val (.int i)))],
     [(3,.row 3 (A.map eS0) false),(6,.row 3 (((A.take i).flatMap fun s => B.map (catS s)).map eS0) false)]⟩) (fun i => i ≤ A.length) (fun i => A.length - i)
    (fun _ => ⟨[(6,.c (.own 6 (A.flatMap fun s => B.map (catS s)).length)),(13,.c (.val (.sl 1 (f.map eL)))),(14,.c (.val (.int f.length))),(15,.c (.val (.int k)))],[(6,.row 3 ((A.flatMap fun s => B.map (catS s)).map eS0) false)]⟩) (fun _ => True) 0 (Nat.zero_le _) ?_ ?_ ?_
   ·exact gw80
   ·intro i hi
    have hi:i ≤ A.length:=hi
    have hwi:=qD (n:=i) (by omega)
    by_cases hiA:i < A.length
    ·have j1:((i:Int) < (A.length:Int)) = True:=eq_true (by omega)
     have j2:((0:Int) ≤ (i:Int)) = True:=eq_true (by omega)
     obtain ⟨s,hs⟩:∃ s,s = A[i]:=⟨_,rfl⟩
     have hsm:=hsA A[i] (List.getElem_mem _)
     have hgs:(A.map eS0)[i]? = some [.sl 1 (s.1.map eL),.sl 1 (s.2.map eL),.int 0]:=by rw [qE hiA,hs];rfl
     have htkA:(A.take (i + 1)).flatMap (fun s => B.map (catS s)) = ((A.take i).flatMap fun s => B.map (catS s)) ++ B.map (catS s):=by
      rw [hs,List.take_succ_eq_append_getElem hiA,List.flatMap_append];simp
     have hXl:((A.take i).flatMap fun s => B.map (catS s)).length + B.length ≤ 256:=by
      rw [flatS_len] at hn2 ⊢
      rw [List.length_take,Nat.min_eq_left hi]
      have:(i + 1) * B.length ≤ A.length * B.length:=Nat.mul_le_mul_right _ hiA
      rw [Nat.succ_mul] at this;omega
     rw [← hs] at hsm
     obtain ⟨X,hX⟩:∃ X,X = (A.take i).flatMap fun s => B.map (catS s):=⟨_,rfl⟩
     rw [← hX] at htkA hXl ⊢
     have hBl:(B.map eS0).length = B.length:=List.length_map _
     refine gw81 (kk 30) (Y5 j1 j2 hgs hAl hBl) ?_
     refine qJ.loop (β:=Nat) (γ:=Unit) (fun j => ⟨[(3,.c (.own 3 A.length)),(5,.c (.val (.sl 1 (b.map eI)))),(6,.c (.own 6 (X ++ (B.take j).map (catS s)).length)),(8,.optr 8 0 0),(13,.c (.val (.sl 1 (f.map eL)))),(14,.c (.val (.int f.length))),(15,.c (.val (.int k))),(20,.c (.own 3 A.length)),(21,.c (.val (.int A.length))),(22,.c (.val (.int i))),(27,.c (.val (.sl 3 (B.map eS0)))),(28,.c (.val (.int B.length))),(29,.c (.val (.int j)))],
       [(3,.row 3 (A.map eS0) false),(6,.row 3 ((X ++ (B.take j).map (catS s)).map eS0) false),(8,.row 3 [[.sl 1 (s.1.map eL),.sl 1 (s.2.map eL),.int 0]] false)]⟩) (fun j => j ≤ B.length) (fun j => B.length - j)
      (fun _ => ⟨[(3,.c (.own 3 A.length)),(5,.c (.val (.sl 1 (b.map eI)))),(6,.c (.own 6 (X ++ B.map (catS s)).length)),(13,.c (.val (.sl 1 (f.map eL)))),(14,.c (.val (.int f.length))),(15,.c (.val (.int k))),(20,.c (.own 3 A.length)),(21,.c (.val (.int A.length))),(22,.c (.val (.int i)))],
       [(3,.row 3 (A.map eS0) false),(6,.row 3 ((X ++ B.map (catS s)).map eS0) false)]⟩) (fun _ => True) 0 (Nat.zero_le _) ?_ ?_ ?_
     ·exact gw39
     ·intro j hj
      have hj:j ≤ B.length:=hj
      have hwj:=qD (n:=j) (by omega)
      by_cases hjB:j < B.length
      ·have l1:((j:Int) < (B.length:Int)) = True:=eq_true (by omega)
       have l2:((0:Int) ≤ (j:Int)) = True:=eq_true (by omega)
       obtain ⟨c,hc⟩:∃ c,c = B[j]:=⟨_,rfl⟩
       have hcm:=hsB B[j] (List.getElem_mem _)
       have hgc:(B.map eS0)[j]? = some [.sl 1 (c.1.map eL),.sl 1 (c.2.map eL),.int 0]:=by rw [qE hjB,hc];rfl
       have htkB:X ++ (B.take (j + 1)).map (catS s) = (X ++ (B.take j).map (catS s)) ++ [catS s c]:=by
        rw [hc,List.take_succ_eq_append_getElem hjB,List.map_append,List.append_assoc];rfl
       rw [← hc] at hcm
       have hYl:(X ++ (B.take j).map (catS s)).length ≤ 256:=by rw [List.length_append,List.length_map,List.length_take];omega
       obtain ⟨Y,hY⟩:∃ Y,Y = X ++ (B.take j).map (catS s):=⟨_,rfl⟩
       rw [← hY] at htkB hYl ⊢
       have q1:=jW (n:=Y.length + 1) (by omega)
       have q2:=jZ (n:=Y.length + 1) (c:=56) (by omega) (by omega)
       have hYm:(Y.map eS0).length = Y.length:=List.length_map _
       have e1:=eq_true (And.intro hsm.1 hcm.1)
       have e2:=eq_true (And.intro hsm.2 hcm.2)
       refine gw38 (kk 30) (Y4 l1 l2 hgc hBl) ?_
       (((with_reducible refine qJ.wFz (qX 54) TCat qK [38,44] (tr:=?_) (s1:=?_) (rest:=?_) ?_ ?_ ?_);rotate_left 3;(focus ((with_reducible refine QW ?_);simp only [Zg,Zd,Zi,seval,drunF,kM,vV,valD,wZ,List.contains_cons,List.contains_nil,TCat,TCat,codLLL_d,cat2_eq,e1,e2,q1,q2,hYm];with_reducible rfl));focus ((with_reducible refine QK ?_);simp only [Zk];kernel_rfl));(refine qW.opsT (qX 54) (T:=TCat) (s':=?_) ?_ ?_;rotate_left 1;focus (simp only [Zg,Zi,seval,TCat,TCat,codLLL_d,cat2_eq,e1,e2,q1,q2,hYm];with_reducible rfl)))
       refine gw29 (kk 30) hwj ?_
       refine qY.on (j + 1) ⟨hjB,by omega⟩ ?_
       rw [htkB]
       exact gw82
      ·have l1:((j:Int) < (B.length:Int)) = False:=eq_false (by omega)
       obtain rfl:j = B.length:=by omega
       rw [List.take_length]
       refine gw29 (kk 30) l1 ?_
       refine qY.out () trivial ?_
       exact gw6 Y0
     ·rintro _ _
      refine gw29 (kk 30) hwi ?_
      refine qY.on (i + 1) ⟨hiA,by omega⟩ ?_
      rw [htkA]
      exact gw6 Y0
    ·have j1:((i:Int) < (A.length:Int)) = False:=eq_false (by omega)
     obtain rfl:i = A.length:=by omega
     rw [List.take_length]
     refine gw29 (kk 30) j1 ?_
     refine qY.out () trivial ?_
     exact gw6 Y0
   ·rintro _ _
    refine gw29 (kk 30) hwk ?_
    refine qY.on (k + 1) ⟨hkb,by omega⟩ ?_
    rw [htk]
    exact gw6 Y0
  ·have i1:((k:Int) < (f.length:Int)) = False:=eq_false (by omega)
   obtain rfl:k = f.length:=by omega
   rw [List.take_length]
   refine gw29 (kk 30) i1 ?_
   refine qY.out () trivial ?_
   exact gw6 Y0
 ·rintro _ _
  refine gw29 (kk 30) Y0 ?_
  exact gw8
theorem a_IndexFuncTe {α:Type} (e:α→List D) (d d2:α→D) (c0:α→Int) (f f2:α→List (List Int)) (p:α→Bool) (g:FuncId) (he:∀ x,e x = [.int (c0 x),d x,d2 x]) (hun:∀ x,(d x).un = .sl 1 ((f x).map eL)) (hun2:∀ x,(d2 x).un = .sl 1 ((f2 x).map eL)) (hp:∀ x,AFn Tryz.prog g [[.int (c0 x),.sl 1 ((f x).map eL),.sl 1 ((f2 x).map eL)]] (· = [.val (.bool (p x))])) (xs:List α) (hl:xs.length ≤ 1000000000) :
  AFn Tryz.prog 161 [[.sl 3 (xs.map e)],[.raw (.func (.func g) #[] #[])]] (· = [.val (.int (idxI (fIdx p xs)))]):=by
 refine AFn.of_runs (qX 19) Tryz.func161 rfl rfl rfl gz ?_
 have hres:Tryz.f161.results.toList = [.tmp 4]:=rfl
 have hrts:Tryz.f161.resultTypes.toList = [3]:=rfl
 simp only [qU,qT,eL,eI,eLL,eB,Nat.zero_add,Nat.reduceAdd]
 intro M
 refine qJ.of ?_
 have hle:(xs.map e).length = xs.length:=by simp
 refine gw7 (kk 9) hle ?_
 refine qJ.loop (β:=Nat) (γ:=Unit) (fun i => ⟨[(0,.c (.val (.sl 3 (xs.map e)))),(1,.c (.val (.raw (.func (.func g) #[] #[])))),(7,.c (.val (.int xs.length))),(8,.c (.val (.int i)))],[]⟩) (fun i => i ≤ xs.length∧∀ x ∈ xs.take i,p x = false) (fun i => xs.length - i)
  (fun _ => ⟨[],[]⟩) (fun _ => ∀ x ∈ xs,p x = false) 0 ⟨Nat.zero_le _,by simp⟩ ?_ ?_ ?_
 ·exact gw6 Y0
 ·rintro i ⟨hi,hlow⟩
  have hw:=qD (n:=i) (by omega)
  by_cases h:i < xs.length
  ·have hx:=hp xs[i]
   have hj:(xs.map e)[i]? = some [.int (c0 xs[i]),d xs[i],d2 xs[i]]:=by rw [qE h,he]
   have i1:((i:Int) < (xs.length:Int)) = True:=eq_true (by omega)
   have i2:((0:Int) ≤ (i:Int)) = True:=eq_true (by omega)
   by_cases hpx:p xs[i] = true
   ·repeat' (first|with_reducible (first|refine Q1 ?_|refine Q2 ?_|refine Q3 ?_|refine Q4 ?_|refine Q5 ?_|refine Q6 ?_|refine Q7 ?_|refine Q8 ?_|refine Q9 ?_|refine Qa ?_|refine Qb ?_|refine Qc ?_|refine Qd ?_|refine Qe ?_|refine Qf ?_|refine QO ?_|refine QV 9 ?_|refine QY 9 ?_)|with_reducible ((first|apply QS (qX 19) (Tab.none.at' g hx)|apply QC);refine QW ?_;simp only [Zg,Zi,seval,hle,i1,i2,hj,hun,hun2,xP (hun _),kJ (hun _),xP (hun2 _),kJ (hun2 _),hpx,hw,eL,Int.toNat_natCast];rfl))
    refine qY.ret ?_
    refine gw7 (kk 9) Y0 ?_
    rw [fIdx_at h hpx hlow]
    exact gw98
   ·have hpx':p xs[i] = false:=by simpa using hpx
    repeat' (first|with_reducible (first|refine Q1 ?_|refine Q2 ?_|refine Q3 ?_|refine Q4 ?_|refine Q5 ?_|refine Q6 ?_|refine Q7 ?_|refine Q8 ?_|refine Q9 ?_|refine Qa ?_|refine Qb ?_|refine Qc ?_|refine Qd ?_|refine Qe ?_|refine Qf ?_|refine QO ?_|refine QV 9 ?_|refine QY 9 ?_)|with_reducible ((first|apply QS (qX 19) (Tab.none.at' g hx)|apply QC);refine QW ?_;simp only [Zg,Zi,seval,hle,i1,i2,hj,hun,hun2,xP (hun _),kJ (hun _),xP (hun2 _),kJ (hun2 _),hpx',hw,eL,Int.toNat_natCast];rfl))
    refine qY.on (i + 1) ⟨⟨h,fun x hx => ?_⟩,by omega⟩ ?_
    ·rw [List.take_succ_eq_append_getElem h,List.mem_append,List.mem_singleton] at hx
     rcases hx with hx|rfl
     ·exact hlow x hx
     ·exact hpx'
    ·exact gw6 Y0
  ·have i1:((i:Int) < (xs.length:Int)) = False:=eq_false (by omega)
   refine gw7 (kk 9) (Yp hle i1) ?_
   refine qY.out () (fun x hx => hlow x (by rw [List.take_of_length_le (by omega)];exact hx)) ?_
   exact gw6 Y0
 ·rintro _ hno
  refine gw7 (kk 9) Y0 ?_
  rw [qB0.2 hno]
  exact gw98
theorem a_DeleteFuncTe {α:Type} (e:α→List D) (d d2:α→D) (c0:α→Int) (f f2:α→List (List Int)) (p:α→Bool) (g:FuncId) (he:∀ x,e x = [.int (c0 x),d x,d2 x]) (hun:∀ x,(d x).un = .sl 1 ((f x).map eL)) (hun2:∀ x,(d2 x).un = .sl 1 ((f2 x).map eL)) (hp:∀ x,AFn Tryz.prog g [[.int (c0 x),.sl 1 ((f x).map eL),.sl 1 ((f2 x).map eL)]] (· = [.val (.bool (p x))])) (xs:List α) (hl:xs.length ≤ 1000000000) :
  AOw Tryz.prog 95 [] 3 (xs.map e) [[.raw (.func (.func g) #[] #[])]] (· = [.own 3 ((keepF p xs).map e) false]):=by
 have hidx:=a_IndexFuncTe e d d2 c0 f f2 p g he hun hun2 hp xs hl
 rcases hfi:fIdx p xs with _|i0
 ·rw [hfi] at hidx
  have hk:keepF p xs = xs:=List.filter_eq_self.2 (fun x hx => by rw [qB0.1 hfi x hx];rfl)
  rw [hk]
  refine AOw.of_runs (qX 42) Tryz.func95 rfl rfl rfl gz ?_
  have hres:Tryz.f95.results.toList = [.tmp 4]:=rfl
  have hrts:Tryz.f95.resultTypes.toList = [65]:=rfl
  simp only [List.length_cons,List.length_nil,List.nil_append,List.cons_append,qU,qT,eL,eI,eLL,eB,Nat.zero_add,Nat.reduceAdd]
  intro M
  refine qJ.of ?_
  refine gw145 (kk 8) Y0 ?_
  exact gw8
 ·rw [hfi] at hidx
  obtain ⟨hi0,hpi,hlow⟩:=xQ0 hfi
  refine AOw.of_runs (qX 42) Tryz.func95 rfl rfl rfl gz ?_
  have hres:Tryz.f95.results.toList = [.tmp 4]:=rfl
  have hrts:Tryz.f95.resultTypes.toList = [65]:=rfl
  simp only [List.length_cons,List.length_nil,List.nil_append,List.cons_append,qU,qT,eL,eI,eLL,eB,Nat.zero_add,Nat.reduceAdd]
  intro M
  refine qJ.of ?_
  have hne:((i0:Int) == -1) = false:=beq_eq_false_iff_ne.2 (by omega)
  have hw0:=qD (n:=i0) (by omega)
  refine gw145 (kk 8) (Yp hne hw0) ?_
  refine qJ.loop (β:=Nat × List (List D)) (γ:=List (List D)) (fun x => ⟨[(0,.c (.own 0 xs.length)),(1,.c (.val (.raw (.func (.func g) #[] #[])))),(5,.c (.val (.int (keepF p (xs.take x.1)).length))),(6,.c (.val (.int x.1)))],[(0,.row 3 x.2 false)]⟩)
   (fun x => x.1 ≤ xs.length∧x.2.length = xs.length∧(∀ r ∈ x.2,r.length = 3)∧x.2.take (keepF p (xs.take x.1)).length = (keepF p (xs.take x.1)).map e∧x.2.drop x.1 = (xs.drop x.1).map e) (fun x => xs.length - x.1)
   (fun L => ⟨[(0,.c (.own 0 xs.length)),(5,.c (.val (.int (keepF p xs).length)))],[(0,.row 3 L false)]⟩) (fun L => L.length = xs.length∧L.take (keepF p xs).length = (keepF p xs).map e) (i0 + 1,xs.map e) ⟨by omega,by simp,?_,?_,by rw [List.map_drop]⟩ ?_ ?_ ?_
  ·intro r hr
   obtain ⟨x,_,rfl⟩:=List.mem_map.1 hr
   rw [he];rfl
  ·have h1:keepF p (xs.take (i0 + 1)) = xs.take i0:=by
    rw [List.take_succ_eq_append_getElem hi0]
    unfold keepF
    rw [List.filter_append,List.filter_eq_self.2 (fun x hx => by rw [hlow x hx];rfl)]
    simp [hpi]
   show (xs.map e).take (keepF p (xs.take (i0 + 1))).length = (keepF p (xs.take (i0 + 1))).map e
   rw [h1,← List.map_take,List.length_take,Nat.min_eq_left (Nat.le_of_lt hi0)]
  ·have h1:(keepF p (xs.take (i0 + 1))).length = i0:=by
    rw [List.take_succ_eq_append_getElem hi0]
    unfold keepF
    rw [List.filter_append,List.filter_eq_self.2 (fun x hx => by rw [hlow x hx];rfl)]
    simp [hpi];omega
   exact gw6 h1
  ·rintro ⟨j,L⟩ ⟨hj,hL,hone,htk,hdr⟩
   have hj:j ≤ xs.length:=hj
   have hL:L.length = xs.length:=hL
   have htk:L.take (keepF p (xs.take j)).length = (keepF p (xs.take j)).map e:=htk
   have hdr:L.drop j = (xs.drop j).map e:=hdr
   have hw:=qD (n:=j) (by omega)
   have hcl:(keepF p (xs.take j)).length ≤ j:=by
    have:=List.length_filter_le (fun x => !p x) (xs.take j)
    unfold keepF
    rw [List.length_take] at this
    omega
   have hwc:=qD (n:=(keepF p (xs.take j)).length) (by omega)
   by_cases h:j < xs.length
   ·have hx:=hp xs[j]
    have hLj:L[j]? = some [.int (c0 xs[j]),d xs[j],d2 xs[j]]:=by
     have:(L.drop j)[0]? = ((xs.drop j).map e)[0]?:=by rw [hdr]
     rw [List.getElem?_drop,List.getElem?_map,List.getElem?_drop] at this
     simpa [h,he] using this
    have i1:((j:Int) < (xs.length:Int)) = True:=eq_true (by omega)
    have i2:((0:Int) ≤ (j:Int)) = True:=eq_true (by omega)
    have hsucc:keepF p (xs.take (j + 1)) = if p xs[j] = true then keepF p (xs.take j) else keepF p (xs.take j) ++ [xs[j]]:=by
     rw [List.take_succ_eq_append_getElem h]
     unfold keepF
     rw [List.filter_append]
     by_cases hpx:p xs[j] = true <;> simp [hpx]
    by_cases hpx:p xs[j] = true
    ·rw [if_pos hpx] at hsucc
     repeat' (first|with_reducible (first|refine Q1 ?_|refine Q2 ?_|refine Q3 ?_|refine Q4 ?_|refine Q5 ?_|refine Q6 ?_|refine Q7 ?_|refine Q8 ?_|refine Q9 ?_|refine Qa ?_|refine Qb ?_|refine Qc ?_|refine Qd ?_|refine Qe ?_|refine Qf ?_|refine QO ?_|refine QV 8 ?_|refine QY 8 ?_)|with_reducible ((first|apply QS (qX 42) (Tab.none.at' g hx)|apply QC);refine QW ?_;simp only [Zg,Zi,seval,hL,i1,i2,hLj,hun,hun2,xP (hun _),kJ (hun _),xP (hun2 _),kJ (hun2 _),hpx,hw,eL,Int.toNat_natCast];rfl))
     refine qY.on (j + 1,L) ⟨⟨h,hL,hone,?_,?_⟩,by show xs.length - (j + 1) < xs.length - j;omega⟩ ?_
     ·rw [hsucc];exact htk
     ·show L.drop (j + 1) = (xs.drop (j + 1)).map e
      rw [← List.drop_drop,hdr,← List.map_drop,List.drop_drop]
     ·exact gw6 hsucc
    ·have hpx':p xs[j] = false:=by simpa using hpx
     rw [if_neg hpx] at hsucc
     obtain ⟨c,hc⟩:∃ c,c = (keepF p (xs.take j)).length:=⟨_,rfl⟩
     have hcs:(keepF p (xs.take (j + 1))).length = c + 1:=by rw [hsucc,hc];simp
     rw [← hc] at hwc hcl htk
     have hcL:c < L.length:=by omega
     obtain ⟨y,y2,y3,hy⟩:∃ y y2 y3,L[c] = [y,y2,y3]:=by
      have:=hone L[c] (List.getElem_mem _)
      match L[c],this with
      | [y,y2,y3],_ => exact ⟨y,y2,y3,rfl⟩
     have hLc:L[c]? = some [y,y2,y3]:=by rw [List.getElem?_eq_getElem hcL,hy]
     have i3:((c:Int) < (xs.length:Int)) = True:=eq_true (by omega)
     have i4:((0:Int) ≤ (c:Int)) = True:=eq_true (by omega)
     rw [← hc]
     repeat' (first|with_reducible (first|refine Q1 ?_|refine Q2 ?_|refine Q3 ?_|refine Q4 ?_|refine Q5 ?_|refine Q6 ?_|refine Q7 ?_|refine Q8 ?_|refine Q9 ?_|refine Qa ?_|refine Qb ?_|refine Qc ?_|refine Qd ?_|refine Qe ?_|refine Qf ?_|refine QO ?_|refine QV 8 ?_|refine QY 8 ?_)|with_reducible ((first|apply QS (qX 42) (Tab.none.at' g hx)|apply QC);refine QW ?_;simp only [Zg,Zi,seval,hL,i1,i2,i3,i4,hLj,hLc,hun,hun2,xP (hun _),kJ (hun _),xP (hun2 _),kJ (hun2 _),hpx',hw,hwc,eL,Int.toNat_natCast];rfl))
     refine qY.on (j + 1,L.set c [.int (c0 xs[j]),d xs[j],d2 xs[j]]) ⟨⟨h,by simpa using hL,?_,?_,?_⟩,by show xs.length - (j + 1) < xs.length - j;omega⟩ ?_
     ·intro r hr
      rcases List.mem_or_eq_of_mem_set hr with hr|rfl
      ·exact hone r hr
      ·rfl
     ·show (L.set c [.int (c0 xs[j]),d xs[j],d2 xs[j]]).take (keepF p (xs.take (j + 1))).length = (keepF p (xs.take (j + 1))).map e
      rw [hcs,hsucc,List.map_append,List.take_succ_eq_append_getElem (by simpa using hcL),List.take_set_of_le (Nat.le_refl _),htk]
      simp [he]
     ·show (L.set c [.int (c0 xs[j]),d xs[j],d2 xs[j]]).drop (j + 1) = (xs.drop (j + 1)).map e
      rw [List.drop_set_of_lt (by omega),← List.drop_drop,hdr,← List.map_drop,List.drop_drop]
     ·exact gw6 hcs
   ·have i1:((j:Int) < (xs.length:Int)) = False:=eq_false (by omega)
    have hall:xs.take j = xs:=List.take_of_length_le (by omega)
    rw [hall] at htk ⊢
    refine gw7 (kk 8) (Yp hL i1) ?_
    refine qY.out L ⟨hL,htk⟩ ?_
    exact gw6 Y0
  ·rintro L ⟨hL,htk⟩
   have hcl:(keepF p xs).length ≤ xs.length:=List.length_filter_le _ _
   obtain ⟨c,hc⟩:∃ c,c = (keepF p xs).length:=⟨_,rfl⟩
   rw [← hc] at htk hcl ⊢
   have i1:((c:Int) ≤ (xs.length:Int)) = True:=eq_true (by omega)
   have i2:((0:Int) ≤ (c:Int)) = True:=eq_true (by omega)
   have i3:((xs.length:Int) ≤ (xs.length:Int)) = True:=eq_true (by omega)
   have htn:((xs.length:Int)).toNat = xs.length:=Int.toNat_natCast _
   refine gw7 (kk 8) Y0 ?_
   refine qJ.regCut (qX 42) Tab.none 3 (s1:=?_) ?_ ?_
   rotate_left 1
   focus (refine Work.mk ?_;simp only [Zg,Zi,seval,hL,i1,i2,i3,Int.toNat_natCast];with_reducible rfl)
   simp only [List.toList_toArray,List.drop_succ_cons,List.drop_zero]
   refine qW.clear (qX 42) (x:=.tmp 38) (t:=65) (i:=⟨69,[.int 0,.sl 1 [],.sl 1 []],56⟩) (key:=0) (j:=c) (m:=xs.length - c) rfl rfl rfl rfl rfl rfl rfl (by rw [hL];omega) ?_
   refine qW.nil ?_
   refine gw7 (kk 8) Y0 ?_
   refine qJ.regCut (qX 42) Tab.none 2 (s1:=?_) ?_ ?_
   rotate_left 1
   focus (refine Work.mk ?_;simp only [Zg,Zi,seval];with_reducible rfl)
   simp only [List.toList_toArray,List.drop_succ_cons,List.drop_zero]
   refine qW.trunc (qX 42) (x:=.tmp 39) (hi:=.tmp 40) (t:=65) (i:=⟨69,[.int 0,.sl 1 [],.sl 1 []],56⟩) (d:=41) (key:=0) (m:=xs.length) (n:=c) rfl rfl rfl (by decide) rfl rfl rfl rfl (by simp [hL];omega) (fun q u hq hu => ?_) ?_
   ·simp only [look] at hu
    split at hu
    ·rename_i e;exact absurd e.symm hq
    ·cases hu
   ·have ht2:(L.take c ++ List.replicate (xs.length - c) [D.int 0,D.sl 1 [],D.sl 1 []]).take c = (keepF p xs).map e:=by
     rw [List.take_append_of_le_length (by rw [List.length_take];omega),List.take_take,Nat.min_self,htk]
    rw [ht2]
    refine qW.opsT (qX 42) (T:=Tab.none) (s':=?_) ?_ ?_
    rotate_left 1
    focus (simp only [Zg,Zi,seval];with_reducible rfl)
    refine gw7 (kk 8) Y0 ?_
    exact gw8
end Go.Proofs.YtedgfkpfhonlpaaGreat
namespace Go.Proofs
open Go.Shelf
def Tryz.sortTe_ren:Go.Shelf.Ren:=⟨fun|6 => 94|15 => 160|14 => 159|28 => 212|29 => 213|20 => 204|21 => 205|22 => 206|23 => 207|24 => 208|25 => 209|26 => 210|27 => 211|46 => 250|47 => 251|48 => 252|49 => 253|50 => 254|57 => 272|n => n,fun|22 => 65|24 => 69|25 => 118|3 => 3|39 => 137|0 => 0|53 => 214|55 => 28|4 => 4|46 => 208|45 => 207|50 => 185|5 => 5|9 => 9|66 => 236|70 => 240|76 => 252|77 => 253|n => n,fun|n => n⟩
theorem Tryz.sortTe:Go.Proofs.SlLaysF0.n6 Tryz.prog Tryz.sortTe_ren:={
 mixed:=by kernel_rfl
 f6:=⟨Tryz.f94.name,by decide,Tryz.func94.trans (congrArg some (by kernel_rfl))⟩
 f14:=⟨Tryz.f159.name,by decide,Tryz.func159.trans (congrArg some (by kernel_rfl))⟩
 f15:=Tryz.func160.trans (congrArg some (by kernel_rfl))
 f20:=⟨Tryz.f204.name,by decide,Tryz.func204.trans (congrArg some (by kernel_rfl))⟩
 f21:=⟨Tryz.f205.name,by decide,Tryz.func205.trans (congrArg some (by kernel_rfl))⟩
 f22:=⟨Tryz.f206.name,by decide,Tryz.func206.trans (congrArg some (by kernel_rfl))⟩
 f23:=⟨Tryz.f207.name,by decide,Tryz.func207.trans (congrArg some (by kernel_rfl))⟩
 f24:=⟨Tryz.f208.name,by decide,Tryz.func208.trans (congrArg some (by kernel_rfl))⟩
 f25:=⟨Tryz.f209.name,by decide,Tryz.func209.trans (congrArg some (by kernel_rfl))⟩
 f26:=⟨Tryz.f210.name,by decide,Tryz.func210.trans (congrArg some (by kernel_rfl))⟩
 f27:=⟨Tryz.f211.name,by decide,Tryz.func211.trans (congrArg some (by kernel_rfl))⟩
 f28:=Tryz.func212.trans (congrArg some (by kernel_rfl))
 f29:=Tryz.func213.trans (congrArg some (by kernel_rfl))
 f46:=⟨Tryz.f250.name,by decide,Tryz.func250.trans (congrArg some (by kernel_rfl))⟩
 f47:=Tryz.func251.trans (congrArg some (by kernel_rfl))
 f48:=Tryz.func252.trans (congrArg some (by kernel_rfl))
 f49:=⟨Tryz.f253.name,by decide,Tryz.func253.trans (congrArg some (by kernel_rfl))⟩
 f50:=⟨Tryz.f254.name,by decide,Tryz.func254.trans (congrArg some (by kernel_rfl))⟩
 f57:=⟨Tryz.f272.name,by decide,Tryz.func272.trans (congrArg some (by kernel_rfl))⟩
 t0:=Tryz.underlying0
 a0:=Tryz.isAgg0
 z0:=Tryz.sizeOf0
 v0:=Tryz.zeroValue0
 t3:=Tryz.underlying3
 a3:=Tryz.isAgg3
 z3:=Tryz.sizeOf3
 v3:=Tryz.zeroValue3
 t4:=Tryz.underlying4
 a4:=Tryz.isAgg4
 z4:=Tryz.sizeOf4
 v4:=Tryz.zeroValue4
 t5:=Tryz.underlying5
 a5:=Tryz.isAgg5
 z5:=Tryz.sizeOf5
 v5:=Tryz.zeroValue5
 t9:=Tryz.underlying9
 a9:=Tryz.isAgg9
 z9:=Tryz.sizeOf9
 v9:=Tryz.zeroValue9
 t22:=Tryz.underlying65
 a22:=Tryz.isAgg65
 z22:=Tryz.sizeOf65
 v22:=Tryz.zeroValue65
 t25:=Tryz.underlying118
 a25:=Tryz.isAgg118
 z25:=Tryz.sizeOf118
 v25:=Tryz.zeroValue118
 t39:=Tryz.underlying137
 a39:=Tryz.isAgg137
 z39:=Tryz.sizeOf137
 v39:=Tryz.zeroValue137
 t45:=Tryz.underlying207
 a45:=Tryz.isAgg207
 z45:=Tryz.sizeOf207
 v45:=Tryz.zeroValue207
 t46:=Tryz.underlying208
 a46:=Tryz.isAgg208
 z46:=Tryz.sizeOf208
 v46:=Tryz.zeroValue208
 t50:=Tryz.underlying185
 a50:=Tryz.isAgg185
 z50:=Tryz.sizeOf185
 v50:=Tryz.zeroValue185
 t53:=Tryz.underlying214
 a53:=Tryz.isAgg214
 z53:=Tryz.sizeOf214
 v53:=Tryz.zeroValue214
 t55:=Tryz.underlying28
 a55:=Tryz.isAgg28
 z55:=Tryz.sizeOf28
 v55:=Tryz.zeroValue28
 t66:=Tryz.underlying236
 a66:=Tryz.isAgg236
 z66:=Tryz.sizeOf236
 v66:=Tryz.zeroValue236
 t70:=Tryz.underlying240
 a70:=Tryz.isAgg240
 z70:=Tryz.sizeOf240
 v70:=Tryz.zeroValue240
 t76:=Tryz.underlying252
 a76:=Tryz.isAgg252
 z76:=Tryz.sizeOf252
 v76:=Tryz.zeroValue252
 t77:=Tryz.underlying253
 a77:=Tryz.isAgg253
 z77:=Tryz.sizeOf253
 v77:=Tryz.zeroValue253 }
end Go.Proofs
namespace Go.Proofs.YtedgfkpfhonlpaaGreat
open Go.RowKit
abbrev TeT:=(Int × Spl) × (List Nat × List Nat)
def eTeT (q:TeT):List D:=[.int q.1.1,.tag q.2.1 (.sl 1 (q.1.2.1.map eL)),.tag q.2.2 (.sl 1 (q.1.2.2.map eL))]
def blT (q:TeT):List Nat:=q.2.1 ++ q.2.2
theorem tag_mkT:∀ (qs:List TeT),TagL ((qs.map (·.1)).map eTe) (qs.map eTeT) ((qs.map blT).flatten)
 | [] => ⟨rfl,rfl⟩
 | q :: qs => ⟨_,_,blT q,_,rfl,rfl,⟨_,_,[],q.2.1 ++ q.2.2,rfl,rfl,.inr ⟨rfl,rfl,rfl⟩,⟨_,_,q.2.1,q.2.2,rfl,rfl,.inl rfl,⟨_,[],q.2.2,[],rfl,(List.append_nil _).symm,.inl rfl,rfl,rfl⟩⟩⟩,tag_mkT qs⟩
theorem marks_eTeT:∀ (qs:List TeT),kO (qs.map eTeT) = (qs.map blT).flatten
 | [] => rfl
 | q :: qs => by
  have ih:=marks_eTeT qs
  unfold kO at ih ⊢
  rw [List.map_cons,List.flatMap_cons,ih,List.map_cons,List.flatten_cons]
  congr 1
  simp [eTeT,D.marks,blT]
def stepW (out:List TeT) (q:TeT):List TeT:=match out.getLast? with
 | some p => if cmpTe p.1.2 q.1.2 = 0 then out.dropLast ++ [((mP (p.1.1 + q.1.1),p.1.2),p.2)] else out ++ [q]
 | none => [q]
def runW (zs:List TeT):List TeT:=zs.foldl stepW []
theorem stepW_nil (q:TeT):stepW [] q = [q]:=rfl
theorem stepW_eq (out:List TeT) (p q:TeT) (h:cmpTe p.1.2 q.1.2 = 0):stepW (out ++ [p]) q = out ++ [((mP (p.1.1 + q.1.1),p.1.2),p.2)]:=by simp [stepW,h]
theorem stepW_ne (out:List TeT) (p q:TeT) (h:¬ cmpTe p.1.2 q.1.2 = 0):stepW (out ++ [p]) q = out ++ [p] ++ [q]:=by simp [stepW,h]
theorem runW_snoc (zs:List TeT) (q:TeT):runW (zs ++ [q]) = stepW (runW zs) q:=by unfold runW;rw [List.foldl_append];rfl
theorem runW_spec:∀ (n:Nat) (zs:List TeT),zs.length = n→(∀ q ∈ zs,(0 ≤ q.1.1∧q.1.1 < 10007)∧SmS q.1.2) →
  (runW zs).map (·.1) = jS cmpTe [] (zs.map (·.1))∧((runW zs).map blT).Sublist (zs.map blT)∧(runW zs).length ≤ zs.length∧∀ q ∈ runW zs,(0 ≤ q.1.1∧q.1.1 < 10007)∧SmS q.1.2
 | 0,zs,hn,_ => by
  obtain rfl:=List.eq_nil_of_length_eq_zero hn
  exact ⟨rfl,List.Sublist.refl _,Nat.le_refl _,fun q hq => nomatch hq⟩
 | n + 1,zs,hn,h1 => by
  obtain ⟨zs,q,rfl⟩:=(qG0 zs).resolve_left (by rintro rfl;cases hn)
  have hn':zs.length = n:=by simpa using hn
  obtain ⟨i1,i2,i3,i4⟩:=runW_spec n zs hn' (fun q hq => h1 q (by simp [hq]))
  obtain ⟨hq1,hq2⟩:=h1 q (by simp)
  have hms:jS cmpTe [] ((zs ++ [q]).map (·.1)) = stepM cmpTe (jS cmpTe [] (zs.map (·.1))) q.1.1 q.1.2:=by
   rw [List.map_append]
   exact xU0 cmpTe q.1.1 q.1.2 _ _
  rw [runW_snoc,hms,← i1]
  by_cases h0:runW zs = []
  ·rw [h0]
   refine ⟨?_,?_,by simp [stepW],fun z hz => ?_⟩
   ·show [q.1] = stepM cmpTe [] q.1.1 q.1.2
    rw [stepM_nil,mP_small hq1.1 hq1.2]
   ·rw [List.map_append];exact List.sublist_append_right _ _
   ·have hz:z = q:=by simpa [stepW] using hz
    subst hz
    exact ⟨hq1,hq2⟩
  ·obtain ⟨out,p,e⟩:=(qG0 (runW zs)).resolve_left h0
   rw [e] at i2 i3 i4 ⊢
   have hp:=i4 p (by simp)
   by_cases hc:cmpTe p.1.2 q.1.2 = 0
   ·rw [stepW_eq _ _ _ hc,List.map_append,List.map_append,List.map_cons,List.map_nil,List.map_cons,List.map_nil]
    have e3:=stepM_eq cmpTe (out.map (·.1)) p.1.1 p.1.2 q.1.1 q.1.2 hc
    refine ⟨e3.symm,?_,by simp at i3 ⊢;omega,fun z hz => ?_⟩
    ·have e2:(out ++ [p]).map blT = out.map blT ++ [blT ((mP (p.1.1 + q.1.1),p.1.2),p.2)]:=by rw [List.map_append];rfl
     rw [List.map_append,List.map_append,List.map_cons,List.map_nil,← e2]
     exact i2.trans (List.sublist_append_left _ _)
    ·rcases List.mem_append.1 hz with hz|hz
     ·exact i4 z (by simp [hz])
     ·obtain rfl:=List.mem_singleton.1 hz
      exact ⟨jD _,hp.2⟩
   ·rw [stepW_ne _ _ _ hc]
    have e3:=stepM_ne cmpTe (out.map (·.1)) p.1.1 p.1.2 q.1.1 q.1.2 hc
    rw [mP_small hq1.1 hq1.2] at e3
    refine ⟨?_,?_,by simp at i3 ⊢;omega,fun z hz => ?_⟩
    ·simp only [List.map_append,List.map_cons,List.map_nil]
     exact e3.symm
    ·have e5:(out ++ [p] ++ [q]).map blT = (out ++ [p]).map blT ++ [blT q]:=by rw [List.map_append];rfl
     have e6:(zs ++ [q]).map blT = zs.map blT ++ [blT q]:=by rw [List.map_append];rfl
     rw [e5,e6]
     exact List.Sublist.append i2 (List.Sublist.refl _)
    ·rcases List.mem_append.1 hz with hz|hz
     ·exact i4 z hz
     ·obtain rfl:=List.mem_singleton.1 hz
      exact ⟨hq1,hq2⟩
theorem c_copro1 (W:World) (n m:Int) (u1 u2 v1 v2:Value) (f g h k:List (List Int)) (h1:Rd (RS (RS RI)) W [u1] f) (h2:Rd (RS (RS RI)) W [u2] g) (h3:Rd (RS (RS RI)) W [v1] h) (h4:Rd (RS (RS RI)) W [v2] k) (s1:qQ f ≤ 1000000) (s2:qQ h ≤ 1000000) (s3:qQ g ≤ 1000000) (s4:qQ k ≤ 1000000) :
  Calls Tryz.prog 93 #[.agg #[.int .i64 n,u1,u2],.agg #[.int .i64 m,v1,v2]] W fun e w' => e = .returned (.int .i64 (cmpTe (f,g) (h,k)))∧∃ q os',w' = Sort.grow (W.drewN q) os':=by
 obtain ⟨o1,c1,rfl,_,_⟩:=h1.val
 obtain ⟨o2,c2,rfl,_,_⟩:=h2.val
 obtain ⟨o3,c3,rfl,_,_⟩:=h3.val
 obtain ⟨o4,c4,rfl,_,_⟩:=h4.val
 have b1:Below W.heap.size W (W.alloc (.cells #[.int .i64 n,.slice o1 f.length c1,.slice o2 g.length c2] 69)):=(Below.refl _ _).alloc (Nat.le_refl _) _
 have b2:Below W.heap.size W ((W.alloc (.cells #[.int .i64 n,.slice o1 f.length c1,.slice o2 g.length c2] 69)).alloc (.cells #[.int .i64 m,.slice o3 h.length c3,.slice o4 k.length c4] 69)):=b1.alloc (by simp) _
 have hc:=jF0 _ _ f h _ (h1.below b2 (Nat.le_refl _)) (h3.below b2 (Nat.le_refl _)) (by omega) (by omega)
 have hd:=jF0 _ _ g k _ (h2.below b2 (Nat.le_refl _)) (h4.below b2 (Nat.le_refl _)) (by omega) (by omega)
 have HC:=Lib.hid hc
 have HD:=Lib.hid hd
 have hcs:cmpTe (f,g) (h,k) = if cmpF f h = 0 then cmpF g k else cmpF f h:=rfl
 by_cases hz:cmpF f h = 0
 ·have hb:(cmpF f h != 0) = false:=by simp [hz]
  rw [if_pos hz] at hcs
  have HS:=Lib.hid hcs
  clear hc hd b1 b2 h1 h2 h3 h4 hcs
  go_enter Tryz.func93,Tryz.ntmps93
  go_wp2_with (first|(go_at_call 87;refine HC.out.mono ?_;rintro e w' ⟨rfl,rfl⟩;clear HC)|(go_at_call 87;refine HD.out.mono ?_;rintro e w' ⟨rfl,rfl⟩;clear HD))
  go_ret
  exact ⟨by rw [HS.out] <;> rfl,0,_,by rw [Sort.alloc_eq_grow,Sort.alloc_eq_grow,Sort.grow_grow];rfl⟩
 ·have hb:(cmpF f h != 0) = true:=bne_iff_ne.2 hz
  rw [if_neg hz] at hcs
  have HS:=Lib.hid hcs
  clear hc hd b1 b2 h1 h2 h3 h4 hcs
  go_enter Tryz.func93,Tryz.ntmps93
  go_wp2_with (first|(go_at_call 87;refine HC.out.mono ?_;rintro e w' ⟨rfl,rfl⟩;clear HC)|(go_at_call 87;refine HD.out.mono ?_;rintro e w' ⟨rfl,rfl⟩;clear HD))
  go_ret
  exact ⟨by rw [HS.out] <;> rfl,0,_,by rw [Sort.alloc_eq_grow,Sort.alloc_eq_grow,Sort.grow_grow];rfl⟩
noncomputable def TCp1:Tab Tryz.prog :=
 Tab.none.add 87 (tab2 codLL codLL fun f g => if SmF f∧SmF g then some [.val (.int (cmpF f g))] else none) (yH fun f g rs h => by split at h;cases h;rename_i hs;exact yQ0 f g (by have:=hs.1.2;omega) (by have:=hs.2.2;omega);cases h)
theorem a_copro1 (z y:Int × Spl) (hz:SmS z.2) (hy:SmS y.2):AFn Tryz.prog 93 [eTe z,eTe y] (· = [.val (.int (cmpTe z.2 y.2))]):=by
 obtain ⟨n,⟨f,g⟩⟩:=z
 obtain ⟨n',⟨f',g'⟩⟩:=y
 have e1:=eq_true (And.intro hz.1 hy.1)
 have e2:=eq_true (And.intro hz.2 hy.2)
 simp only at e1 e2
 have hcs:cmpTe (f,g) (f',g') = if cmpF f f' = 0 then cmpF g g' else cmpF f f':=rfl
 simp only
 rw [hcs]
 refine AFn.of_runs (qX 19) Tryz.func93 rfl rfl rfl gz ?_
 have hres:Tryz.f93.results.toList = [.tmp 4]:=rfl
 have hrts:Tryz.f93.resultTypes.toList = [3]:=rfl
 simp only [qU,qT,eL,eI,eLL,eB,Nat.zero_add,Nat.reduceAdd,eTe]
 intro M
 refine qJ.of ?_
 by_cases h0:cmpF f f' = 0
 ·have hb:(cmpF f f' != 0) = false:=by simp [h0]
  rw [if_pos h0]
  refine gw146 (kk 6) (Y3 e1 e2 hb) ?_
  exact gw8
 ·have hb:(cmpF f f' != 0) = true:=bne_iff_ne.2 h0
  rw [if_neg h0]
  refine gw146 (kk 6) (Y3 e1 e2 hb) ?_
  exact gw8
theorem a_copro2 (n:Int) (f g:List (List Int)):AFn Tryz.prog 96 [[.int n,.sl 1 (f.map eL),.sl 1 (g.map eL)]] (· = [.val (.bool (decide (n = 0)))]):=by
 refine AFn.of_runs (qX 6) Tryz.func96 rfl rfl rfl gz ?_
 have hres:Tryz.f96.results.toList = [.tmp 2]:=rfl
 have hrts:Tryz.f96.resultTypes.toList = [4]:=rfl
 simp only [qU,qT,eL,eI,eLL,eB,Nat.zero_add,Nat.reduceAdd]
 intro M
 refine qJ.of ?_
 by_cases h:n = 0
 ·subst h
  rw [decide_eq_true rfl]
  refine gw7 (kk 3) Y0 ?_
  exact gw8
 ·have hb:(n == 0) = false:=beq_eq_false_iff_ne.2 h
  rw [decide_eq_false h]
  refine gw7 (kk 3) hb ?_
  exact gw8
theorem aggTe (w:World):(isAgg 69).run Tryz.prog w = .ok true w:=by
 simp [isAgg,run_underlying Tryz.underlying69]
theorem tTensor:ST Tryz.prog 65 69 (.agg #[.int .i64 0,.slice none 0 0,.slice none 0 0]) 3 56:=ST.mk' (by kernel_rfl) (by kernel_rfl) rfl (by decide)
theorem sizeTe (w:World):(Go.sizeOf 69).run Tryz.prog w = .ok 3 w:=by
 obtain ⟨_,⟨i,hi,_,hs,_⟩,_,_⟩:=tTensor
 simp [Go.sizeOf,typeInfo,hi,hs]
theorem rd_eTeT {A:Nat→Prop} {W:World} {us:List Value} {x:TeT} (h:rdCs A W us (eTeT x)):∃ u1 u2,us = [.int .i64 x.1.1,u1,u2]∧Rd (RS (RS RI)) W [u1] x.1.2.1∧Rd (RS (RS RI)) W [u2] x.1.2.2:=by
 have hl:=h.len
 match us,hl with
 | [u1,u2,u3],_ =>
  obtain ⟨v1,e1,h1⟩:=h.get 0 (by show 0 < 3;decide)
  obtain ⟨v2,e2,h2⟩:=h.get 1 (by show 1 < 3;decide)
  obtain ⟨v3,e3,h3⟩:=h.get 2 (by show 2 < 3;decide)
  obtain rfl:u1 = v1:=by simpa using e1
  obtain rfl:u2 = v2:=by simpa using e2
  obtain rfl:u3 = v3:=by simpa using e3
  have h1:rdV A W u1 (.int x.1.1):=h1
  have h2:rdV A W u2 (.tag x.2.1 (.sl 1 (x.1.2.1.map eL))):=h2
  have h3:rdV A W u3 (.tag x.2.2 (.sl 1 (x.1.2.2.map eL))):=h3
  have r1:=rdLL (xs:=x.1.2.1) h2.un
  have r2:=rdLL (xs:=x.1.2.2) h3.un
  refine ⟨u2,u3,?_,Rd.of r1,Rd.of r2⟩
  rw [(jJ.1 h1).1]
theorem a_sortTe (zs:List TeT) (hok:∀ z ∈ zs,SmS z.1.2) (hn:zs.length ≤ 1000000000) :
  AEf Tryz.prog 94 false [] 3 (zs.map eTeT) [[.raw (.func (.func 93) #[] #[])]] (fun rs oc => rs = []∧∃ zs':List TeT,oc = some (zs'.map eTeT)∧zs'.Perm zs∧zs'.Pairwise (fun a b => cmpTe a.1.2 b.1.2 ≤ 0)):=by
 refine a_SortG Tryz.sortTe (k:=3) eTeT (by decide) (fun _ => rfl) aggTe sizeTe yM0 (·.1.2) (fun z => SmS z.1.2) ((0,([],[])),([],[])) [.int .i64 0,.slice none 0 0,.slice none 0 0] (fun A w => ?_) (by decide) 93 (enters_of Tryz.func93 rfl rfl)
  (fun W A x y us vs hA hx hy hu hv => ?_) (enters_of Tryz.func94 rfl rfl) zs hok hn
 ·have hnil:rdV A w (.slice none 0 0) (.tag [] (.sl 1 [])):=kW.2 ⟨by simp,kS.2 ⟨none,[],[],Row.nil _ 1,ownR.nil (by decide),rfl⟩⟩
  exact rdCs.cons (jJ.2 ⟨rfl,by show qH 0;unfold qH;omega⟩) (rdCs.cons hnil (rdCs.cons hnil rdCs.nil))
 ·obtain ⟨u1,u2,rfl,r1,r2⟩:=rd_eTeT hu
  obtain ⟨v1,v2,rfl,r3,r4⟩:=rd_eTeT hv
  exact c_copro1 W _ _ _ _ _ _ _ _ _ _ r1 r2 r3 r4 (Nat.le_trans hx.1.2 (by decide)) (Nat.le_trans hy.1.2 (by decide)) (Nat.le_trans hx.2.2 (by decide)) (Nat.le_trans hy.2.2 (by decide))
structure CpI (M:Nat→Prop) (L:List (Int × Spl)) (qs:List TeT):Prop where
 eq:qs.map (·.1) = L
 nd:((qs.map blT).flatten).Nodup
 mi:∀ b ∈ (qs.map blT).flatten,M b
noncomputable def TNmC:Tab Tryz.prog:=Tab.none.add 92 (tab1 codI fun n => some [.val (.int (mP n))]) (yA fun n rs h => by cases h;exact a_num n)
theorem vV0 (e:Elt) (hz:szP e):AFn Tryz.prog 42 [[.sl 2 (e.map ePt)]] (· = [.own 3 ((copOf e).1.map eTe) true,.val (.int (copOf e).2)]):=by
 have h1:=qL0 e hz
 by_cases hE:elB e = true
 rotate_left
 ·have hE':elB e = false:=by simpa using hE
  have hco:copOf e = ([],1):=by unfold copOf;rw [if_neg hE]
  rw [hE'] at h1
  rw [hco]
  refine AFn.of_runs (qX 100) Tryz.func42 rfl rfl rfl gz ?_
  have hres:Tryz.f42.results.toList = [.tmp 2,.tmp 3]:=rfl
  have hrts:Tryz.f42.resultTypes.toList = [65,2]:=rfl
  simp only [qU,qT,eL,eI,eLL,eB,Nat.zero_add,Nat.reduceAdd]
  intro M
  refine qJ.of ?_
  refine gw132 (kk 56) Y0 ?_
  exact gw8
 rw [hE] at h1
 obtain ⟨hl,hnf,_,hfo⟩:=yE hE
 have hbd:=hnf.2
 have hML:=copM_len e hfo
 have hMok:=copM_ok hfo
 have htl:∀ i,(copM (e.take i)).length ≤ 256 * i:=fun i => by
  have:=copM_len (e.take i) (qE0 hfo)
  rw [List.length_take] at this
  exact Nat.le_trans this (Nat.mul_le_mul_left _ (Nat.min_le_left _ _))
 have hle:(e.map ePt).length = e.length:=List.length_map _
 refine AFn.of_runs (qX 100) Tryz.func42 rfl rfl rfl gz ?_
 have hres:Tryz.f42.results.toList = [.tmp 2,.tmp 3]:=rfl
 have hrts:Tryz.f42.resultTypes.toList = [65,2]:=rfl
 simp only [qU,qT,eL,eI,eLL,eB,Nat.zero_add,Nat.reduceAdd]
 intro M
 refine qJ.of ?_
 refine gw132 (kk 56) hle ?_
 refine qJ.loop (β:=Nat × List TeT) (γ:=List TeT) (fun x => ⟨[(4,.c (.own 4 x.2.length)),(18,.c (.val (.sl 2 (e.map ePt)))),(19,.c (.val (.int e.length))),(20,.c (.val (.int x.1)))],[(4,.row 3 (x.2.map eTeT) false)]⟩) (fun x => x.1 ≤ e.length∧CpI M (copM (e.take x.1)) x.2) (fun x => e.length - x.1)
  (fun qs => ⟨[(4,.c (.own 4 qs.length))],[(4,.row 3 (qs.map eTeT) false)]⟩) (fun qs => CpI M (copM e) qs) (0,[]) ⟨Nat.zero_le _,⟨rfl,List.nodup_nil,fun b hb => nomatch hb⟩⟩ ?_ ?_ ?_
 ·exact gw69
 ·rintro ⟨i,qs⟩ ⟨hi,hI⟩
  simp only at hi hI ⊢
  have hw:=qD (n:=i) (by omega)
  have hqn:qs.length ≤ 256 * i:=by
   have:=congrArg List.length hI.eq
   rw [List.length_map] at this
   have:=htl i
   omega
  by_cases h:i < e.length
  rotate_left
  ·have i1:((i:Int) < (e.length:Int)) = False:=eq_false (by omega)
   obtain rfl:i = e.length:=by omega
   rw [List.take_length] at hI
   refine gw29 (kk 56) i1 ?_
   refine qY.out qs hI ?_
   exact gw6 Y0
  have i1:((i:Int) < (e.length:Int)) = True:=eq_true (by omega)
  have i2:((0:Int) ≤ (i:Int)) = True:=eq_true (by omega)
  refine qJ.fresh rfl ?_
  intro M' hM' hold
  have hold:=hold 4 3 (qs.map eTeT) rfl
  rw [marks_eTeT] at hold
  obtain ⟨p,hp⟩:∃ p,p = e[i]:=⟨_,rfl⟩
  have hpf:=hfo e[i] (List.getElem_mem _)
  have hpb:=hbd e[i] (List.getElem_mem _)
  have hg:(e.map ePt)[i]? = some [.int p.1,.sl 1 (p.2.map eL)]:=by rw [qE h,hp];rfl
  have htk:copM (e.take (i + 1)) = copM (e.take i) ++ copP p:=by rw [copM_take h,← hp]
  rw [← hp] at hpf hpb
  have hsm8:=(xU hpf).1
  have hsp:=a_splitForest p.2 (vZ hpf) hsm8
  have hpl:=qZ0 (vZ hpf) hsm8
  have hga:=a_gathered (prodS (p.2.map split)) (by omega) (fun s hs => ((kD (vZ hpf) s hs).ha (by omega)).sm)
  have hgood:=kI (kD (vZ hpf))
  have hcd:copP p = (gathS (prodS (p.2.map split))).map fun z => (mP (p.1 * z.2),z.1):=rfl
  have hGl:=copP_len hpf
  obtain ⟨G,hG⟩:∃ G,G = gathS (prodS (p.2.map split)):=⟨_,rfl⟩
  rw [← hG] at hga hgood hcd
  have hGn:G.length ≤ 256:=by rw [hcd,List.length_map] at hGl;exact hGl
  have hspl:((prodS (p.2.map split)).map eS0).length = (prodS (p.2.map split)).length:=List.length_map _
  simp only [eLL] at hsp
  refine gw147 (kk 56) (Y5 i1 i2 hg hle hspl) ?_
  refine qJ.tag' 27 (k:=3) (xs:=G.map eSp) rfl ?_
  intro xs' F ht htp hnd hF
  obtain ⟨zs,e1,e2,e3⟩:=tag_rows3 _ _ _ ht htp
  subst e2;subst e3
  have hzl:zs.length = G.length:=by rw [e1,List.length_map]
  refine qJ.loop (β:=Nat × List TeT) (γ:=List TeT) (fun x => ⟨[(4,.c (.own 4 x.2.length)),(6,.optr 6 0 0),(18,.c (.val (.sl 2 (e.map ePt)))),(19,.c (.val (.int e.length))),(20,.c (.val (.int i))),(27,.c (.own 27 G.length)),(28,.c (.val (.int G.length))),(29,.c (.val (.int x.1)))],[(4,.row 3 (x.2.map eTeT) false),(6,.row 2 [[.int p.1,.sl 1 (p.2.map eL)]] false),(27,.row 3 (zs.map (e3T (fun z:Spl × Int => z.1.1.map eL) (fun z => z.1.2.map eL) (·.2))) false)]⟩)
   (fun x => x.1 ≤ G.length∧x.2.map (·.1) = copM (e.take i) ++ (copP p).take x.1∧(x.2.map blT).flatten = (qs.map blT).flatten ++ ((zs.take x.1).map bl3).flatten) (fun x => G.length - x.1)
   (fun rs => ⟨[(4,.c (.own 4 rs.length)),(18,.c (.val (.sl 2 (e.map ePt)))),(19,.c (.val (.int e.length))),(20,.c (.val (.int i)))],[(4,.row 3 (rs.map eTeT) false)]⟩) (fun rs => rs.map (·.1) = copM (e.take i) ++ copP p∧(rs.map blT).flatten = (qs.map blT).flatten ++ (zs.map bl3).flatten) (0,qs) ⟨Nat.zero_le _,by rw [List.take_zero,List.append_nil];exact hI.eq,by rw [List.take_zero];simp⟩ ?_ ?_ ?_
  ·exact gw148
  ·rintro ⟨j,rs⟩ ⟨hj,hr1,hr2⟩
   simp only at hj hr1 hr2 ⊢
   have hwj:=qD (n:=j) (by omega)
   have hzm:(zs.map (e3T (fun z:Spl × Int => z.1.1.map eL) (fun z => z.1.2.map eL) (·.2))).length = G.length:=by rw [List.length_map,hzl]
   have hcl:(copP p).length = G.length:=by rw [hcd,List.length_map]
   have hrn:rs.length ≤ 256 * i + 256:=by
    have:=congrArg List.length hr1
    rw [List.length_map,List.length_append,List.length_take] at this
    have:=htl i
    omega
   by_cases hjG:j < G.length
   ·have hjz:j < zs.length:=by omega
    have j1:((j:Int) < (G.length:Int)) = True:=eq_true (by omega)
    have j2:((0:Int) ≤ (j:Int)) = True:=eq_true (by omega)
    obtain ⟨z,hz⟩:∃ z,z = zs[j]:=⟨_,rfl⟩
    have hLi:G[j] = z.1:=by simp only [e1,List.getElem_map,hz]
    have hgz:(zs.map (e3T (fun z:Spl × Int => z.1.1.map eL) (fun z => z.1.2.map eL) (·.2)))[j]? = some (e3T (fun z:Spl × Int => z.1.1.map eL) (fun z => z.1.2.map eL) (·.2) z):=by rw [qE hjz,hz]
    obtain ⟨z1,z2,z3⟩:=hgood G[j] (List.getElem_mem _)
    have htkz:(zs.take (j + 1)).map bl3 = (zs.take j).map bl3 ++ [bl3 z]:=by rw [List.take_succ_eq_append_getElem hjz,List.map_append,← hz];rfl
    have htkc:(copP p).take (j + 1) = (copP p).take j ++ [(mP (p.1 * z.1.2),z.1.1)]:=by
     rw [List.take_succ_eq_append_getElem (by omega)]
     congr 2
     simp only [hcd,List.getElem_map,hLi]
    rw [hLi] at z1 z2
    obtain ⟨⟨⟨f,g⟩,n⟩,⟨Fz,Gz⟩⟩:=z
    simp only [e3T] at hgz
    simp only at z1 z2 htkc
    have hb0:0 ≤ p.1 * n∧p.1 * n ≤ 100140049:=by
     refine ⟨Int.mul_nonneg (by omega) (by omega),?_⟩
     have h5:=Int.mul_le_mul (show p.1 ≤ 10007 by omega) (show n ≤ 10007 by omega) (by omega) (by decide)
     omega
    have hwm:w64 (p.1 * n) = p.1 * n:=qL (by omega)
    have q1:=jW (n:=rs.length + 1) (by omega)
    have q2:=jZ (n:=rs.length + 1) (c:=56) (by omega) (by omega)
    refine gw149 (kk 56) (Y8 j1 j2 hgz hzm hwj hwm q1 q2) ?_
    refine qY.on (j + 1,rs ++ [((mP (p.1 * n),(f,g)),(Fz,Gz))]) ⟨⟨hjG,?_,?_⟩,by show G.length - (j + 1) < G.length - j;omega⟩ ?_
    ·show List.map (fun q:TeT => q.1) (rs ++ [((mP (p.1 * n),(f,g)),(Fz,Gz))]) = _
     rw [List.map_append,hr1,htkc,List.append_assoc];rfl
    ·show ((rs ++ [((mP (p.1 * n),(f,g)),(Fz,Gz))]).map blT).flatten = _
     rw [htkz,List.map_append,List.flatten_append,hr2,List.flatten_append,List.append_assoc]
     rfl
    ·exact gw150
   ·have j1:((j:Int) < (G.length:Int)) = False:=eq_false (by omega)
    obtain rfl:j = G.length:=by omega
    have hall:(copP p).take G.length = copP p:=List.take_of_length_le (by omega)
    rw [hall] at hr1
    rw [← hzl,List.take_length] at hr2
    refine gw29 (kk 56) j1 ?_
    refine qY.out rs ⟨hr1,hr2⟩ ?_
    exact gw6 Y0
  ·rintro rs ⟨hr1,hr2⟩
   refine gw29 (kk 56) hw ?_
   refine qY.on (i + 1,rs) ⟨⟨h,?_⟩,by show e.length - (i + 1) < e.length - i;omega⟩ ?_
   ·refine ⟨by rw [htk];exact hr1,?_,fun b hb => ?_⟩
    ·show ((rs.map blT).flatten).Nodup
     rw [hr2]
     refine List.nodup_append.2 ⟨hI.nd,hnd,fun b hb c hc e => ?_⟩
     subst e
     exact hold b hb (hF b hc)
    ·have hb:b ∈ (rs.map blT).flatten:=hb
     rw [hr2] at hb
     rcases List.mem_append.1 hb with hb|hb
     ·exact hI.mi b hb
     ·exact hM' b (hF b hb)
   ·exact gw6 Y0
 ·intro qs hJ
  have hqn:qs.length = (copM e).length:=by
   have:=congrArg List.length hJ.eq
   rwa [List.length_map] at this
  have hqs:∀ q ∈ qs,(0 ≤ q.1.1∧q.1.1 < 10007)∧SmS q.1.2:=fun q hq => hMok q.1 (by rw [← hJ.eq];exact List.mem_map.2 ⟨q,hq,rfl⟩)
  have hso:=a_sortTe qs (fun q hq => (hqs q hq).2) (by omega)
  refine gw29 (kk 56) Y0 ?_
  refine qJ.regCut (qX 100) Tab.none 2 (s1:=?_) ?_ ?_
  rotate_left 1
  focus (refine Work.mk ?_;simp only [Zg,Zi,seval];with_reducible rfl)
  simp only [List.toList_toArray,List.drop_succ_cons,List.drop_zero]
  refine qW.callEf (qX 100) rfl rfl (by decide) rfl rfl (x:=.tmp 49) (xpost:=[.tmp 50]) rfl rfl (post:=[[.raw (.func (.func 93) #[] #[])]]) ?_ ?_ rfl rfl ?_ hso (R:=fun ys => ∃ zs:List TeT,ys = zs.map eTeT∧zs.Perm qs∧zs.Pairwise (fun a b => cmpTe a.1.2 b.1.2 ≤ 0)) ?_ ?_
  ·simp only [Zg,Zi,seval]
  ·rfl
  ·intro q u hq hu
   rw [look,if_neg (fun e => hq e.symm)] at hu
   cases hu
  ·rintro rs oc ⟨rfl,zs,rfl,h1,h2⟩
   exact ⟨rfl,_,rfl,zs,rfl,h1,h2⟩
  rintro _ ⟨zs,rfl,hperm,hsort⟩
  have hzl:zs.length = qs.length:=hperm.length_eq
  have hzz:∀ z ∈ zs,(0 ≤ z.1.1∧z.1.1 < 10007)∧SmS z.1.2:=fun z hz => hqs z (hperm.mem_iff.1 hz)
  refine qW.opsT (qX 100) (T:=Tab.none) (s':=?_) ?_ ?_
  rotate_left 1
  focus (simp only [Zg,Zi,seval];with_reducible rfl)
  refine gw34 (kk 56) Y0 ?_
  obtain ⟨R,hR⟩:∃ R,R = fun i => runW (zs.take i):=⟨_,rfl⟩
  have hRi:∀ i,i ≤ zs.length→(R i).length ≤ 100000∧∀ q ∈ R i,(0 ≤ q.1.1∧q.1.1 < 10007)∧SmS q.1.2:=fun i hi => by
   rw [hR]
   obtain ⟨_,_,h3,h4⟩:=runW_spec _ (zs.take i) rfl (fun q hq => hzz q (List.mem_of_mem_take hq))
   rw [List.length_take] at h3
   exact ⟨by show (runW (zs.take i)).length ≤ 100000;omega,h4⟩
  refine qJ.loop (β:=Nat) (γ:=Unit) (fun i => ⟨[(9,.c (.val (.raw (.func (.func 93) #[] #[])))),(10,.c (.own 10 (R i).length)),(53,.c (.own 4 qs.length)),(54,.c (.val (.int qs.length))),(55,.c (.val (.int i)))],[(4,.row 3 (zs.map eTeT) false),(10,.row 3 ((R i).map eTeT) false)]⟩) (fun i => i ≤ qs.length) (fun i => qs.length - i)
   (fun _ => ⟨[(10,.c (.own 10 (R qs.length).length))],[(10,.row 3 ((R qs.length).map eTeT) false)]⟩) (fun _ => True) 0 (Nat.zero_le _) ?_ ?_ ?_
  ·have e0:R 0 = []:=by rw [hR];rfl
   rw [e0]
   exact gw69
  ·intro i hi
   have hi:i ≤ qs.length:=hi
   have hw:=qD (n:=i) (by omega)
   obtain ⟨hb1,hb2⟩:=hRi i (by omega)
   have hzml:(zs.map eTeT).length = qs.length:=by rw [List.length_map,hzl]
   by_cases h:i < qs.length
   ·have hz':i < zs.length:=by omega
    have i1:((i:Int) < (qs.length:Int)) = True:=eq_true (by omega)
    have i2:((0:Int) ≤ (i:Int)) = True:=eq_true (by omega)
    obtain ⟨p,hp⟩:∃ p,p = zs[i]:=⟨_,rfl⟩
    have hpz:=hzz zs[i] (List.getElem_mem _)
    have hst:R (i + 1) = stepW (R i) p:=by
     rw [hR]
     show runW (zs.take (i + 1)) = stepW (runW (zs.take i)) p
     rw [List.take_succ_eq_append_getElem hz',← hp,runW_snoc]
    have hg:(zs.map eTeT)[i]? = some (eTeT p):=by rw [qE hz',hp]
    rw [← hp] at hpz
    obtain ⟨⟨pn,⟨pf,pg⟩⟩,⟨pF,pG⟩⟩:=p
    simp only [eTeT] at hg
    simp only at hpz
    obtain ⟨hpz1,hpz2⟩:=hpz
    have q1:=jW (n:=(R i).length + 1) (by omega)
    have q2:=jZ (n:=(R i).length + 1) (c:=56) (by omega) (by omega)
    by_cases h0:R i = []
    ·rw [h0,stepW_nil] at hst
     have j1:(((0:Nat):Int) > 0) = False:=eq_false (by omega)
     rw [h0] at q1 q2 ⊢
     simp only [List.length_nil] at q1 q2
     refine gw151 (kk 56) (Y8 i1 i2 hg hzml hw j1 q1 q2) ?_
     refine qY.on (i + 1) ⟨h,by omega⟩ ?_
     rw [hst]
     exact gw152
    ·obtain ⟨qo,q,eq⟩:=(qG0 (R i)).resolve_left h0
     have hlq:(R i).length = qo.length + 1:=by rw [eq];simp
     obtain ⟨hz1,hz3⟩:=hb2 q (by rw [eq];simp)
     obtain ⟨⟨qn,⟨qf,qg⟩⟩,⟨qF,qG⟩⟩:=q
     simp only at hz1 hz3
     have j1:((((qo.length + 1:Nat)):Int) > 0) = True:=eq_true (by omega)
     have hw1:w64 (((qo.length + 1:Nat):Int) - 1) = ((qo.length:Nat):Int):=by rw [qL (by omega)];omega
     have i3:((0:Int) ≤ ((qo.length:Nat):Int)) = True:=eq_true (by omega)
     have i4:(((qo.length:Nat):Int) < ((qo.length + 1:Nat):Int)) = True:=eq_true (by omega)
     have hgz:((R i).map eTeT)[qo.length]? = some [.int qn,.tag qF (.sl 1 (qf.map eL)),.tag qG (.sl 1 (qg.map eL))]:=by
      rw [eq,List.map_append,List.getElem?_append_right (by simp)];simp [eTeT]
     have hxl:((R i).map eTeT).length = qo.length + 1:=by rw [List.length_map,hlq]
     have hcm:=a_copro1 (qn,(qf,qg)) (pn,(pf,pg)) hz3 hpz2
     simp only [eTe] at hcm
     rw [hlq] at hb1 q1 q2 ⊢
     by_cases he:cmpTe (qf,qg) (pf,pg) = 0
     ·have hd:(cmpTe (qf,qg) (pf,pg) == 0) = true:=beq_iff_eq.2 he
      have hwz:=qL (n:=qn + pn) (by omega)
      refine gw153 (kk 56) (Y12 i1 i2 i3 i4 hg hzml hgz hxl hw hw1 hd (Yp hwz j1)) ?_
      have hR2:R (i + 1) = qo ++ [((mP (qn + pn),(qf,qg)),(qF,qG))]:=by rw [hst,eq];exact stepW_eq qo _ _ he
      have hse:((R i).map eTeT).set qo.length [.int (mP (qn + pn)),.tag qF (.sl 1 (qf.map eL)),.tag qG (.sl 1 (qg.map eL))] = (R (i + 1)).map eTeT:=by
       rw [hR2,eq,List.map_append,List.set_append_right _ _ (by simp)];simp [eTeT]
      refine qY.on (i + 1) ⟨h,by omega⟩ ?_
      have hl2:(R (i + 1)).length = qo.length + 1:=by rw [hR2];simp
      rw [hl2,← hse]
      exact gw6 Y0
     ·have hd:(cmpTe (qf,qg) (pf,pg) == 0) = false:=beq_eq_false_iff_ne.2 he
      refine gw153 (kk 56) (Y12 i1 i2 i3 i4 hg hzml hgz hxl hw hw1 hd (Y3 j1 q1 q2)) ?_
      have hR2:R (i + 1) = R i ++ [((pn,(pf,pg)),(pF,pG))]:=by rw [hst,eq];exact stepW_ne qo _ _ he
      refine qY.on (i + 1) ⟨h,by omega⟩ ?_
      rw [hR2,List.length_append,hlq]
      exact gw154
   ·have i1:((i:Int) < (qs.length:Int)) = False:=eq_false (by omega)
    obtain rfl:i = qs.length:=by omega
    refine gw29 (kk 56) i1 ?_
    refine qY.out () trivial ?_
    exact gw6 Y0
  ·rintro _ _
   have hRL:R qs.length = runW zs:=by rw [hR];show runW (zs.take qs.length) = _;rw [← hzl,List.take_length]
   obtain ⟨k1,k2,k3,_⟩:=runW_spec _ zs rfl hzz
   rw [hRL]
   obtain ⟨W,hW⟩:∃ W,W = runW zs:=⟨_,rfl⟩
   rw [← hW] at k1 k2 k3 ⊢
   have hdel:=a_DeleteFuncTe eTeT (fun z => .tag z.2.1 (.sl 1 (z.1.2.1.map eL))) (fun z => .tag z.2.2 (.sl 1 (z.1.2.2.map eL))) (·.1.1) (·.1.2.1) (·.1.2.2) (fun z => decide (z.1.1 = 0)) 96 (fun _ => rfl) (fun _ => rfl) (fun _ => rfl) (fun z => a_copro2 z.1.1 z.1.2.1 z.1.2.2) W (by omega)
   have hx:sumS cmpTe (copM e) = (keepF (fun z:TeT => decide (z.1.1 = 0)) W).map (·.1):=by
    have hperm2:(zs.map (·.1)).Perm (copM e):=by rw [← hJ.eq];exact hperm.map _
    rw [← merge_sum yM0 hperm2 (List.pairwise_map.2 hsort) (fun q hq => (hMok q hq).1),← k1,List.filter_map]
    rfl
   have hsub:(keepF (fun z:TeT => decide (z.1.1 = 0)) W).Sublist W:=List.filter_sublist
   have hbl:((keepF (fun z:TeT => decide (z.1.1 = 0)) W).map blT).flatten.Sublist ((zs.map blT).flatten):=sub_flat3 ((hsub.map _).trans k2)
   have hp2:=(hperm.map blT).flatten
   obtain ⟨K,hK⟩:∃ K,K = keepF (fun z:TeT => decide (z.1.1 = 0)) W:=⟨_,rfl⟩
   rw [← hK] at hdel hx hbl
   have hlen:(sumS cmpTe (copM e)).length = K.length:=by rw [hx,List.length_map]
   by_cases h6:K.length ≤ 600
   ·have hco:copOf e = (sumS cmpTe (copM e),0):=by unfold copOf;rw [if_pos hE,if_pos (by omega)]
    have j1:((K.length:Int) > 600) = False:=eq_false (by omega)
    rw [hco]
    refine gw155 (kk 56) j1 ?_
    refine Ends.un (by simp) hres hrts (r:=?_) (r':=.own 3 ((sumS cmpTe (copM e)).map eTe) true) (l:=[.val (.int 0)]) (ks:=?_) ?_ ?_ (by simp [isSl]) ?_ rfl
    rotate_left 2
    focus (simp only [jI,ares,Zg,Zi,seval];with_reducible rfl)
    focus simp
    rw [hx]
    refine ⟨(K.map blT).flatten,?_,fun b hb => hJ.mi b ?_,.inl ⟨3,_,_,rfl,rfl,tag_mkT _⟩⟩
    ·exact (hp2.nodup_iff.2 hJ.nd).sublist hbl
    ·exact hp2.mem_iff.1 (hbl.subset hb)
   ·have hco:copOf e = ([],3):=by unfold copOf;rw [if_pos hE,if_neg (by omega)]
    have j1:((K.length:Int) > 600) = True:=eq_true (by omega)
    rw [hco]
    refine gw155 (kk 56) j1 ?_
    (refine Ends.mk (by simp) (rs:=?_) (ks:=?_) hres hrts ?_ ?_ ?_;rotate_left 2;(focus (simp only [Ze,Zg,Zi,seval,List.map_nil];with_reducible rfl));(focus simp);focus (first|with_reducible rfl|(simp only [Zv,List.map_nil];done)))
theorem a_l06PutO (e:Elt) (k:Int) (f:List (List Int)) (hl:e.length ≤ 1000000) (he:∀ q ∈ e,(1 ≤ q.1∧q.1 < 10007)∧SmF q.2) (hk:0 ≤ k∧k < 10007) (hf:SmF f):AOw Tryz.prog 137 [] 2 (e.map ePt) [eI k,eLL f] (· = [.own 2 ((putS cmpF e k f).map ePt) false]):=by
 by_cases hk0:k = 0
 ·subst hk0
  rw [putS_zero]
  refine AOw.of_runs (qX 68) Tryz.func137 rfl rfl rfl gz ?_
  have hres:Tryz.f137.results.toList = [.tmp 6]:=rfl
  have hrts:Tryz.f137.resultTypes.toList = [50]:=rfl
  simp only [List.length_cons,List.length_nil,List.nil_append,List.cons_append,qU,qT,eL,eI,eLL,eB,Nat.zero_add,Nat.reduceAdd]
  intro M
  refine qJ.of ?_
  refine gw7 (kk 12) Y0 ?_
  exact gw8
 have hkb:(k == 0) = false:=beq_eq_false_iff_ne.2 hk0
 have hff:=eq_true hf
 refine AOw.of_runs (qX 68) Tryz.func137 rfl rfl rfl gz ?_
 have hres:Tryz.f137.results.toList = [.tmp 6]:=rfl
 have hrts:Tryz.f137.resultTypes.toList = [50]:=rfl
 simp only [List.length_cons,List.length_nil,List.nil_append,List.cons_append,qU,qT,eL,eI,eLL,eB,Nat.zero_add,Nat.reduceAdd]
 intro M
 refine qJ.of ?_
 refine gw7 (kk 12) hkb ?_
 refine qJ.frz 0 ?_
 refine qJ.loop (β:=Nat × Bool × Elt) (γ:=Bool × Elt) (fun x => ⟨[(0,.c (.val (.sl 2 (e.map ePt)))),(1,.c (.val (.int k))),(2,.c (.val (.sl 1 (f.map eL)))),(7,.c (.own 7 x.2.2.length)),(8,.c (.val (.bool x.2.1))),(9,.c (.val (.int x.1)))],[(7,.row 2 (x.2.2.map ePt) false)]⟩) (PutI e k f) (fun x => e.length - x.1)
  (fun x => ⟨[(0,.c (.val (.sl 2 (e.map ePt)))),(1,.c (.val (.int k))),(2,.c (.val (.sl 1 (f.map eL)))),(7,.c (.own 7 x.2.length)),(8,.c (.val (.bool x.1)))],[(7,.row 2 (x.2.map ePt) false)]⟩) (fun x => PutI e k f (e.length,x)) (0,false,[]) ⟨Nat.zero_le _,fun _ => ⟨rfl,by simp⟩,(fun h => nomatch h),Nat.zero_le _⟩ ?_ ?_ ?_
 ·exact gw156
 ·rintro ⟨i,d,o⟩ ⟨hi,hno,hyes,hlen⟩
  simp only at hi hno hyes hlen ⊢
  have hw:=qD (n:=i) (by omega)
  have q1:=jW (n:=o.length + 1) (by omega)
  have q2:=jZ (n:=o.length + 1) (c:=32) (by omega) (by omega)
  have q3:=jW (n:=o.length + 1 + 1) (by omega)
  have q4:=jZ (n:=o.length + 1 + 1) (c:=32) (by omega) (by omega)
  by_cases h:i < e.length
  ·have i1:((i:Int) < (e.length:Int)) = True:=eq_true (by omega)
   have i2:((0:Int) ≤ (i:Int)) = True:=eq_true (by omega)
   obtain ⟨z,hz⟩:∃ z,z = e[i]:=⟨_,rfl⟩
   obtain ⟨⟨hz1,hz2⟩,hz3⟩:=he e[i] (List.getElem_mem _)
   have hg:(e.map ePt)[i]? = some [.int z.1,.sl 1 (z.2.map eL)]:=by rw [qE h,hz];rfl
   have hdr:e.drop i = z :: e.drop (i + 1):=by rw [hz];exact List.drop_eq_getElem_cons h
   have htk:e.take (i + 1) = e.take i ++ [z]:=by rw [hz];exact List.take_succ_eq_append_getElem h
   rw [← hz] at hz1 hz2 hz3
   have hzz:=eq_true hz3
   have hz0:(z.1 != 0) = true:=bne_iff_ne.2 (by omega)
   cases d with
   | true =>
    refine gw51 (kk 12) (Y7 i1 i2 hg hw hz0 q1 q2) ?_
    refine qY.on (i + 1,true,o ++ [z]) ?_ ?_
    refine ⟨⟨h,(fun h => nomatch h),fun _ => ?_,?_⟩,?_⟩
    ·rw [← hyes rfl,hdr];simp
    ·simp;omega
    ·show e.length - (i + 1) < e.length - i;omega
    ·exact gw52
   | false =>
    obtain ⟨ho,hlow⟩:=hno rfl
    have hpa:=putS_at hk0 h hlow
    rw [← hz] at hpa
    rcases Int.lt_trichotomy (cmpF f z.2) 0 with hc|hc|hc
    ·have hs:=sgn_lt hc
     have hp:putS cmpF e k f = o ++ [(k,f)] ++ [z] ++ e.drop (i + 1):=by
      rw [hpa,ho];unfold putS;rw [if_neg hk0,if_pos hc];simp
     refine gw53 (kk 12) (Y12 i1 i2 hg hw hz0 hs hff hzz q1 q2 q3 q4) ?_
     refine qY.on (i + 1,true,o ++ [(k,f)] ++ [z]) ?_ ?_
     refine ⟨⟨h,(fun h => nomatch h),fun _ => hp.symm,?_⟩,?_⟩
     ·have:o.length = i:=by rw [ho,List.length_take];omega
      simp;omega
     ·show e.length - (i + 1) < e.length - i;omega
     ·exact gw52
    ·have hs:=sgn_eq hc
     have hab:(-9223372036854775808 ≤ z.1 + k∧z.1 + k ≤ 9223372036854775807) = True:=eq_true (by omega)
     by_cases hm:mP (z.1 + k) = 0
     ·have hmb:(mP (z.1 + k) == 0) = true:=beq_iff_eq.2 hm
      have hp:putS cmpF e k f = o ++ e.drop (i + 1):=by
       rw [hpa,ho];unfold putS;rw [if_neg hk0,if_neg (by omega),if_pos hc,if_pos hm]
      refine gw51 (kk 12) (Y11 i1 i2 hg hw hm hs hff hzz hab q1 q2) ?_
      refine qY.on (i + 1,true,o) ?_ ?_
      refine ⟨⟨h,(fun h => nomatch h),fun _ => hp.symm,?_⟩,?_⟩
      ·show o.length ≤ i + 1 + 1;omega
      ·show e.length - (i + 1) < e.length - i;omega
      ·exact gw54 Y0
     ·have hmb:(mP (z.1 + k) != 0) = true:=bne_iff_ne.2 hm
      have hp:putS cmpF e k f = o ++ [(mP (z.1 + k),z.2)] ++ e.drop (i + 1):=by
       rw [hpa,ho];unfold putS;rw [if_neg hk0,if_neg (by omega),if_pos hc,if_neg hm];simp
      refine gw51 (kk 12) (Y11 i1 i2 hg hw hmb hs hff hzz hab q1 q2) ?_
      refine qY.on (i + 1,true,o ++ [(mP (z.1 + k),z.2)]) ?_ ?_
      refine ⟨⟨h,(fun h => nomatch h),fun _ => hp.symm,?_⟩,?_⟩
      ·simp;omega
      ·show e.length - (i + 1) < e.length - i;omega
      ·exact gw52
    ·have hs:=sgn_gt hc
     refine gw51 (kk 12) (Y10 i1 i2 hg hw hz0 hs hff hzz q1 q2) ?_
     refine qY.on (i + 1,false,o ++ [z]) ?_ ?_
     refine ⟨⟨h,fun _ => ⟨by rw [htk,ho],?_⟩,(fun h => nomatch h),?_⟩,?_⟩
     ·intro q hq
      have hq:q ∈ e.take (i + 1):=hq
      rw [htk,List.mem_append,List.mem_singleton] at hq
      rcases hq with hq|rfl
      ·exact hlow q hq
      ·exact hc
     ·simp;omega
     ·show e.length - (i + 1) < e.length - i;omega
     ·exact gw52
  ·have i1:((i:Int) < (e.length:Int)) = False:=eq_false (by omega)
   obtain rfl:i = e.length:=by omega
   refine gw5 (kk 12) i1 ?_
   refine qY.out (d,o) ⟨Nat.le_refl _,hno,hyes,hlen⟩ ?_
   exact gw6 Y0
 ·rintro ⟨d,o⟩ ⟨_,hno,hyes,hlen⟩
  simp only at hno hyes hlen ⊢
  have q1:=jW (n:=o.length + 1) (by omega)
  have q2:=jZ (n:=o.length + 1) (c:=32) (by omega) (by omega)
  cases d with
  | true =>
   have hp:putS cmpF e k f = o:=by rw [← hyes rfl];simp
   rw [hp]
   refine gw7 (kk 12) Y0 ?_
   exact gw8
  | false =>
   obtain ⟨ho,hlow⟩:=hno rfl
   have hp:putS cmpF e k f = o ++ [(k,f)]:=by
    have h1:=yF0 hk0 [] hlow
    rw [List.append_nil,List.take_length] at h1
    rw [h1,ho,List.take_length]
    unfold putS;rw [if_neg hk0]
   rw [hp]
   refine gw55 (kk 12) (Y3 hff q1 q2) ?_
   exact gw56
def nxtH (h:Int):Int:=IntKind.u64.wrap (IntKind.u64.wrap (h * 6364136223846793005) + 1442695040888963407)
def nxtB (h:Int):Int:=wrap64 (bits BinOp.and IntKind.u64 (nxtH h / 8589934592) 16777215)
def nxtX (code:List Int) (i:Nat) (h:Int):Int:=if hi:i < code.length then wrap64 (nxtB h + code[i]) else nxtB h
def nxtF (code:List Int) (s:Nat × Int) (n:Int):Int × Nat × Int:=if n < 1 then (0,s) else ((nxtX code s.1 s.2).tmod n,if s.1 < code.length then s.1 + 1 else s.1,nxtH s.2)
theorem nxtB_bd (h:Int):0 ≤ nxtB h∧nxtB h ≤ 16777215:=by
 have h0:0 ≤ nxtH h∧nxtH h < 18446744073709551616:=by unfold nxtH IntKind.wrap;simp [IntKind.signed,IntKind.bits];omega
 have e:=bits_and_u64_nat (nxtH h / 8589934592).toNat 16777215 (by omega) (by omega)
 have e1:(((nxtH h / 8589934592).toNat:Nat):Int) = nxtH h / 8589934592:=by omega
 rw [e1] at e
 have hle:(nxtH h / 8589934592).toNat &&& 16777215 ≤ 16777215:=Nat.and_le_right
 unfold nxtB
 have e2:((16777215:Nat):Int) = 16777215:=rfl
 rw [e2] at e
 rw [e]
 unfold wrap64
 omega
theorem nxtX_bd {code:List Int} (hc:∀ c ∈ code,0 ≤ c∧c < 256) (i:Nat) (h:Int):0 ≤ nxtX code i h∧nxtX code i h ≤ 16777470:=by
 have h1:=nxtB_bd h
 unfold nxtX
 split
 ·rename_i hi
  have h2:=hc code[i] (List.getElem_mem _)
  unfold wrap64
  omega
 ·omega
theorem yZ {code:List Int} (hc:∀ c ∈ code,0 ≤ c∧c < 256) (s:Nat × Int) (n:Int):0 ≤ (nxtF code s n).1∧((nxtF code s n).1 < n ∨ (n < 1∧(nxtF code s n).1 = 0)):=by
 unfold nxtF
 split
 ·rename_i h;exact ⟨Int.le_refl _,.inr ⟨h,rfl⟩⟩
 ·rename_i h
  have h1:=nxtX_bd hc s.1 s.2
  show 0 ≤ (nxtX code s.1 s.2).tmod n∧((nxtX code s.1 s.2).tmod n < n ∨ _)
  rw [Int.tmod_eq_emod_of_nonneg h1.1]
  exact ⟨Int.emod_nonneg _ (by omega),.inl (Int.emod_lt_of_pos _ (by omega))⟩
def Byt (w:World) (b:Nat) (oa:Option Addr) (code:List Int):Prop:=(∀ c ∈ code,0 ≤ c∧c < 256)∧(code = [] ∨ ∃ b2 off,oa = some ⟨b2,off,none⟩∧b2 ≠ b∧∀ i (h:i < code.length),w.cell? ⟨b2,off + i,none⟩ = some (.int .u8 code[i]))
theorem row_set {w:World} {b k cap0:Nat} {ds:List Value} (hr:Row w (slv (some b) 1 cap0) k 1 ds (some b)) (j:Nat) (u:Value):Row (w.setCell ⟨b,j,none⟩ u) (slv (some b) 1 cap0) k 1 (ds.set j u) (some b):=(hr.store j u).1
theorem bel_set {w0:World} {w:World} {b:Nat} (h:Bel ⟨w0,fun c => c = b⟩ w) (j:Nat) (u:Value):Bel ⟨w0,fun c => c = b⟩ (w.setCell ⟨b,j,none⟩ u) :=
 ⟨h.os,h.tape,h.output,by simpa using h.size,fun k hk hn hy => (heap_setCell_other w ⟨b,j,none⟩ k u (fun e => hn e)).trans (h.block k hk hn hy)⟩
theorem row_drew {w:World} {b k cap0:Nat} {ds:List Value} (hr:Row w (slv (some b) 1 cap0) k 1 ds (some b)) (n:Nat):Row (w.drewN n) (slv (some b) 1 cap0) k 1 ds (some b):=hr
theorem bel_drew {w0:World} {w:World} {b:Nat} (h:Bel ⟨w0,fun c => c = b⟩ w) (n:Nat):Bel ⟨w0,fun c => c = b⟩ (w.drewN n):=⟨h.os,h.tape,h.output,h.size,h.block⟩
theorem bel_refl (w:World) (b:Nat):Bel ⟨w,fun c => c = b⟩ w:=⟨rfl,rfl,rfl,Nat.le_refl _,fun _ _ _ _ => rfl⟩
def RetN (w:World) (b:Nat) (oa:Option Addr) (cap cap0:Nat) (code:List Int) (r:Int × Nat × Int) (e:Ending) (w':World):Prop :=
 e = .returned (.int .i64 r.1)∧Row w' (slv (some b) 1 cap0) 3 1 [.slice oa code.length cap,.int .i64 r.2.1,.int .u64 r.2.2] (some b)∧Bel ⟨w,fun c => c = b⟩ w'
theorem c_l01Next (w:World) (b:Nat) (oa:Option Addr) (code:List Int) (cap cap0:Nat) (s:Nat × Int) (n:Int) (hr:Row w (slv (some b) 1 cap0) 3 1 [.slice oa code.length cap,.int .i64 s.1,.int .u64 s.2] (some b)) (hB:Byt w b oa code) (hn:qH n) (hat:s.1 ≤ code.length) (hl:code.length ≤ 1000000000) :
  Calls Tryz.prog 82 #[.pointer (some ⟨b,0,none⟩),.int .i64 n] w (RetN w b oa cap cap0 code (nxtF code s n)):=by
 obtain ⟨i,h⟩:=s
 have c0:=hr.cells 0 _ rfl
 have c1:=hr.cells 1 _ rfl
 have c2:=hr.cells 2 _ rfl
 have f0:=hr.frozen 0
 have f1:=hr.frozen 1
 have f2:=hr.frozen 2
 have hlt:=hr.lt b rfl
 simp only at c0 c1 c2 hat
 have HR:=Lib.hid hr
 by_cases hn1:n < 1
 ·have hF:nxtF code (i,h) n = (0,i,h):=if_pos hn1
  rw [hF]
  clear hr hB hF
  go_enter Tryz.func82,Tryz.ntmps82
  go_wp2
  go_ret
  exact ⟨rfl,HR.out,bel_refl w b⟩
 ·have hF:nxtF code (i,h) n = ((nxtX code i h).tmod n,if i < code.length then i + 1 else i,nxtH h):=if_neg hn1
  rw [hF]
  by_cases ha:i < code.length
  ·obtain ⟨b2,off,e,hne,hg⟩:=hB.2.resolve_left (fun e => by rw [e] at ha;cases ha)
   have hgi:=hg i ha
   clear hg
   have hc:=hB.1 code[i] (List.getElem_mem _)
   have hX:nxtX code i h = wrap64 (nxtB h + code[i]):=dif_pos ha
   rw [hX,if_pos ha]
   obtain ⟨c,hce⟩:∃ c,c = code[i]:=⟨_,rfl⟩
   rw [← hce] at hgi hc ⊢
   have hwc:wrap64 c = c:=by unfold wrap64;omega
   subst e
   clear hr hB hce hF hX
   go_enter Tryz.func82,Tryz.ntmps82
   go_wp2
   go_quiet (fail)
   go_wp2
   go_quiet (fail)
   go_wp2
   go_ret
   exact ⟨rfl,row_set (row_drew (row_set HR.out 2 _) _) 1 _,bel_set (bel_drew (bel_set (bel_refl w b) 2 _) _) 1 _⟩
  ·have hX:nxtX code i h = nxtB h:=dif_neg ha
   rw [hX,if_neg ha]
   clear hr hB hF hX
   go_enter Tryz.func82,Tryz.ntmps82
   go_wp2
   go_quiet (fail)
   go_wp2
   go_ret
   exact ⟨rfl,row_drew (row_set HR.out 2 _) _,bel_drew (bel_set (bel_refl w b) 2 _) _⟩
def hshS (m:Int) (h c:Int):Int:=IntKind.u64.wrap (IntKind.u64.wrap (IntKind.u64.wrap (h * 1099511628211) + c) + m)
def hshF (m h0:Int) (code:List Int):Int:=code.foldl (hshS m) h0
theorem hshF_snoc (m h0:Int) (code:List Int) (k:Nat) (h:k < code.length):hshF m h0 (code.take (k + 1)) = hshS m (hshF m h0 (code.take k)) code[k]:=by
 unfold hshF
 rw [List.take_succ_eq_append_getElem h,List.foldl_append];rfl
def RetP (w:World) (oa:Option Addr) (cap:Nat) (code:List Int) (h:Int) (e:Ending) (w':World):Prop :=
 e = .returned (.pointer (some ⟨w.heap.size,0,none⟩))∧Row w' (slv (some w.heap.size) 1 1) 3 1 [.slice oa code.length cap,.int .i64 0,.int .u64 h] (some w.heap.size)∧Below w.heap.size w w'
theorem cell_lt {w:World} {b off:Nat} {v:Value} (h:w.cell? ⟨b,off,none⟩ = some v):b < w.heap.size:=by
 rcases Nat.lt_or_ge b w.heap.size with h1|h1
 ·exact h1
 ·rw [World.cell?] at h
  simp [Array.getElem?_eq_none h1] at h
theorem byt_below {w w':World} {n b off:Nat} {v:Value} (hb:Below n w w') (hlt:b < n) (h:w.cell? ⟨b,off,none⟩ = some v):w'.cell? ⟨b,off,none⟩ = some v:=by
 rw [World.cell?] at h ⊢
 rw [hb.block b hlt]
 exact h
theorem c_l01From (w:World) (oa:Option Addr) (code:List Int) (cap:Nat) (hB:Byt w w.heap.size oa code) (hcap:code.length ≤ cap) (hnil:oa = none→cap = 0) (hl:code.length ≤ 1000000000) :
  Calls Tryz.prog 64 #[.slice oa code.length cap] w (RetP w oa cap code (hshF 11 (5381 + code.length) (code.take 4096))):=by
 unfold RetP
 have HB:=Lib.hid hB
 obtain ⟨h0,hh0⟩:∃ h0,h0 = 5381 + (code.length:Int):=⟨_,rfl⟩
 rw [← hh0]
 have HH:=Lib.hid hh0
 clear hB hh0
 go_enter Tryz.func64,Tryz.ntmps64
 go_wp2
 go_loopw [4] (fun i wr => ∃ k:Nat,k ≤ code.length∧k ≤ 4096∧i = .int .i64 k∧Row wr (slv (some w.heap.size) 1 1) 3 1 [.slice oa code.length cap,.int .i64 0,.int .u64 (hshF 11 h0 (code.take k))] (some w.heap.size)∧Below w.heap.size w wr) (fun i _ => code.length - (intOf i).toNat)
 case atStart =>
  refine ⟨0,Nat.zero_le _,Nat.zero_le _,rfl,?_,?_⟩
  ·rw [List.take_zero]
   show Row _ _ 3 1 [_,_,.int .u64 h0] _
   rw [HH.out]
   exact Row.lit w #[.slice oa code.length cap,.int .i64 0,.int .u64 _] _ 3 1 (by decide) rfl
  ·exact (Below.refl _ _).alloc (Nat.le_refl _) _
 case round =>
  obtain ⟨k,hk,hk2,rfl,hrow,hbel⟩:=hrel
  have c0:=hrow.cells 0 _ rfl
  have c2:=hrow.cells 2 _ rfl
  have f2:=hrow.frozen 2
  have hlt:=hrow.lt _ rfl
  have HR:=Lib.hid hrow
  have HL:=Lib.hid hbel
  clear hrow hbel
  by_cases hlt1:k < code.length
  ·by_cases hlt2:k < 4096
   ·have hB:=HB.out
    obtain ⟨b2,off,e,hne,hg⟩:=hB.2.resolve_left (fun e => by rw [e] at hlt1;cases hlt1)
    have hgi:=byt_below HL.out (cell_lt (hg k hlt1)) (hg k hlt1)
    have hc:=hB.1 code[k] (List.getElem_mem _)
    have hst:=hshF_snoc 11 h0 code k hlt1
    obtain ⟨c,hce⟩:∃ c,c = code[k]:=⟨_,rfl⟩
    rw [← hce] at hgi hc hst
    subst e
    have HS:=Lib.hid hst
    clear hB hg hce hst
    obtain ⟨h,hh⟩:∃ h,h = hshF 11 h0 (code.take k):=⟨_,rfl⟩
    rw [← hh] at HR HS c2
    clear hh
    go_wp2_with fail
    go_region
    go_wp2_with fail
    go_roundw
    case rel =>
     refine ⟨k + 1,by omega,by omega,by go_num,?_,?_⟩
     ·rw [HS.out]
      exact row_set HR.out 2 _
     ·have hz:Below w.heap.size w (wr.setCell ⟨w.heap.size,2,none⟩ (.int .u64 (hshS 11 h c))):=HL.out.setCell (Nat.le_refl _) _
      exact ⟨hz.os,hz.tape,hz.output,hz.size,hz.block⟩
    case measure => simp [intOf];omega
   ·obtain rfl:k = 4096:=by omega
    go_wp2_with fail
    go_ret
    exact ⟨rfl,HR.out,HL.out⟩
  ·have e:code.take 4096 = code.take k:=by rw [List.take_of_length_le (by omega),List.take_of_length_le (by omega)]
   have HE:=Lib.hid e
   clear e
   go_wp2_with fail
   go_ret
   rw [HE.out]
   exact ⟨rfl,HR.out,HL.out⟩
end Go.Proofs.YtedgfkpfhonlpaaGreat

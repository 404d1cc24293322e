/- Lemmas (12). -/
import Derived.Test.YtedgfkpfhonlpaaGreatZN1
import Derived.Test.YtedgfkpfhonlpaaGreatZN8
import Derived.Test.YtedgfkpfhonlpaaGreatZN10
import Derived.Test.YtedgfkpfhonlpaaGreatZN11
set_option maxHeartbeats 16000000
set_option maxRecDepth 100000
set_option linter.unusedSimpArgs false
set_option linter.unusedVariables false
namespace Go.Proofs.YtedgfkpfhonlpaaGreat
open Go.RowKit
theorem catS_assoc (a b d:Spl):catS (catS a b) d = catS a (catS b d):=by
 unfold catS
 simp only [List.append_assoc]
theorem foldS_from:∀ (Ls:List (List Spl)) (A:List Spl),foldS A Ls = A.flatMap fun s => (foldS [([],[])] Ls).map (catS s)
 | [],A => by
  show A = _
  have:∀ s:Spl,[(([],[]):Spl)].map (catS s) = [s]:=fun s => by
   show [catS s ([],[])] = _
   unfold catS;simp
  have e:(fun s:Spl => (foldS [([],[])] []).map (catS s)) = fun s => [s]:=by funext s;exact this s
  rw [e];simp
 | L :: Ls,A => by
  have h1:foldS A (L :: Ls) = foldS (A.flatMap fun s => L.map (catS s)) Ls:=rfl
  have h2:foldS [([],[])] (L :: Ls) = foldS ([(([],[]):Spl)].flatMap fun s => L.map (catS s)) Ls:=rfl
  have h3:([(([],[]):Spl)].flatMap fun s => L.map (catS s)) = L:=by
   rw [List.flatMap_cons,List.flatMap_nil,List.append_nil]
   have:catS (([],[]):Spl) = id:=by funext s;rfl
   rw [this,List.map_id]
  rw [h1,h2,h3,foldS_from Ls (A.flatMap fun s => L.map (catS s)),foldS_from Ls L,List.flatMap_assoc]
  congr 1
  funext s
  rw [List.flatMap_map,List.map_flatMap]
  congr 1
  funext c
  rw [List.map_map]
  exact List.map_congr_left fun d _ => catS_assoc s c d
theorem sum_flatM {α:Type} (g:α→List Int):∀ (L:List α),(L.flatMap g).sum = (L.map fun a => (g a).sum).sum
 | [] => rfl
 | a :: L => by rw [List.flatMap_cons,List.sum_append,sum_flatM g L,List.map_cons,List.sum_cons]
theorem kH (F:Spl→Int):wF F [] = F ([],[]):=by
 show F (nrmS ([],[])) + 0 = _
 rw [Int.add_zero];rfl
theorem wF_perm (F:Spl→Int) {f g:List (List Int)} (h:f.Perm g):wF F f = wF F g:=by
 have hp:=(prodS_perm (h.map split) [([],[])]).map F
 rw [List.map_map,List.map_map] at hp
 exact sum_perm hp
theorem wF_app (F:Spl→Int) (f g:List (List Int)):wF F (f ++ g) = wF (fun s => wF (fun u => F (mulS s u)) g) f:=by
 have e1:prodS ((f ++ g).map split) = (prodS (f.map split)).flatMap fun s => (prodS (g.map split)).map (catS s):=by
  rw [List.map_append]
  show foldS [([],[])] (f.map split ++ g.map split) = _
  have:foldS [([],[])] (f.map split ++ g.map split) = foldS (foldS [([],[])] (f.map split)) (g.map split):=by unfold foldS;rw [List.foldl_append]
  rw [this,foldS_from];rfl
 unfold wF
 rw [e1,List.map_flatMap,sum_flatM]
 congr 1
 refine List.map_congr_left fun s _ => ?_
 rw [List.map_map]
 congr 1
 refine List.map_congr_left fun c _ => ?_
 show F (nrmS (catS s c)) = _
 rw [nrm_cat]
theorem wM (F:Spl→Int) (f g:List (List Int)):wF F (mulF f g) = wF (fun s => wF (fun u => F (mulS s u)) g) f:=by
 rw [← wF_app]
 exact wF_perm F (jH _)
theorem wF_add (F G:Spl→Int) (f:List (List Int)):wF (fun s => F s + G s) f = wF F f + wF G f:=by
 unfold wF
 induction prodS (f.map split) with
 | nil => rfl
 | cons s L ih => rw [List.map_cons,List.map_cons,List.map_cons,List.sum_cons,List.sum_cons,List.sum_cons,ih];dsimp only;omega
theorem wF_swap (F:Spl→Spl→Int) (f g:List (List Int)):wF (fun s => wF (fun u => F s u) g) f = wF (fun u => wF (fun s => F s u) f) g:=by
 unfold wF
 induction prodS (f.map split) with
 | nil =>
  show (0:Int) = ((prodS (g.map split)).map fun _ => (0:Int)).sum
  induction prodS (g.map split) with
  | nil => rfl
  | cons u L ih => rw [List.map_cons,List.sum_cons,← ih];rfl
 | cons s L ih =>
  rw [List.map_cons,List.sum_cons,ih]
  induction prodS (g.map split) with
  | nil => rfl
  | cons u K ih2 =>
   simp only [List.map_cons,List.sum_cons] at ih2 ⊢
   omega
structure CutOk (f:List (List Int)) (s:Spl):Prop where
 c:OkF s.1
 t:OkF s.2
 n:qQ s.1 + qQ s.2 = qQ f
theorem cut_ok {f:List (List Int)} (h:∀ b ∈ f,qZ b):∀ s ∈ prodS (f.map split),CutOk f (nrmS s):=fun s hs => by
 have k:=(kD h s hs).nrm
 exact ⟨⟨fun t ht => k.1 t (by simp only [List.mem_append];exact .inl ht),kK yF _⟩,⟨fun t ht => k.1 t (by simp only [List.mem_append];exact .inr ht),kK yF _⟩,k.2⟩
theorem kN {F G:Spl→Int} {f:List (List Int)} (h:∀ b ∈ f,qZ b) (e:∀ s,CutOk f s→F s = G s):wF F f = wF G f:=by
 unfold wF
 congr 1
 exact List.map_congr_left fun s hs => e _ (cut_ok h s hs)
theorem vN {F G:Spl→Int} {f:List (List Int)} (h:∀ b ∈ f,qZ b) (e:∀ s,CutOk f s→Eqm (F s) (G s)):Eqm (wF F f) (wF G f):=by
 unfold wF
 exact qU0 fun s hs => e _ (cut_ok h s hs)
theorem OkF.lev {f:List (List Int)} (h:OkF f):∀ b ∈ f,qZ b:=fun b hb => (h.1 b hb).1
theorem okF_nil:OkF []:=⟨fun t ht => (nomatch ht),List.Pairwise.nil⟩
theorem okF_mul {f g:List (List Int)} (hf:OkF f) (hg:OkF g):OkF (mulF f g):=⟨fun t ht => by
  have:t ∈ f ++ g:=(jH (c:=cmpT) (f ++ g)).subset ht
  rcases List.mem_append.1 this with h|h
  ·exact hf.1 t h
  ·exact hg.1 t h,jW0 f g⟩
theorem okF_root {f:List (List Int)} (h:OkF f):OkF (rtF f):=⟨fun t ht => by
  obtain rfl:=List.mem_singleton.1 ht
  have:=vU h.lev
  exact ⟨xG this,wV this⟩,List.pairwise_singleton _ _⟩
theorem rtF_sum {f:List (List Int)} (h:OkF f):qQ (rtF f) = qQ f + 1:=by
 have e:qQ (rtF f) = (canon (qB f)).length:=by simp [rtF,qQ]
 rw [e,wX (vU h.lev),xS]
theorem qV0 {f:List (List Int)} (h:f.Pairwise fun a b => cmpT a b ≤ 0):mulF f [] = f:=by
 unfold mulF
 rw [List.append_nil,xZ0 yF h]
theorem qC0 {f:List (List Int)} (h:f.Pairwise fun a b => cmpT a b ≤ 0):mulF [] f = f:=by rw [mulF_comm,qV0 h]
theorem wO (a b d:List (List Int)):mulF (mulF a b) d = mulF a (mulF b d):=by
 unfold mulF
 refine qN0 yF ?_
 refine ((jH (a ++ b)).append_right d).trans ?_
 rw [List.append_assoc]
 exact (List.perm_append_left_iff a).2 (jH (b ++ d)).symm
theorem mulF_mid (a b d e:List (List Int)):mulF (mulF a b) (mulF d e) = mulF (mulF a d) (mulF b e):=by
 rw [wO,wO,← wO b,← wO d,mulF_comm b d]
theorem canon_sub {t:List Int} (h:qZ t) (hc:canon t = t):∀ b ∈ brs t,canon b = b:=fun b hb => by
 have hl:∀ b ∈ sortC cmpD ((brs t).map canon),qZ b:=fun b hb' => by
  rw [yW,List.mem_map] at hb'
  obtain ⟨x,hx,rfl⟩:=hb'
  exact xG (jC h x hx)
 have e:brs t = sortC cmpD ((brs t).map canon):=by
  conv => lhs;rw [← hc,kY h]
  exact wP hl
 rw [e,yW,List.mem_map] at hb
 obtain ⟨x,hx,rfl⟩:=hb
 exact wV (jC h x hx)
theorem tree_root {t:List Int} (h:qZ t) (hc:canon t = t):OkF (forest (brs t))∧rtF (forest (brs t)) = [t]∧qQ (forest (brs t)) + 1 = t.length:=by
 refine ⟨⟨fun b hb => ?_,kK yF _⟩,?_,?_⟩
 ·have hb:=yW.1 hb
  exact ⟨jC h b hb,canon_sub h hc b hb⟩
 ·unfold rtF forest
  rw [canon_root (bs:=sortC cmpT (brs t)) (cs:=brs t) (fun b hb => jC h b (yW.1 hb)) (jH _),jS0 h,hc]
 ·unfold forest
  rw [vD (jH _),kG h]
theorem jY0 {P:List (List Int)→Prop} (h0:P []) (hr:∀ g,OkF g→P g→P (rtF g)) (hm:∀ f g,OkF f→OkF g→P f→P g→P (mulF f g)):∀ f,OkF f→P f:=by
 have key:∀ (n:Nat) (f:List (List Int)),qQ f ≤ n→OkF f→P f:=by
  intro n
  induction n with
  | zero =>
   intro f hn hf
   cases f with
   | nil => exact h0
   | cons t f =>
    have:=(hf.1 t (by simp)).1.pos
    have hs:qQ (t :: f) = t.length + qQ f:=by simp [qQ]
    omega
  | succ n ih =>
   intro f hn hf
   cases f with
   | nil => exact h0
   | cons t f =>
    obtain ⟨ht,htc⟩:=hf.1 t (by simp)
    have hf':OkF f:=⟨fun x hx => hf.1 x (by simp [hx]),(List.pairwise_cons.1 hf.2).2⟩
    have hp:=ht.pos
    have hs:qQ (t :: f) = t.length + qQ f:=by simp [qQ]
    obtain ⟨a1,a2,a3⟩:=tree_root ht htc
    have h1:P [t]:=by
     rw [← a2]
     exact hr _ a1 (ih _ (by omega) a1)
    have h2:P f:=ih f (by omega) hf'
    have e:t :: f = mulF [t] f:=(xZ0 yF hf.2).symm
    rw [e]
    exact hm [t] f ⟨fun x hx => by obtain rfl:=List.mem_singleton.1 hx;exact ⟨ht,htc⟩,List.pairwise_singleton _ _⟩ hf' h1 h2
 exact fun f hf => key _ f (Nat.le_refl _) hf
def L3 (F:List (List Int)→List (List Int)→List (List Int)→Int) (f:List (List Int)):Int:=wF (fun s => wF (fun u => F u.1 u.2 s.2) s.1) f
def R3 (F:List (List Int)→List (List Int)→List (List Int)→Int) (f:List (List Int)):Int:=wF (fun s => wF (fun u => F s.1 u.1 u.2) s.2) f
theorem L3_root (F:List (List Int)→List (List Int)→List (List Int)→Int) {g:List (List Int)} (hg:OkF g):L3 F (rtF g) = L3 (fun a b c => F a b (rtF c)) g + (wF (fun u => F u.1 (rtF u.2) []) g + F (rtF g) [] []):=by
 have a1:L3 F (rtF g) = wF (fun s => wF (fun u => F u.1 u.2 (rtF s.2)) s.1) g + wF (fun u => F u.1 u.2 []) (rtF g):=wR (fun s => wF (fun u => F u.1 u.2 s.2) s.1) hg.lev
 have a2:wF (fun u => F u.1 u.2 []) (rtF g) = wF (fun u => F u.1 (rtF u.2) []) g + F (rtF g) [] []:=wR (fun u => F u.1 u.2 []) hg.lev
 rw [a1,a2];rfl
theorem R3_root (F:List (List Int)→List (List Int)→List (List Int)→Int) {g:List (List Int)} (hg:OkF g):R3 F (rtF g) = R3 (fun a b c => F a b (rtF c)) g + wF (fun s => F s.1 (rtF s.2) []) g + F (rtF g) [] []:=by
 have b1:R3 F (rtF g) = wF (fun s => wF (fun u => F s.1 u.1 u.2) (rtF s.2)) g + wF (fun u => F (rtF g) u.1 u.2) []:=wR (fun s => wF (fun u => F s.1 u.1 u.2) s.2) hg.lev
 have b2:wF (fun s => wF (fun u => F s.1 u.1 u.2) (rtF s.2)) g = wF (fun s => wF (fun u => F s.1 u.1 (rtF u.2)) s.2 + F s.1 (rtF s.2) []) g:=kN hg.lev fun s hs => wR (fun u => F s.1 u.1 u.2) hs.t.lev
 have b3:=wF_add (fun s => wF (fun u => F s.1 u.1 (rtF u.2)) s.2) (fun s => F s.1 (rtF s.2) []) g
 have b4:=kH (fun u => F (rtF g) u.1 u.2)
 rw [b1,b2,b3,b4];rfl
theorem L3_mul (F:List (List Int)→List (List Int)→List (List Int)→Int) {x y:List (List Int)} (hx:OkF x) (hy:OkF y):L3 F (mulF x y) = L3 (fun a b c => L3 (fun a' b' c' => F (mulF a a') (mulF b b') (mulF c c')) y) x:=by
 refine (wM (fun s => wF (fun u => F u.1 u.2 s.2) s.1) x y).trans ?_
 refine kN hx.lev fun s hs => ?_
 refine Eq.trans ?_ (wF_swap (fun v u => wF (fun v' => F (mulF v.1 v'.1) (mulF v.2 v'.2) (mulF s.2 u.2)) u.1) s.1 y).symm
 refine kN hy.lev fun u hu => ?_
 exact wM (fun v => F v.1 v.2 (mulF s.2 u.2)) s.1 u.1
theorem R3_mul (F:List (List Int)→List (List Int)→List (List Int)→Int) {x y:List (List Int)} (hx:OkF x) (hy:OkF y):R3 F (mulF x y) = R3 (fun a b c => R3 (fun a' b' c' => F (mulF a a') (mulF b b') (mulF c c')) y) x:=by
 refine (wM (fun s => wF (fun u => F s.1 u.1 u.2) s.2) x y).trans ?_
 refine kN hx.lev fun s hs => ?_
 refine Eq.trans ?_ (wF_swap (fun v u => wF (fun v' => F (mulF s.1 u.1) (mulF v.1 v'.1) (mulF v.2 v'.2)) u.2) s.2 y).symm
 refine kN hy.lev fun u hu => ?_
 exact wM (fun v => F (mulF s.1 u.1) v.1 v.2) s.2 u.2
theorem coassoc:∀ f,OkF f→∀ F,L3 F f = R3 F f:=by
 refine jY0 (fun F => ?_) (fun g hg ih F => ?_) (fun x y hx hy ihx ihy F => ?_)
 ·have a1:=kH (fun s => wF (fun u => F u.1 u.2 s.2) s.1)
  have a2:=kH (fun u => F u.1 u.2 [])
  have b1:=kH (fun s => wF (fun u => F s.1 u.1 u.2) s.2)
  have b2:=kH (fun u => F [] u.1 u.2)
  exact a1.trans (a2.trans (b1.trans b2).symm)
 ·rw [L3_root F hg,R3_root F hg,ih,Int.add_assoc]
 ·have e3:(fun a b c => L3 (fun a' b' c' => F (mulF a a') (mulF b b') (mulF c c')) y) = fun a b c => R3 (fun a' b' c' => F (mulF a a') (mulF b b') (mulF c c')) y:=by
   funext a b c
   exact ihy _
  rw [L3_mul F hx hy,ihx,e3,R3_mul F hx hy]
theorem counit1:∀ f,OkF f→∀ H:List (List Int)→Int,wF (fun s => if s.1 = [] then H s.2 else 0) f = H f:=by
 refine jY0 (fun H => ?_) (fun g hg ih H => ?_) (fun x y hx hy ihx ihy H => ?_)
 ·rw [kH];rfl
 ·refine (wR (fun s => if s.1 = [] then H s.2 else 0) hg.lev).trans ?_
  have:=ih fun z => H (rtF z)
  show wF (fun s => if s.1 = [] then H (rtF s.2) else 0) g + (if rtF g = [] then H [] else 0) = _
  rw [this,if_neg (by simp [rtF])]
  omega
 ·refine (wM (fun s => if s.1 = [] then H s.2 else 0) x y).trans ?_
  have e:∀ s:Spl,wF (fun u => if (mulS s u).1 = [] then H (mulS s u).2 else 0) y = if s.1 = [] then H (mulF s.2 y) else 0:=fun s => by
   have hl:∀ u:Spl,((mulS s u).1 = []) ↔ (s.1 = []∧u.1 = []):=fun u => by
    show mulF s.1 u.1 = [] ↔ _
    constructor
    ·intro h
     have:=congrArg List.length h
     rw [wJ,List.length_nil] at this
     exact ⟨List.eq_nil_of_length_eq_zero (by omega),List.eq_nil_of_length_eq_zero (by omega)⟩
    ·rintro ⟨h1,h2⟩
     rw [h1,h2];rfl
   by_cases h1:s.1 = []
   ·rw [if_pos h1,← ihy fun z => H (mulF s.2 z)]
    refine kN hy.lev fun u _ => ?_
    by_cases h2:u.1 = []
    ·rw [if_pos ((hl u).2 ⟨h1,h2⟩),if_pos h2];rfl
    ·rw [if_neg (fun h => h2 ((hl u).1 h).2),if_neg h2]
   ·rw [if_neg h1]
    have:wF (fun u => if (mulS s u).1 = [] then H (mulS s u).2 else 0) y = wF (fun _ => 0) y:=kN hy.lev fun u _ => by rw [if_neg (fun h => h1 ((hl u).1 h).1)]
    rw [this]
    unfold wF
    induction prodS (y.map split) with
    | nil => rfl
    | cons a L ih => rw [List.map_cons,List.sum_cons,ih];rfl
  have e2:(fun s => wF (fun u => if (mulS s u).1 = [] then H (mulS s u).2 else 0) y) = fun s:Spl => if s.1 = [] then H (mulF s.2 y) else 0:=by funext s;exact e s
  rw [e2]
  exact ihx fun z => H (mulF z y)
theorem counit2:∀ f,OkF f→∀ H:List (List Int)→Int,wF (fun s => if s.2 = [] then H s.1 else 0) f = H f:=by
 refine jY0 (fun H => ?_) (fun g hg ih H => ?_) (fun x y hx hy ihx ihy H => ?_)
 ·rw [kH];rfl
 ·refine (wR (fun s => if s.2 = [] then H s.1 else 0) hg.lev).trans ?_
  have e:wF (fun s => if (rootS s).2 = [] then H (rootS s).1 else 0) g = 0:=by
   have:wF (fun s => if (rootS s).2 = [] then H (rootS s).1 else 0) g = wF (fun _ => 0) g:=kN hg.lev fun u _ => by rw [if_neg (by simp [rootS])]
   rw [this]
   unfold wF
   induction prodS (g.map split) with
   | nil => rfl
   | cons a L ih => rw [List.map_cons,List.sum_cons,ih];rfl
  show wF (fun s => if (rootS s).2 = [] then H (rootS s).1 else 0) g + (if ([]:List (List Int)) = [] then H (rtF g) else 0) = _
  rw [e,if_pos rfl]
  omega
 ·refine (wM (fun s => if s.2 = [] then H s.1 else 0) x y).trans ?_
  have e:∀ s:Spl,wF (fun u => if (mulS s u).2 = [] then H (mulS s u).1 else 0) y = if s.2 = [] then H (mulF s.1 y) else 0:=fun s => by
   have hl:∀ u:Spl,((mulS s u).2 = []) ↔ (s.2 = []∧u.2 = []):=fun u => by
    show mulF s.2 u.2 = [] ↔ _
    constructor
    ·intro h
     have:=congrArg List.length h
     rw [wJ,List.length_nil] at this
     exact ⟨List.eq_nil_of_length_eq_zero (by omega),List.eq_nil_of_length_eq_zero (by omega)⟩
    ·rintro ⟨h1,h2⟩
     rw [h1,h2];rfl
   by_cases h1:s.2 = []
   ·rw [if_pos h1,← ihy fun z => H (mulF s.1 z)]
    refine kN hy.lev fun u _ => ?_
    by_cases h2:u.2 = []
    ·rw [if_pos ((hl u).2 ⟨h1,h2⟩),if_pos h2];rfl
    ·rw [if_neg (fun h => h2 ((hl u).1 h).2),if_neg h2]
   ·rw [if_neg h1]
    have:wF (fun u => if (mulS s u).2 = [] then H (mulS s u).1 else 0) y = wF (fun _ => 0) y:=kN hy.lev fun u _ => by rw [if_neg (fun h => h1 ((hl u).1 h).1)]
    rw [this]
    unfold wF
    induction prodS (y.map split) with
    | nil => rfl
    | cons a L ih => rw [List.map_cons,List.sum_cons,ih];rfl
  have e2:(fun s => wF (fun u => if (mulS s u).2 = [] then H (mulS s u).1 else 0) y) = fun s:Spl => if s.2 = [] then H (mulF s.1 y) else 0:=by funext s;exact e s
  rw [e2]
  exact ihx fun z => H (mulF z y)
def stepA (g:List Int→Elt) (out:Elt) (t:List Int):Elt:=sumS cmpF (prodL out (g t))
def antF (g:List Int→Elt) (f:List (List Int)):Elt:=f.foldl (stepA g) [(1,[])]
def cutE (g:List Int→Elt) (c:Cu):Elt:=if c.1.2 = [] then [] else sumS cmpF (prodL (antF g c.1.1) [(mP (-c.2),[c.1.2])])
def antT:Nat→List Int→Elt
 | 0,_ => []
 | n + 1,t => sumS cmpF ((cutsL t).flatMap (cutE (antT n)))
def ant1 (t:List Int):Elt:=antT t.length t
def ant (f:List (List Int)):Elt:=antF ant1 f
def sF (F:List (List Int)→Int) (f:List (List Int)):Int:=lin F (ant f)
theorem antF_congr {g g':List Int→Elt} {f:List (List Int)} (h:∀ t ∈ f,g t = g' t):antF g f = antF g' f:=by
 unfold antF
 have key:∀ (f:List (List Int)) (out:Elt),(∀ t ∈ f,g t = g' t)→f.foldl (stepA g) out = f.foldl (stepA g') out:=by
  intro f
  induction f with
  | nil => intro out _;rfl
  | cons t f ih =>
   intro out h
   rw [List.foldl_cons,List.foldl_cons,ih _ fun x hx => h x (by simp [hx])]
   congr 1
   unfold stepA
   rw [h t (by simp)]
 exact key f _ h
theorem wY {t:List Int} (h:qZ t) {c:Cu} (hc:c ∈ cutsL t):∃ z ∈ gathS (split t),c = cutS z∧yS t.length z.1∧1 ≤ z.2∧((z.1.2 = []∧c.1.2 = []) ∨ (c.1.2 ≠ []∧z.1.2 = [c.1.2])):=by
 unfold cutsL at hc
 obtain ⟨z,hz,rfl⟩:=List.mem_map.1 hc
 obtain ⟨k1,_,k⟩:=kI (xI _ (Nat.le_refl _) h) z hz
 have hl:=jL0 t h z hz
 refine ⟨z,hz,rfl,k,k1,?_⟩
 obtain ⟨⟨cr,tr⟩,n⟩:=z
 match tr,hl with
 | [],_ => exact .inl ⟨rfl,rfl⟩
 | [T],_ =>
  refine .inr ⟨fun e => ?_,rfl⟩
  have e:T = []:=e
  have:=(k.1 T (by simp)).1.pos
  rw [e] at this;simp at this
theorem antT_fuel:∀ (n m:Nat) {t:List Int},qZ t→t.length ≤ n→t.length ≤ m→antT n t = antT m t:=by
 have key:∀ (k n m:Nat) (t:List Int),qZ t→t.length ≤ k→t.length ≤ n→t.length ≤ m→antT n t = antT m t:=by
  intro k
  induction k with
  | zero => intro n m t h hk;have:=h.pos;omega
  | succ k ih =>
   intro n m t h hk hn hm
   have hp:=h.pos
   obtain ⟨n,rfl⟩:∃ n',n = n' + 1:=⟨n - 1,by omega⟩
   obtain ⟨m,rfl⟩:∃ m',m = m' + 1:=⟨m - 1,by omega⟩
   unfold antT
   congr 1
   have e:∀ c ∈ cutsL t,cutE (antT n) c = cutE (antT m) c:=fun c hc => by
    obtain ⟨z,hz,rfl,hg,_,h1⟩:=wY h hc
    unfold cutE
    rcases h1 with ⟨_,h1⟩|⟨h1,h2⟩
    ·rw [if_pos h1,if_pos h1]
    ·rw [if_neg h1,if_neg h1,antF_congr fun x hx => ?_]
     have hx':x ∈ z.1.1:=hx
     have a1:=jK hx'
     have a2:=hg.2
     have a3:qQ z.1.2 = (cutS z).1.2.length:=by rw [h2];simp [qQ]
     have a4:=hg.1 (cutS z).1.2 (by rw [h2];simp)
     have a5:=a4.1.pos
     exact ih n m x (hg.1 x (by simp [hx'])).1 (by omega) (by omega) (by omega)
   clear ih
   generalize cutsL t = C at e
   induction C with
   | nil => rfl
   | cons c C ihC => rw [List.flatMap_cons,List.flatMap_cons,e c (by simp),ihC fun x hx => e x (by simp [hx])]
 intro n m t h h1 h2
 exact key t.length n m t h (Nat.le_refl _) h1 h2
def SrtE (L:Elt):Prop:=∀ q ∈ L,q.2.Pairwise fun a b => cmpT a b ≤ 0
theorem jN0 {d e:Elt}:SrtE (sumS cmpF (prodL d e)):=fun q hq => by
 obtain ⟨p,hp,e1⟩:=kR hq
 rw [← e1]
 unfold prodL at hp
 obtain ⟨a,_,hp⟩:=List.mem_flatMap.1 hp
 obtain ⟨b,_,rfl⟩:=List.mem_map.1 hp
 exact jW0 _ _
theorem srt_one:SrtE [(1,[])]:=fun q hq => by
 obtain rfl:=List.mem_singleton.1 hq
 exact List.Pairwise.nil
theorem srt_antT:∀ (n:Nat) (t:List Int),SrtE (antT n t)
 | 0,_ => fun q hq => nomatch hq
 | n + 1,t => fun q hq => by
  unfold antT at hq
  obtain ⟨p,hp,e1⟩:=kR hq
  rw [← e1]
  obtain ⟨c,_,hp⟩:=List.mem_flatMap.1 hp
  unfold cutE at hp
  split at hp
  ·cases hp
  ·exact jN0 p hp
theorem srt_fold (g:List Int→Elt):∀ (f:List (List Int)) (out:Elt),SrtE out→SrtE (f.foldl (stepA g) out)
 | [],out,h => h
 | t :: f,out,_ => srt_fold g f (stepA g out t) jN0
theorem srt_ant (f:List (List Int)):SrtE (ant f):=srt_fold ant1 f _ srt_one
theorem lin_srt {F G:List (List Int)→Int} {L:Elt} (hL:SrtE L) (h:∀ a:List (List Int),a.Pairwise (fun a b => cmpT a b ≤ 0)→Eqm (F a) (G a)):Eqm (lin F L) (lin G L):=jB0 fun q hq => h q.2 (hL q hq)
theorem lin_step (F:List (List Int)→Int) (g:List Int→Elt) (out:Elt) (t:List Int):Eqm (lin F (stepA g out t)) (lin (fun x => lin (fun y => F (mulF x y)) (g t)) out):=(xM jV F _).trans (jK0 F out (g t))
theorem lin_fold {g:List Int→Elt} (hg:∀ t,SrtE (g t)):∀ (f:List (List Int)) (out:Elt),SrtE out→∀ F:List (List Int)→Int,Eqm (lin F (f.foldl (stepA g) out)) (lin (fun a => lin (fun b => F (mulF a b)) (antF g f)) out)
 | [],out,ho,F => lin_srt ho fun a ha => Eqm.of (by
   show F a = 1 * F (mulF a []) + 0
   rw [qV0 ha];omega)
 | t :: f,out,ho,F => by
  have h1:=lin_fold hg f (stepA g out t) jN0 F
  refine h1.trans ((lin_step _ g out t).trans ?_)
  refine lin_srt ho fun a ha => ?_
  have h2:=lin_fold hg f (stepA g [(1,[])] t) jN0 fun b => F (mulF a b)
  have e:antF g (t :: f) = f.foldl (stepA g) (stepA g [(1,[])] t):=rfl
  rw [e]
  refine Eqm.symm (h2.trans ((lin_step _ g [(1,[])] t).trans ?_))
  show Eqm (1 * _ + 0) _
  rw [Int.one_mul,Int.add_zero]
  refine lin_srt (hg t) fun y hy => Eqm.of ?_
  rw [qC0 hy]
  congr 1
  funext b
  rw [wO]
theorem srt_ant1 (t:List Int):SrtE (ant1 t):=srt_antT _ t
theorem vW (F:List (List Int)→Int):sF F [] = F []:=by
 show 1 * F [] + 0 = _
 omega
theorem sF_cons (F:List (List Int)→Int) (t:List Int) (f:List (List Int)):Eqm (sF F (t :: f)) (lin (fun a => sF (fun b => F (mulF a b)) f) (ant1 t)):=by
 have h:=lin_fold srt_ant1 f (stepA ant1 [(1,[])] t) jN0 F
 refine (show Eqm (sF F (t :: f)) _ from h).trans ((lin_step _ ant1 [(1,[])] t).trans ?_)
 show Eqm (1 * _ + 0) _
 rw [Int.one_mul,Int.add_zero]
 exact lin_srt (srt_ant1 t) fun y hy => Eqm.of (by rw [qC0 hy];rfl)
theorem xL {F G:List (List Int)→Int} (f:List (List Int)) (h:∀ a:List (List Int),a.Pairwise (fun a b => cmpT a b ≤ 0)→Eqm (F a) (G a)):Eqm (sF F f) (sF G f):=lin_srt (srt_ant f) h
theorem sF_one (F:List (List Int)→Int) (t:List Int):Eqm (sF F [t]) (lin F (ant1 t)):=(sF_cons F t []).trans (lin_srt (srt_ant1 t) fun a ha => Eqm.of (by rw [vW,qV0 ha]))
theorem sF_app (F:List (List Int)→Int) (f g:List (List Int)):Eqm (sF F (f ++ g)) (sF (fun a => sF (fun b => F (mulF a b)) g) f):=by
 have h:=lin_fold srt_ant1 g (ant f) (srt_ant f) F
 have e:ant (f ++ g) = g.foldl (stepA ant1) (ant f):=by unfold ant antF;rw [List.foldl_append]
 unfold sF
 rw [e]
 exact h
theorem sF_perm {f g:List (List Int)} (h:f.Perm g):∀ F:List (List Int)→Int,Eqm (sF F f) (sF F g):=by
 induction h with
 | nil => intro F;exact Eqm.refl _
 | cons t _ ih => intro F;exact (sF_cons F t _).trans ((jB0 fun q _ => ih _).trans (sF_cons F t _).symm)
 | swap a b l =>
  intro F
  have key:∀ a b:List Int,Eqm (sF F (a :: b :: l)) (lin (fun x => lin (fun y => sF (fun z => F (mulF x (mulF y z))) l) (ant1 b)) (ant1 a)):=fun a b => (sF_cons F a _).trans (jB0 fun q _ => sF_cons _ b l)
  refine (key b a).trans (Eqm.trans (Eqm.of ?_) (key a b).symm)
  rw [lin_swap]
  congr 1
  funext x
  congr 1
  funext y
  congr 1
  funext z
  rw [← wO,← wO,mulF_comm x y]
 | trans _ _ h1 h2 => intro F;exact (h1 F).trans (h2 F)
theorem sF_mulF (F:List (List Int)→Int) (f g:List (List Int)):Eqm (sF F (mulF f g)) (sF (fun a => sF (fun b => F (mulF a b)) g) f):=(sF_perm (jH (c:=cmpT) (f ++ g)) F).trans (sF_app F f g)
theorem sF_wF (G:Spl→List (List Int)→Int) (f g:List (List Int)):sF (fun a => wF (fun s => G s a) f) g = wF (fun s => sF (fun a => G s a) g) f:=by
 unfold wF sF
 induction prodS (f.map split) with
 | nil =>
  show lin (fun _ => 0) (ant g) = 0
  induction ant g with
  | nil => rfl
  | cons q L ih => rw [jP,ih];omega
 | cons s L ih =>
  rw [List.map_cons,List.sum_cons,← ih]
  clear ih
  induction ant g with
  | nil => rfl
  | cons q K ih =>
   simp only [jP,List.map_cons,List.sum_cons,Int.mul_add] at ih ⊢
   omega
theorem wF_one (H:Spl→Int) (t:List Int):wF H [t] = ((split t).map fun s => H (nrmS s)).sum:=by
 have e1:prodS ([t].map split) = split t:=by
  show List.flatMap (fun s => (split t).map (catS s)) [([],[])] = _
  rw [List.flatMap_cons,List.flatMap_nil,List.append_nil]
  have:catS (([],[]):Spl) = id:=by funext s;rfl
  rw [this,List.map_id]
 unfold wF
 rw [e1]
theorem neg_sum {α:Type} (f:α→Int):∀ (L:List α),(L.map fun a => -f a).sum = -(L.map f).sum
 | [] => rfl
 | a :: L => by rw [List.map_cons,List.map_cons,List.sum_cons,List.sum_cons,neg_sum f L];omega
theorem lin_ant1 (F:List (List Int)→Int) {t:List Int} (h:qZ t):Eqm (lin F (ant1 t)) (-wF (fun s => if s.2 = [] then 0 else sF (fun a => F (mulF a s.2)) s.1) [t]):=by
 have hp:=h.pos
 obtain ⟨n,hn⟩:∃ n,t.length = n + 1:=⟨t.length - 1,by omega⟩
 have e0:ant1 t = sumS cmpF ((cutsL t).flatMap (cutE (antT n))):=by unfold ant1;rw [hn];rfl
 rw [e0]
 refine (xM jV F _).trans ?_
 have hw:wF (fun s => if s.2 = [] then 0 else sF (fun a => F (mulF a s.2)) s.1) [t] = ((gathS (split t)).map fun z => z.2 * (if z.1.2 = [] then 0 else sF (fun a => F (mulF a z.1.2)) z.1.1)).sum:=(wF_one _ t).trans (gath_lin (fun s => if s.2 = [] then 0 else sF (fun a => F (mulF a s.2)) s.1) (split t)).symm
 rw [qS0,hw]
 have e1:cutsL t = (gathS (split t)).map cutS:=rfl
 rw [e1,List.map_map,← neg_sum]
 refine qU0 fun z hz => ?_
 obtain ⟨z',hz',e,hg,hz1,h1⟩:=wY h (c:=cutS z) (by rw [e1];exact List.mem_map.2 ⟨z,hz,rfl⟩)
 have hgz:=(kI (xI _ (Nat.le_refl _) h) z hz).2.2
 have htr:=jL0 t h z hz
 show Eqm (lin F (cutE (antT n) (cutS z))) _
 obtain ⟨⟨cr,tr⟩,k⟩:=z
 simp only at hgz htr ⊢
 match tr,htr,hgz with
 | [],_,_ =>
  refine Eqm.of ?_
  show lin F (cutE (antT n) ((cr,[]),k)) = -(k * (if ([]:List (List Int)) = [] then 0 else _))
  unfold cutE
  rw [if_pos rfl,if_pos rfl]
  simp [lin]
 | [T],_,hgz =>
  have hT:=hgz.1 T (by simp)
  have hTp:=hT.1.pos
  have hTn:T ≠ []:=fun e => by rw [e] at hTp;simp at hTp
  show Eqm (lin F (cutE (antT n) ((cr,T),k))) (-(k * (if [T] = [] then 0 else sF (fun a => F (mulF a [T])) cr)))
  unfold cutE
  rw [if_neg hTn,if_neg (by simp)]
  have ef:antF (antT n) cr = ant cr:=antF_congr fun x hx => by
   have a1:=jK hx
   have a2:=hgz.2
   have a3:qQ [T] = T.length:=by simp [qQ]
   exact antT_fuel _ _ (hgz.1 x (by simp [hx])).1 (by simp only at a2;omega) (Nat.le_refl _)
  rw [ef]
  refine (xM jV F _).trans ((jK0 F _ _).trans ?_)
  have e2:(fun x => lin (fun y => F (mulF x y)) [(mP (-k),[T])]) = fun x => mP (-k) * F (mulF x [T]):=by
   funext x
   show mP (-k) * F (mulF x [T]) + 0 = _
   omega
  show Eqm (lin (fun x => lin (fun y => F (mulF x y)) [(mP (-k),[T])]) (ant cr)) _
  rw [e2,lin_scale]
  have:=(eqm_mP (-k)).mulR (sF (fun a => F (mulF a [T])) cr)
  rw [Int.neg_mul] at this
  exact this
def epsF (F:List (List Int)→Int) (f:List (List Int)):Int:=if f = [] then F [] else 0
def lI (F:List (List Int)→Int) (f:List (List Int)):Int:=wF (fun s => sF (fun a => F (mulF a s.2)) s.1) f
def rI (F:List (List Int)→Int) (f:List (List Int)):Int:=wF (fun s => sF (fun b => F (mulF s.1 b)) s.2) f
theorem mulF_eq_nil {x y:List (List Int)}:mulF x y = [] ↔ x = []∧y = []:=by
 constructor
 ·intro h
  have:=congrArg List.length h
  rw [wJ,List.length_nil] at this
  exact ⟨List.eq_nil_of_length_eq_zero (by omega),List.eq_nil_of_length_eq_zero (by omega)⟩
 ·rintro ⟨rfl,rfl⟩;rfl
theorem left_inv:∀ f,OkF f→∀ F,Eqm (lI F f) (epsF F f):=by
 refine jY0 (fun F => ?_) (fun g hg ih F => ?_) (fun x y hx hy ihx ihy F => ?_)
 ·refine Eqm.of ?_
  unfold lI epsF
  rw [kH,vW,if_pos rfl];rfl
 ·have hr:=okF_root hg
  have e0:rtF g = [canon (qB g)]:=rfl
  have hlv:=(hr.1 (canon (qB g)) (by rw [e0];simp)).1
  have h1:=lin_ant1 F hlv
  have h2:=(sF_one F (canon (qB g))).trans h1
  unfold lI epsF
  rw [if_neg (by simp [rtF])]
  rw [← e0] at h2
  have a1:wF (fun s => sF (fun a => F (mulF a s.2)) s.1) (rtF g) = wF (fun s => if s.2 = [] then 0 else sF (fun a => F (mulF a s.2)) s.1) (rtF g) + wF (fun s => if s.2 = [] then sF (fun a => F (mulF a s.2)) s.1 else 0) (rtF g):=by
   rw [← wF_add]
   congr 1
   funext s
   split <;> omega
  have a2:wF (fun s => if s.2 = [] then sF (fun a => F (mulF a s.2)) s.1 else 0) (rtF g) = sF (fun a => F (mulF a [])) (rtF g):=by
   have:=counit2 (rtF g) hr fun z => sF (fun a => F (mulF a [])) z
   rw [← this]
   congr 1
   funext s
   by_cases h:s.2 = []
   ·rw [if_pos h,if_pos h,h]
   ·rw [if_neg h,if_neg h]
  have a3:Eqm (sF (fun a => F (mulF a [])) (rtF g)) (sF F (rtF g)):=xL _ fun a ha => Eqm.of (by rw [qV0 ha])
  rw [a1,a2]
  obtain ⟨i,hi⟩:=a3.trans h2
  exact ⟨i,by omega⟩
 ·unfold lI
  rw [wM]
  have e:∀ s,CutOk x s→Eqm (wF (fun u => sF (fun a => F (mulF a (mulS s u).2)) (mulS s u).1) y) (sF (fun a => epsF (fun z => F (mulF (mulF a s.2) z)) y) s.1):=fun s hs => by
   have e1:∀ u,CutOk y u→Eqm (sF (fun a => F (mulF a (mulS s u).2)) (mulS s u).1) (sF (fun a => sF (fun b => F (mulF (mulF a s.2) (mulF b u.2))) u.1) s.1):=fun u hu => by
    refine (show Eqm (sF (fun a => F (mulF a (mulF s.2 u.2))) (mulF s.1 u.1)) _ from sF_mulF _ _ _).trans ?_
    refine xL _ fun a _ => xL _ fun b _ => Eqm.of ?_
    rw [mulF_mid]
   refine (vN hy.lev e1).trans ?_
   rw [← sF_wF]
   exact xL _ fun a _ => ihy fun z => F (mulF (mulF a s.2) z)
  refine (vN hx.lev e).trans ?_
  by_cases hy0:y = []
  ·subst hy0
   have e2:∀ s,CutOk x s→Eqm (sF (fun a => epsF (fun z => F (mulF (mulF a s.2) z)) []) s.1) (sF (fun a => F (mulF a s.2)) s.1):=fun s hs => xL _ fun a _ => Eqm.of (by
    show (if ([]:List (List Int)) = [] then F (mulF (mulF a s.2) []) else 0) = _
    rw [if_pos rfl,qV0 (jW0 _ _)])
   refine (vN hx.lev e2).trans ((ihx F).trans (Eqm.of ?_))
   rw [qV0 hx.2]
  ·have e2:∀ s,CutOk x s→Eqm (sF (fun a => epsF (fun z => F (mulF (mulF a s.2) z)) y) s.1) 0:=fun s hs => by
    have:(fun a => epsF (fun z => F (mulF (mulF a s.2) z)) y) = fun _ => 0:=by
     funext a
     unfold epsF
     rw [if_neg hy0]
    rw [this]
    refine Eqm.of ?_
    unfold sF
    induction ant s.1 with
    | nil => rfl
    | cons q L ih => rw [jP,ih];omega
   refine (vN hx.lev e2).trans (Eqm.of ?_)
   unfold epsF
   rw [if_neg (fun h => hy0 (mulF_eq_nil.1 h).2)]
   unfold wF
   induction prodS (x.map split) with
   | nil => rfl
   | cons a L ih => rw [List.map_cons,List.sum_cons,ih];rfl
theorem sF_zero (f:List (List Int)):sF (fun _ => 0) f = 0:=by
 unfold sF
 induction ant f with
 | nil => rfl
 | cons q L ih => rw [jP,ih];omega
theorem sF_eps (F:List (List Int)→Int) (G:List (List Int)→List (List Int)→Int) (f g:List (List Int)):sF (fun p => epsF (G p) g) f = if g = [] then sF (fun p => G p []) f else 0:=by
 by_cases h:g = []
 ·subst h
  rw [if_pos rfl]
  rfl
 ·rw [if_neg h]
  have:(fun p => epsF (G p) g) = fun _ => 0:=by funext p;unfold epsF;rw [if_neg h]
  rw [this,sF_zero]
theorem right_inv:∀ f,OkF f→∀ F,Eqm (rI F f) (epsF F f):=by
 have key:∀ (n:Nat) (f:List (List Int)),qQ f ≤ n→OkF f→∀ F,Eqm (rI F f) (epsF F f):=by
  intro n
  induction n with
  | zero =>
   intro f hn hf F
   have h0:f = []:=by
    cases f with
    | nil => rfl
    | cons t f =>
     have:=(hf.1 t (by simp)).1.pos
     have hs:qQ (t :: f) = t.length + qQ f:=by simp [qQ]
     omega
   subst h0
   refine Eqm.of ?_
   unfold rI epsF
   rw [kH,vW,if_pos rfl];rfl
  | succ n ih =>
   intro f hn hf F
   by_cases hle:qQ f ≤ n
   ·exact ih f hle hf F
   have hfn:qQ f = n + 1:=by omega
   have hco:=coassoc f hf fun a b c => sF (fun p => sF (fun q => F (mulF (mulF p b) q)) c) a
   have hL:Eqm (L3 (fun a b c => sF (fun p => sF (fun q => F (mulF (mulF p b) q)) c) a) f) (sF F f):=by
    unfold L3
    have e1:∀ s,CutOk f s→Eqm (wF (fun u => sF (fun p => sF (fun q => F (mulF (mulF p u.2) q)) s.2) u.1) s.1) (if s.1 = [] then sF F s.2 else 0):=fun s hs => by
     have h:=left_inv s.1 hs.c fun z => sF (fun q => F (mulF z q)) s.2
     refine (show Eqm (wF (fun u => sF (fun p => sF (fun q => F (mulF (mulF p u.2) q)) s.2) u.1) s.1) _ from h).trans ?_
     unfold epsF
     by_cases h0:s.1 = []
     ·rw [if_pos h0,if_pos h0]
      exact xL _ fun a ha => Eqm.of (by rw [qC0 ha])
     ·rw [if_neg h0,if_neg h0];exact Eqm.refl _
    exact (vN hf.lev e1).trans (Eqm.of (counit1 f hf fun z => sF F z))
   have hR:Eqm (R3 (fun a b c => sF (fun p => sF (fun q => F (mulF (mulF p b) q)) c) a) f) (sF F f + (rI F f - epsF F f)):=by
    unfold R3
    have e1:∀ s,CutOk f s→Eqm (wF (fun u => sF (fun p => sF (fun q => F (mulF (mulF p u.1) q)) u.2) s.1) s.2) ((if s.2 = [] then sF F s.1 else 0) + (if s.1 = [] then rI F s.2 - epsF F s.2 else 0)):=fun s hs => by
     rw [← sF_wF (fun u p => sF (fun q => F (mulF (mulF p u.1) q)) u.2)]
     have e2:∀ p:List (List Int),wF (fun u => sF (fun q => F (mulF (mulF p u.1) q)) u.2) s.2 = rI (fun z => F (mulF p z)) s.2:=fun p => by
      unfold rI
      congr 1
      funext u
      congr 1
      funext q
      rw [wO]
     have e3:(fun p => wF (fun u => sF (fun q => F (mulF (mulF p u.1) q)) u.2) s.2) = fun p => rI (fun z => F (mulF p z)) s.2:=by funext p;exact e2 p
     rw [e3]
     by_cases h0:s.1 = []
     ·rw [if_pos h0,h0,vW]
      have e4:(fun z => F (mulF [] z)) = fun z => F (mulF [] z):=rfl
      have e5:Eqm (rI (fun z => F (mulF [] z)) s.2) (rI F s.2):=vN hs.t.lev fun u hu => xL _ fun b hb => Eqm.of (congrArg F (qC0 (jW0 _ _)))
      refine e5.trans (Eqm.of ?_)
      by_cases h2:s.2 = []
      ·rw [if_pos h2,vW,h2]
       unfold epsF
       rw [if_pos rfl];omega
      ·rw [if_neg h2]
       unfold epsF
       rw [if_neg h2];omega
     ·rw [if_neg h0,Int.add_zero]
      have hpos:1 ≤ qQ s.1:=by
       cases hs1:s.1 with
       | nil => exact absurd hs1 h0
       | cons t r =>
        have:=(hs.c.1 t (by rw [hs1];simp)).1.pos
        have:qQ (t :: r) = t.length + qQ r:=by simp [qQ]
        omega
      have hsn:=hs.n
      have e4:Eqm (sF (fun p => rI (fun z => F (mulF p z)) s.2) s.1) (sF (fun p => epsF (fun z => F (mulF p z)) s.2) s.1):=xL _ fun p _ => ih s.2 (by omega) hs.t _
      refine e4.trans ?_
      rw [sF_eps F]
      by_cases h2:s.2 = []
      ·rw [if_pos h2,if_pos h2]
       exact xL _ fun a ha => Eqm.of (by rw [qV0 ha])
      ·rw [if_neg h2,if_neg h2];exact Eqm.refl _
    refine (vN hf.lev e1).trans (Eqm.of ?_)
    rw [wF_add,counit2 f hf fun z => sF F z,counit1 f hf fun z => rI F z - epsF F z]
   rw [hco] at hL
   obtain ⟨i,hi⟩:=hL
   obtain ⟨j,hj⟩:=hR
   exact ⟨i - j,by omega⟩
 exact fun f hf F => key _ f (Nat.le_refl _) hf F
theorem anti_anti:∀ f,OkF f→∀ F,Eqm (sF (sF F) f) (F f):=by
 have key:∀ (n:Nat) (f:List (List Int)),qQ f ≤ n→OkF f→∀ F,Eqm (sF (sF F) f) (F f):=by
  intro n
  induction n with
  | zero =>
   intro f hn hf F
   have h0:f = []:=by
    cases f with
    | nil => rfl
    | cons t f =>
     have:=(hf.1 t (by simp)).1.pos
     have hs:qQ (t :: f) = t.length + qQ f:=by simp [qQ]
     omega
   subst h0
   rw [vW,vW];exact Eqm.refl _
  | succ n ih =>
   intro f hn hf F
   by_cases hle:qQ f ≤ n
   ·exact ih f hle hf F
   have h1:=right_inv f hf (sF F)
   have h2:=left_inv f hf F
   have h3:Eqm (epsF (sF F) f) (epsF F f):=by
    unfold epsF
    split
    ·rw [vW];exact Eqm.refl _
    ·exact Eqm.refl _
   have hA:Eqm (rI (sF F) f) (wF (fun s => sF (fun p => sF (sF fun z => F (mulF p z)) s.2) s.1) f):=by
    refine vN hf.lev fun s hs => ?_
    have e1:Eqm (sF (fun b => sF F (mulF s.1 b)) s.2) (sF (fun b => sF (fun p => sF (fun q => F (mulF p q)) b) s.1) s.2):=xL _ fun b _ => sF_mulF F s.1 b
    refine e1.trans (Eqm.of ?_)
    unfold sF
    rw [lin_swap]
   have hB:Eqm (wF (fun s => sF (fun p => sF (sF fun z => F (mulF p z)) s.2) s.1) f) (wF (fun s => sF (fun p => F (mulF p s.2)) s.1 + (if s.1 = [] then sF (sF F) s.2 - F s.2 else 0)) f):=by
    refine vN hf.lev fun s hs => ?_
    by_cases h0:s.1 = []
    ·rw [if_pos h0,h0,vW,vW,qC0 hs.t.2]
     have e5:Eqm (sF (sF fun z => F (mulF [] z)) s.2) (sF (sF F) s.2):=xL _ fun a ha => xL _ fun b hb => Eqm.of (by rw [qC0 hb])
     exact e5.trans (Eqm.of (by omega))
    ·rw [if_neg h0,Int.add_zero]
     have hpos:1 ≤ qQ s.1:=by
      cases hs1:s.1 with
      | nil => exact absurd hs1 h0
      | cons t r =>
       have:=(hs.c.1 t (by rw [hs1];simp)).1.pos
       have:qQ (t :: r) = t.length + qQ r:=by simp [qQ]
       omega
     have hsn:=hs.n
     exact xL _ fun p _ => ih s.2 (by omega) hs.t _
   rw [wF_add,counit1 f hf fun z => sF (sF F) z - F z] at hB
   have h2:Eqm (wF (fun s => sF (fun p => F (mulF p s.2)) s.1) f) (epsF F f):=h2
   obtain ⟨i,hi⟩:=h1.trans h3
   obtain ⟨j,hj⟩:=hA.trans hB
   obtain ⟨k,hk⟩:=h2
   exact ⟨i - j - k,by omega⟩
 exact fun f hf F => key _ f (Nat.le_refl _) hf F
def eF (f:List (List Int)):Nat:=(f.map fun t => t.length - 1).sum
theorem eF_app (f g:List (List Int)):eF (f ++ g) = eF f + eF g:=by simp [eF]
theorem eF_mul (f g:List (List Int)):eF (mulF f g) = eF f + eF g:=by
 rw [← eF_app]
 exact ((jH (c:=cmpT) (f ++ g)).map _).sum_nat
theorem eF_le (f:List (List Int)):eF f ≤ qQ f:=by
 induction f with
 | nil => exact Nat.le_refl _
 | cons t f ih =>
  have h1:eF (t :: f) = (t.length - 1) + eF f:=by simp [eF]
  have h2:qQ (t :: f) = t.length + qQ f:=by simp [qQ]
  omega
def pF (f:List (List Int)):Int:=((2 ^ eF f:Nat):Int)
theorem wF_scale (k:Int) (F:Spl→Int) (f:List (List Int)):wF (fun s => k * F s) f = k * wF F f:=by
 unfold wF
 induction prodS (f.map split) with
 | nil => simp
 | cons a L ih => rw [List.map_cons,List.sum_cons,ih,List.map_cons,List.sum_cons,Int.mul_add]
theorem wF_pow:∀ f,OkF f→wF (fun s => pF s.1) f = ((2 ^ qQ f:Nat):Int):=by
 refine jY0 ?_ (fun g hg ih => ?_) (fun x y hx hy ihx ihy => ?_)
 ·rw [kH];rfl
 ·refine (wR (fun s => pF s.1) hg.lev).trans ?_
  show wF (fun s => pF s.1) g + pF (rtF g) = _
  have e1:=rtF_sum hg
  have e2:eF (rtF g) = qQ g:=by
   have e3:qQ (rtF g) = (canon (qB g)).length:=by simp [rtF,qQ]
   show (canon (qB g)).length - 1 + 0 = _
   omega
  rw [ih,e1]
  unfold pF
  rw [e2,Nat.pow_succ]
  omega
 ·refine (wM (fun s => pF s.1) x y).trans ?_
  have e:(fun s:Spl => wF (fun u => pF (mulS s u).1) y) = fun s:Spl => ((2 ^ qQ y:Nat):Int) * pF s.1:=by
   funext s
   have e1:(fun u:Spl => pF (mulS s u).1) = fun u:Spl => pF s.1 * pF u.1:=by
    funext u
    show pF (mulF s.1 u.1) = _
    unfold pF
    rw [eF_mul,Nat.pow_add,Int.natCast_mul]
   rw [e1,wF_scale,ihy,Int.mul_comm]
  rw [e,wF_scale,ihx,kU,Nat.pow_add,Int.natCast_mul,Int.mul_comm]
theorem wF_sub (F G:Spl→Int) (f:List (List Int)):wF (fun s => F s - G s) f = wF F f - wF G f:=by
 unfold wF
 induction prodS (f.map split) with
 | nil => rfl
 | cons a L ih => simp only [List.map_cons,List.sum_cons,ih];omega
theorem wW (M:Elt):(sumS cmpF M).length ≤ M.length:=by
 have h:=vI M []
 rw [List.length_nil,Nat.zero_add] at h
 exact h
theorem prodLn (d e:Elt):(prodL d e).length = d.length * e.length:=by
 unfold prodL
 induction d with
 | nil => simp
 | cons p d ih => rw [List.flatMap_cons,List.length_append,List.length_map,ih,List.length_cons,Nat.succ_mul,Nat.add_comm]
theorem vJ {g:List Int→Elt}:∀ (f:List (List Int)) (out:Elt),(∀ t ∈ f,(g t).length ≤ 2 ^ (t.length - 1))→(f.foldl (stepA g) out).length ≤ out.length * 2 ^ eF f
 | [],out,_ => by simp [eF]
 | t :: f,out,h => by
  rw [List.foldl_cons]
  refine Nat.le_trans (vJ f _ fun x hx => h x (by simp [hx])) ?_
  have h1:(stepA g out t).length ≤ out.length * 2 ^ (t.length - 1):=by
   refine Nat.le_trans (wW _) ?_
   rw [prodLn]
   exact Nat.mul_le_mul_left _ (h t (by simp))
  have h2:eF (t :: f) = (t.length - 1) + eF f:=by simp [eF]
  rw [h2,Nat.pow_add,← Nat.mul_assoc]
  exact Nat.mul_le_mul_right _ h1
theorem kT:∀ (n:Nat) (t:List Int),qZ t→canon t = t→t.length ≤ n→(ant1 t).length ≤ 2 ^ (t.length - 1)
 | 0,t,h,_,hn => by have:=h.pos;omega
 | n + 1,t,h,hc,hn => by
  have hp:=h.pos
  obtain ⟨m,hm⟩:∃ m,t.length = m + 1:=⟨t.length - 1,by omega⟩
  have e0:ant1 t = sumS cmpF ((cutsL t).flatMap (cutE (antT m))):=by unfold ant1;rw [hm];rfl
  rw [e0]
  refine Nat.le_trans (wW _) ?_
  have ht:OkF [t]:=⟨fun x hx => by obtain rfl:=List.mem_singleton.1 hx;exact ⟨h,hc⟩,List.pairwise_singleton _ _⟩
  have h1:∀ z ∈ gathS (split t),(((cutE (antT m) (cutS z)).length:Nat):Int) ≤ z.2 * (if z.1.2 = [] then 0 else pF z.1.1):=fun z hz => by
   obtain ⟨_,_,_,hg,hz1,_⟩:=wY h (c:=cutS z) (List.mem_map.2 ⟨z,hz,rfl⟩)
   obtain ⟨k1,_,hgz⟩:=kI (xI _ (Nat.le_refl _) h) z hz
   have htr:=jL0 t h z hz
   obtain ⟨⟨cr,tr⟩,k⟩:=z
   simp only at hgz htr k1 ⊢
   match tr,htr,hgz with
   | [],_,_ =>
    unfold cutE
    rw [if_pos (show (cutS ((cr,[]),k)).1.2 = [] from rfl),if_pos rfl]
    simp
   | [T],_,hgz =>
    have hT:=hgz.1 T (by simp)
    have hTp:=hT.1.pos
    have hTn:T ≠ []:=fun e => by rw [e] at hTp;simp at hTp
    unfold cutE
    rw [if_neg (show ¬ (cutS ((cr,[T]),k)).1.2 = [] from hTn),if_neg (by simp)]
    have a3:qQ [T] = T.length:=by simp [qQ]
    have a2:qQ cr + qQ [T] = t.length:=hgz.2
    have hlen:(sumS cmpF (prodL (antF (antT m) cr) [(mP (-k),[T])])).length ≤ 2 ^ eF cr:=by
     refine Nat.le_trans (wW _) ?_
     rw [prodLn,List.length_singleton,Nat.mul_one]
     refine Nat.le_trans (vJ cr [(1,[])] fun x hx => ?_) (by simp)
     have hx1:=hgz.1 x (by simp [hx])
     have hx2:=jK hx
     have e1:antT m x = ant1 x:=antT_fuel _ _ hx1.1 (by omega) (Nat.le_refl _)
     rw [e1]
     exact kT n x hx1.1 hx1.2 (by omega)
    have h2:(((sumS cmpF (prodL (antF (antT m) cr) [(mP (-k),[T])])).length:Nat):Int) ≤ pF cr:=by
     unfold pF;exact Int.ofNat_le.2 hlen
    have h3:0 ≤ pF cr:=by unfold pF;exact Int.natCast_nonneg _
    have h4:1 * pF cr ≤ k * pF cr:=Int.mul_le_mul_of_nonneg_right k1 h3
    refine Int.le_trans h2 ?_
    omega
  have h2:((((cutsL t).flatMap (cutE (antT m))).length:Nat):Int) ≤ ((gathS (split t)).map fun z => z.2 * (if z.1.2 = [] then 0 else pF z.1.1)).sum:=by
   have e1:cutsL t = (gathS (split t)).map cutS:=rfl
   rw [e1]
   generalize gathS (split t) = Z at h1
   induction Z with
   | nil => simp
   | cons z Z ih =>
    rw [List.map_cons,List.flatMap_cons,List.length_append,List.map_cons,List.sum_cons,Int.natCast_add]
    have a1:=h1 z (by simp)
    have a2:=ih fun x hx => h1 x (by simp [hx])
    omega
  have h3:((gathS (split t)).map fun z => z.2 * (if z.1.2 = [] then 0 else pF z.1.1)).sum = wF (fun s => if s.2 = [] then 0 else pF s.1) [t] :=
   (gath_lin (fun s => if s.2 = [] then 0 else pF s.1) (split t)).trans (wF_one (fun s => if s.2 = [] then 0 else pF s.1) t).symm
  have h4:wF (fun s => if s.2 = [] then 0 else pF s.1) [t] = wF (fun s => pF s.1) [t] - wF (fun s => if s.2 = [] then pF s.1 else 0) [t]:=by
   rw [← wF_sub]
   congr 1
   funext s
   split <;> omega
  have h5:=wF_pow [t] ht
  have h6:=counit2 [t] ht pF
  have e5:qQ [t] = t.length:=by simp [qQ]
  have e6:pF [t] = ((2 ^ (t.length - 1):Nat):Int):=by unfold pF;simp [eF]
  rw [e5,hm,Nat.pow_succ] at h5
  rw [e6,hm,Nat.add_sub_cancel] at h6
  rw [h3,h4,h5,h6] at h2
  rw [hm,Nat.add_sub_cancel]
  omega
def GdA (m:Nat) (L:Elt):Prop:=∀ q ∈ L,(0 ≤ q.1∧q.1 < 10007)∧(∀ t ∈ q.2,1 ≤ t.length)∧qQ q.2 = m
theorem GdA.prod {d e:Elt} {m k:Nat} (hd:GdA m d) (he:GdA k e):GdA (m + k) (prodL d e):=fun q hq => by
 unfold prodL at hq
 obtain ⟨p,hp,hq⟩:=List.mem_flatMap.1 hq
 obtain ⟨r,hr,rfl⟩:=List.mem_map.1 hq
 obtain ⟨_,a2,a3⟩:=hd p hp
 obtain ⟨_,b2,b3⟩:=he r hr
 refine ⟨jD _,fun t ht => ?_,?_⟩
 ·rcases List.mem_append.1 (yW.1 ht) with h|h
  ·exact a2 t h
  ·exact b2 t h
 ·show qQ (mulF p.2 r.2) = _
  rw [kU,a3,b3]
theorem GdA.sum {L:Elt} {m:Nat} (h:GdA m L):GdA m (sumS cmpF L):=fun q hq => by
 have hn:=(xH jV (M:=L) fun q hq => (h q hq).1).2 q hq
 obtain ⟨p,hp,e⟩:=kR hq
 rw [← e]
 exact ⟨by omega,(h p hp).2⟩
theorem GdA.fold {g:List Int→Elt}:∀ {f:List (List Int)} {out:Elt} {m:Nat},(∀ t ∈ f,GdA t.length (g t))→GdA m out→GdA (m + qQ f) (f.foldl (stepA g) out)
 | [],out,m,_,h => by simpa [qQ] using h
 | t :: f,out,m,hg,h => by
  rw [List.foldl_cons,show m + qQ (t :: f) = (m + t.length) + qQ f by simp [qQ,Nat.add_assoc]]
  exact GdA.fold (fun x hx => hg x (by simp [hx])) (GdA.sum (h.prod (hg t (by simp))))
theorem wQ:GdA 0 [(1,[])]:=fun q hq => by
 obtain rfl:=List.mem_singleton.1 hq
 exact ⟨by decide,(fun t ht => by cases ht),rfl⟩
theorem kA:∀ (n:Nat) {t:List Int},qZ t→t.length ≤ n→GdA t.length (antT n t)
 | 0,t,h,hn => by have:=h.pos;omega
 | n + 1,t,h,hn => by
  unfold antT
  refine GdA.sum fun q hq => ?_
  obtain ⟨c,hc,hq⟩:=List.mem_flatMap.1 hq
  obtain ⟨z,hz,rfl,hg,_,h1⟩:=wY h hc
  unfold cutE at hq
  rcases h1 with ⟨_,h1⟩|⟨h1,h2⟩
  ·rw [if_pos h1] at hq;cases hq
  ·rw [if_neg h1] at hq
   have a2:=hg.2
   have a3:qQ z.1.2 = (cutS z).1.2.length:=by rw [h2];simp [qQ]
   have a4:=hg.1 (cutS z).1.2 (by rw [h2];simp)
   have a5:=a4.1.pos
   have hc1:GdA (qQ z.1.1) (antF (antT n) z.1.1):=by
    have:=GdA.fold (g:=antT n) (f:=z.1.1) (out:=[(1,[])]) (m:=0) (fun x hx => kA n (hg.1 x (by simp [hx])).1 (by have:=jK hx;omega)) wQ
    rw [Nat.zero_add] at this
    exact this
   have hc2:GdA (cutS z).1.2.length [(mP (-(cutS z).2),[(cutS z).1.2])]:=fun q hq => by
    obtain rfl:=List.mem_singleton.1 hq
    exact ⟨jD _,fun t ht => by obtain rfl:=List.mem_singleton.1 ht;exact a5,by simp [qQ]⟩
   have:=GdA.sum (hc1.prod hc2)
   rw [← a3,a2] at this
   exact this q hq
theorem GdA.sz {L:Elt} {m:Nat} (h:GdA m L) (hm:m ≤ 8):∀ q ∈ L,(0 ≤ q.1∧q.1 < 10007)∧q.2.length ≤ 9∧qQ q.2 ≤ 50:=fun q hq => by
 obtain ⟨h1,h2,h3⟩:=h q hq
 refine ⟨h1,?_,by omega⟩
 have:q.2.length ≤ qQ q.2:=by
  generalize q.2 = f at h2
  clear h3
  induction f with
  | nil => exact Nat.le_refl _
  | cons t f ih =>
   have a1:=h2 t (by simp)
   have a2:=ih fun x hx => h2 x (by simp [hx])
   have a3:qQ (t :: f) = t.length + qQ f:=by simp [qQ]
   rw [List.length_cons]
   omega
 omega
def fIdx {α:Type} (p:α→Bool):List α→Option Nat
 | [] => none
 | x :: xs => if p x then some 0 else (fIdx p xs).map (· + 1)
def idxI (o:Option Nat):Int:=match o with|some i => i|none => -1
theorem qB0 {α:Type} {p:α→Bool}:∀ {xs:List α},fIdx p xs = none ↔ ∀ x ∈ xs,p x = false
 | [] => by simp [fIdx]
 | x :: xs => by
  unfold fIdx
  by_cases h:p x = true
  ·simp [h]
  ·have h':p x = false:=by simpa using h
   simp only [h,Bool.false_eq_true,if_false,Option.map_eq_none_iff,qB0 (xs:=xs)]
   simp [h']
theorem xQ0 {α:Type} {p:α→Bool}:∀ {xs:List α} {i:Nat},fIdx p xs = some i→∃ h:i < xs.length,p xs[i] = true∧∀ x ∈ xs.take i,p x = false
 | x :: xs,i,h => by
  unfold fIdx at h
  by_cases hx:p x = true
  ·rw [if_pos hx] at h;cases h
   exact ⟨by simp,hx,by simp⟩
  ·rw [if_neg hx] at h
   obtain ⟨j,hj,rfl⟩:=map_some h
   obtain ⟨h1,h2,h3⟩:=xQ0 hj
   refine ⟨by simpa using h1,h2,fun y hy => ?_⟩
   rw [List.take_succ_cons,List.mem_cons] at hy
   rcases hy with rfl|hy
   ·simpa using hx
   ·exact h3 y hy
theorem fIdx_at {α:Type} {p:α→Bool}:∀ {xs:List α} {i:Nat} (h:i < xs.length),p xs[i] = true→(∀ x ∈ xs.take i,p x = false)→fIdx p xs = some i
 | x :: xs,0,_,h1,_ => by
  have h1:p x = true:=h1
  unfold fIdx;rw [if_pos h1]
 | x :: xs,i + 1,h,h1,h2 => by
  unfold fIdx
  have hx:p x = false:=h2 x (by simp)
  rw [if_neg (by simp [hx]),fIdx_at (xs:=xs) (i:=i) (by simpa using h) h1 (fun y hy => h2 y (by simp [hy]))]
  rfl
def keepF {α:Type} (p:α→Bool) (xs:List α):List α:=xs.filter fun x => !p x
theorem kP0 {α:Type} (e:α→List D) (d:α→D) (c0:α→Int) (f:α→List (List Int)) (p:α→Bool) (g:FuncId) (he:∀ x,e x = [.int (c0 x),d x]) (hun:∀ x,(d x).un = .sl 1 ((f x).map eL)) (hp:∀ x,AFn Tryz.prog g [[.int (c0 x),.sl 1 ((f x).map eL)]] (· = [.val (.bool (p x))])) (xs:List α) (hl:xs.length ≤ 1000000000) :
  AFn Tryz.prog 197 [[.sl 2 (xs.map e)],[.raw (.func (.func g) #[] #[])]] (· = [.val (.int (idxI (fIdx p xs)))]):=by
 refine AFn.of_runs (qX 19) Tryz.func197 rfl rfl rfl gz ?_
 have hres:Tryz.f197.results.toList = [.tmp 4]:=rfl
 have hrts:Tryz.f197.resultTypes.toList = [3]:=rfl
 simp only [qU,qT,eL,eI,eLL,eB,Nat.zero_add,Nat.reduceAdd]
 intro M
 refine qJ.of ?_
 have hle:(xs.map e).length = xs.length:=by simp
 refine gw7 (kk 9) hle ?_
 refine qJ.loop (β:=Nat) (γ:=Unit) (fun i => ⟨[(0,.c (.val (.sl 2 (xs.map e)))),(1,.c (.val (.raw (.func (.func g) #[] #[])))),(7,.c (.val (.int xs.length))),(8,.c (.val (.int i)))],[]⟩) (fun i => i ≤ xs.length∧∀ x ∈ xs.take i,p x = false) (fun i => xs.length - i)
  (fun _ => ⟨[],[]⟩) (fun _ => ∀ x ∈ xs,p x = false) 0 ⟨Nat.zero_le _,by simp⟩ ?_ ?_ ?_
 ·exact gw6 Y0
 ·rintro i ⟨hi,hlow⟩
  have hw:=qD (n:=i) (by omega)
  by_cases h:i < xs.length
  ·have hx:=hp xs[i]
   have hj:(xs.map e)[i]? = some [.int (c0 xs[i]),d xs[i]]:=by rw [qE h,he]
   have i1:((i:Int) < (xs.length:Int)) = True:=eq_true (by omega)
   have i2:((0:Int) ≤ (i:Int)) = True:=eq_true (by omega)
   by_cases hpx:p xs[i] = true
   ·repeat' (first|with_reducible (first|refine Q1 ?_|refine Q2 ?_|refine Q3 ?_|refine Q4 ?_|refine Q5 ?_|refine Q6 ?_|refine Q7 ?_|refine Q8 ?_|refine Q9 ?_|refine Qa ?_|refine Qb ?_|refine Qc ?_|refine Qd ?_|refine Qe ?_|refine Qf ?_|refine QO ?_|refine QV 9 ?_|refine QY 9 ?_)|with_reducible ((first|apply QS (qX 19) (Tab.none.at' g hx)|apply QC);refine QW ?_;simp only [Zg,Zi,seval,hle,i1,i2,hj,hun,xP (hun _),kJ (hun _),hpx,hw,eL,Int.toNat_natCast];rfl))
    refine qY.ret ?_
    refine gw7 (kk 9) Y0 ?_
    rw [fIdx_at h hpx hlow]
    exact gw98
   ·have hpx':p xs[i] = false:=by simpa using hpx
    repeat' (first|with_reducible (first|refine Q1 ?_|refine Q2 ?_|refine Q3 ?_|refine Q4 ?_|refine Q5 ?_|refine Q6 ?_|refine Q7 ?_|refine Q8 ?_|refine Q9 ?_|refine Qa ?_|refine Qb ?_|refine Qc ?_|refine Qd ?_|refine Qe ?_|refine Qf ?_|refine QO ?_|refine QV 9 ?_|refine QY 9 ?_)|with_reducible ((first|apply QS (qX 19) (Tab.none.at' g hx)|apply QC);refine QW ?_;simp only [Zg,Zi,seval,hle,i1,i2,hj,hun,xP (hun _),kJ (hun _),hpx',hw,eL,Int.toNat_natCast];rfl))
    refine qY.on (i + 1) ⟨⟨h,fun x hx => ?_⟩,by omega⟩ ?_
    ·rw [List.take_succ_eq_append_getElem h,List.mem_append,List.mem_singleton] at hx
     rcases hx with hx|rfl
     ·exact hlow x hx
     ·exact hpx'
    ·exact gw6 Y0
  ·have i1:((i:Int) < (xs.length:Int)) = False:=eq_false (by omega)
   refine gw7 (kk 9) (Yp hle i1) ?_
   refine qY.out () (fun x hx => hlow x (by rw [List.take_of_length_le (by omega)];exact hx)) ?_
   exact gw6 Y0
 ·rintro _ hno
  refine gw7 (kk 9) Y0 ?_
  rw [qB0.2 hno]
  exact gw98
theorem a_DeleteFuncPt {α:Type} (e:α→List D) (d:α→D) (c0:α→Int) (f:α→List (List Int)) (p:α→Bool) (g:FuncId) (he:∀ x,e x = [.int (c0 x),d x]) (hun:∀ x,(d x).un = .sl 1 ((f x).map eL)) (hp:∀ x,AFn Tryz.prog g [[.int (c0 x),.sl 1 ((f x).map eL)]] (· = [.val (.bool (p x))])) (xs:List α) (hl:xs.length ≤ 1000000000) :
  AOw Tryz.prog 153 [] 2 (xs.map e) [[.raw (.func (.func g) #[] #[])]] (· = [.own 2 ((keepF p xs).map e) false]):=by
 have hidx:=kP0 e d c0 f p g he hun hp xs hl
 rcases hfi:fIdx p xs with _|i0
 ·rw [hfi] at hidx
  have hk:keepF p xs = xs:=List.filter_eq_self.2 (fun x hx => by rw [qB0.1 hfi x hx];rfl)
  rw [hk]
  refine AOw.of_runs (qX 42) Tryz.func153 rfl rfl rfl gz ?_
  have hres:Tryz.f153.results.toList = [.tmp 4]:=rfl
  have hrts:Tryz.f153.resultTypes.toList = [50]:=rfl
  simp only [List.length_cons,List.length_nil,List.nil_append,List.cons_append,qU,qT,eL,eI,eLL,eB,Nat.zero_add,Nat.reduceAdd]
  intro M
  refine qJ.of ?_
  refine gw99 (kk 8) Y0 ?_
  exact gw8
 ·rw [hfi] at hidx
  obtain ⟨hi0,hpi,hlow⟩:=xQ0 hfi
  refine AOw.of_runs (qX 42) Tryz.func153 rfl rfl rfl gz ?_
  have hres:Tryz.f153.results.toList = [.tmp 4]:=rfl
  have hrts:Tryz.f153.resultTypes.toList = [50]:=rfl
  simp only [List.length_cons,List.length_nil,List.nil_append,List.cons_append,qU,qT,eL,eI,eLL,eB,Nat.zero_add,Nat.reduceAdd]
  intro M
  refine qJ.of ?_
  have hne:((i0:Int) == -1) = false:=beq_eq_false_iff_ne.2 (by omega)
  have hw0:=qD (n:=i0) (by omega)
  refine gw99 (kk 8) (Yp hne hw0) ?_
  refine qJ.loop (β:=Nat × List (List D)) (γ:=List (List D)) (fun x => ⟨[(0,.c (.own 0 xs.length)),(1,.c (.val (.raw (.func (.func g) #[] #[])))),(5,.c (.val (.int (keepF p (xs.take x.1)).length))),(6,.c (.val (.int x.1)))],[(0,.row 2 x.2 false)]⟩)
   (fun x => x.1 ≤ xs.length∧x.2.length = xs.length∧(∀ r ∈ x.2,r.length = 2)∧x.2.take (keepF p (xs.take x.1)).length = (keepF p (xs.take x.1)).map e∧x.2.drop x.1 = (xs.drop x.1).map e) (fun x => xs.length - x.1)
   (fun L => ⟨[(0,.c (.own 0 xs.length)),(5,.c (.val (.int (keepF p xs).length)))],[(0,.row 2 L false)]⟩) (fun L => L.length = xs.length∧L.take (keepF p xs).length = (keepF p xs).map e) (i0 + 1,xs.map e) ⟨by omega,by simp,?_,?_,by rw [List.map_drop]⟩ ?_ ?_ ?_
  ·intro r hr
   obtain ⟨x,_,rfl⟩:=List.mem_map.1 hr
   rw [he];rfl
  ·have h1:keepF p (xs.take (i0 + 1)) = xs.take i0:=by
    rw [List.take_succ_eq_append_getElem hi0]
    unfold keepF
    rw [List.filter_append,List.filter_eq_self.2 (fun x hx => by rw [hlow x hx];rfl)]
    simp [hpi]
   show (xs.map e).take (keepF p (xs.take (i0 + 1))).length = (keepF p (xs.take (i0 + 1))).map e
   rw [h1,← List.map_take,List.length_take,Nat.min_eq_left (Nat.le_of_lt hi0)]
  ·have h1:(keepF p (xs.take (i0 + 1))).length = i0:=by
    rw [List.take_succ_eq_append_getElem hi0]
    unfold keepF
    rw [List.filter_append,List.filter_eq_self.2 (fun x hx => by rw [hlow x hx];rfl)]
    simp [hpi];omega
   exact gw6 h1
  ·rintro ⟨j,L⟩ ⟨hj,hL,hone,htk,hdr⟩
   have hj:j ≤ xs.length:=hj
   have hL:L.length = xs.length:=hL
   have htk:L.take (keepF p (xs.take j)).length = (keepF p (xs.take j)).map e:=htk
   have hdr:L.drop j = (xs.drop j).map e:=hdr
   have hw:=qD (n:=j) (by omega)
   have hcl:(keepF p (xs.take j)).length ≤ j:=by
    have:=List.length_filter_le (fun x => !p x) (xs.take j)
    unfold keepF
    rw [List.length_take] at this
    omega
   have hwc:=qD (n:=(keepF p (xs.take j)).length) (by omega)
   by_cases h:j < xs.length
   ·have hx:=hp xs[j]
    have hLj:L[j]? = some [.int (c0 xs[j]),d xs[j]]:=by
     have:(L.drop j)[0]? = ((xs.drop j).map e)[0]?:=by rw [hdr]
     rw [List.getElem?_drop,List.getElem?_map,List.getElem?_drop] at this
     simpa [h,he] using this
    have i1:((j:Int) < (xs.length:Int)) = True:=eq_true (by omega)
    have i2:((0:Int) ≤ (j:Int)) = True:=eq_true (by omega)
    have hsucc:keepF p (xs.take (j + 1)) = if p xs[j] = true then keepF p (xs.take j) else keepF p (xs.take j) ++ [xs[j]]:=by
     rw [List.take_succ_eq_append_getElem h]
     unfold keepF
     rw [List.filter_append]
     by_cases hpx:p xs[j] = true <;> simp [hpx]
    by_cases hpx:p xs[j] = true
    ·rw [if_pos hpx] at hsucc
     repeat' (first|with_reducible (first|refine Q1 ?_|refine Q2 ?_|refine Q3 ?_|refine Q4 ?_|refine Q5 ?_|refine Q6 ?_|refine Q7 ?_|refine Q8 ?_|refine Q9 ?_|refine Qa ?_|refine Qb ?_|refine Qc ?_|refine Qd ?_|refine Qe ?_|refine Qf ?_|refine QO ?_|refine QV 8 ?_|refine QY 8 ?_)|with_reducible ((first|apply QS (qX 42) (Tab.none.at' g hx)|apply QC);refine QW ?_;simp only [Zg,Zi,seval,hL,i1,i2,hLj,hun,xP (hun _),kJ (hun _),hpx,hw,eL,Int.toNat_natCast];rfl))
     refine qY.on (j + 1,L) ⟨⟨h,hL,hone,?_,?_⟩,by show xs.length - (j + 1) < xs.length - j;omega⟩ ?_
     ·rw [hsucc];exact htk
     ·show L.drop (j + 1) = (xs.drop (j + 1)).map e
      rw [← List.drop_drop,hdr,← List.map_drop,List.drop_drop]
     ·exact gw6 hsucc
    ·have hpx':p xs[j] = false:=by simpa using hpx
     rw [if_neg hpx] at hsucc
     obtain ⟨c,hc⟩:∃ c,c = (keepF p (xs.take j)).length:=⟨_,rfl⟩
     have hcs:(keepF p (xs.take (j + 1))).length = c + 1:=by rw [hsucc,hc];simp
     rw [← hc] at hwc hcl htk
     have hcL:c < L.length:=by omega
     obtain ⟨y,y2,hy⟩:∃ y y2,L[c] = [y,y2]:=by
      have:=hone L[c] (List.getElem_mem _)
      match L[c],this with
      | [y,y2],_ => exact ⟨y,y2,rfl⟩
     have hLc:L[c]? = some [y,y2]:=by rw [List.getElem?_eq_getElem hcL,hy]
     have i3:((c:Int) < (xs.length:Int)) = True:=eq_true (by omega)
     have i4:((0:Int) ≤ (c:Int)) = True:=eq_true (by omega)
     rw [← hc]
     repeat' (first|with_reducible (first|refine Q1 ?_|refine Q2 ?_|refine Q3 ?_|refine Q4 ?_|refine Q5 ?_|refine Q6 ?_|refine Q7 ?_|refine Q8 ?_|refine Q9 ?_|refine Qa ?_|refine Qb ?_|refine Qc ?_|refine Qd ?_|refine Qe ?_|refine Qf ?_|refine QO ?_|refine QV 8 ?_|refine QY 8 ?_)|with_reducible ((first|apply QS (qX 42) (Tab.none.at' g hx)|apply QC);refine QW ?_;simp only [Zg,Zi,seval,hL,i1,i2,i3,i4,hLj,hLc,hun,xP (hun _),kJ (hun _),hpx',hw,hwc,eL,Int.toNat_natCast];rfl))
     refine qY.on (j + 1,L.set c [.int (c0 xs[j]),d xs[j]]) ⟨⟨h,by simpa using hL,?_,?_,?_⟩,by show xs.length - (j + 1) < xs.length - j;omega⟩ ?_
     ·intro r hr
      rcases List.mem_or_eq_of_mem_set hr with hr|rfl
      ·exact hone r hr
      ·rfl
     ·show (L.set c [.int (c0 xs[j]),d xs[j]]).take (keepF p (xs.take (j + 1))).length = (keepF p (xs.take (j + 1))).map e
      rw [hcs,hsucc,List.map_append,List.take_succ_eq_append_getElem (by simpa using hcL),List.take_set_of_le (Nat.le_refl _),htk]
      simp [he]
     ·show (L.set c [.int (c0 xs[j]),d xs[j]]).drop (j + 1) = (xs.drop (j + 1)).map e
      rw [List.drop_set_of_lt (by omega),← List.drop_drop,hdr,← List.map_drop,List.drop_drop]
     ·exact gw6 hcs
   ·have i1:((j:Int) < (xs.length:Int)) = False:=eq_false (by omega)
    have hall:xs.take j = xs:=List.take_of_length_le (by omega)
    rw [hall] at htk ⊢
    refine gw7 (kk 8) (Yp hL i1) ?_
    refine qY.out L ⟨hL,htk⟩ ?_
    exact gw6 Y0
  ·rintro L ⟨hL,htk⟩
   have hcl:(keepF p xs).length ≤ xs.length:=List.length_filter_le _ _
   obtain ⟨c,hc⟩:∃ c,c = (keepF p xs).length:=⟨_,rfl⟩
   rw [← hc] at htk hcl ⊢
   have i1:((c:Int) ≤ (xs.length:Int)) = True:=eq_true (by omega)
   have i2:((0:Int) ≤ (c:Int)) = True:=eq_true (by omega)
   have i3:((xs.length:Int) ≤ (xs.length:Int)) = True:=eq_true (by omega)
   have htn:((xs.length:Int)).toNat = xs.length:=Int.toNat_natCast _
   refine gw7 (kk 8) Y0 ?_
   refine qJ.regCut (qX 42) Tab.none 3 (s1:=?_) ?_ ?_
   rotate_left 1
   focus (refine Work.mk ?_;simp only [Zg,Zi,seval,hL,i1,i2,i3,Int.toNat_natCast];with_reducible rfl)
   simp only [List.toList_toArray,List.drop_succ_cons,List.drop_zero]
   refine qW.clear (qX 42) (x:=.tmp 38) (t:=50) (i:=⟨71,[.int 0,.sl 1 []],32⟩) (key:=0) (j:=c) (m:=xs.length - c) rfl rfl rfl rfl rfl rfl rfl (by rw [hL];omega) ?_
   refine qW.nil ?_
   refine gw7 (kk 8) Y0 ?_
   refine qJ.regCut (qX 42) Tab.none 2 (s1:=?_) ?_ ?_
   rotate_left 1
   focus (refine Work.mk ?_;simp only [Zg,Zi,seval];with_reducible rfl)
   simp only [List.toList_toArray,List.drop_succ_cons,List.drop_zero]
   refine qW.trunc (qX 42) (x:=.tmp 39) (hi:=.tmp 40) (t:=50) (i:=⟨71,[.int 0,.sl 1 []],32⟩) (d:=41) (key:=0) (m:=xs.length) (n:=c) rfl rfl rfl (by decide) rfl rfl rfl rfl (by simp [hL];omega) (fun q u hq hu => ?_) ?_
   ·simp only [look] at hu
    split at hu
    ·rename_i e;exact absurd e.symm hq
    ·cases hu
   ·have ht2:(L.take c ++ List.replicate (xs.length - c) [D.int 0,D.sl 1 []]).take c = (keepF p xs).map e:=by
     rw [List.take_append_of_le_length (by rw [List.length_take];omega),List.take_take,Nat.min_self,htk]
    rw [ht2]
    refine qW.opsT (qX 42) (T:=Tab.none) (s':=?_) ?_ ?_
    rotate_left 1
    focus (simp only [Zg,Zi,seval];with_reducible rfl)
    refine gw7 (kk 8) Y0 ?_
    exact gw8
end Go.Proofs.YtedgfkpfhonlpaaGreat

/- Lemmas (6). -/
import Derived.BigQuiet
import Derived.Lib.AppendZeros
import Derived.Test.YtgngidchldajhaaZA0
import Derived.Test.YtgngidchldajhaaZA3
import Derived.Test.YtgngidchldajhaaZA4
import Derived.Test.YtgngidchldajhaaZA5
set_option linter.unusedSimpArgs false
set_option linter.unusedVariables false
namespace Go.Proofs.Ytgngidchldajhaa
open Go.RowKit
def OwnF {α:Type} (R:Rep α) (F:List Nat) (w:World) (cs:List Value) (x:α):Prop:=R.own w cs x F∧F.Nodup
theorem OwnF.of {α:Type} {R:Rep α} {lo hi:Nat} {w:World} {cs:List Value} {x:α} (h:Own R lo hi w cs x):∃ F,OwnF R F w cs x∧∀ b,b ∈ F→lo ≤ b∧b < hi :=
 let ⟨F,h1,h2,h3⟩:=h;⟨F,⟨h1,h2⟩,h3⟩
theorem OwnF.to {α:Type} {R:Rep α} {lo hi:Nat} {F:List Nat} {w:World} {cs:List Value} {x:α} (h:OwnF R F w cs x) (hb:∀ b,b ∈ F→lo ≤ b∧b < hi):Own R lo hi w cs x:=⟨F,h.1,h.2,hb⟩
theorem OwnF.frame {α:Type} {R:Rep α} {F:List Nat} {w w':World} {cs:List Value} {x:α} (h:OwnF R F w cs x) (hf:∀ b,b ∈ F→w'.heap[b]? = w.heap[b]?):OwnF R F w' cs x:=⟨R.own_frame h.1 hf,h.2⟩
theorem OwnF.lt {α:Type} {R:Rep α} {F:List Nat} {w:World} {cs:List Value} {x:α} (h:OwnF R F w cs x):∀ b,b ∈ F→b < w.heap.size:=R.own_lt h.1
theorem OwnF.rd {α:Type} {R:Rep α} {F:List Nat} {w:World} {cs:List Value} {x:α} (h:OwnF R F w cs x):Rd R w cs x:=R.rd_mono (R.own_rd h.1) (fun _ _ h => h)
structure ChgF (F:List Nat) (w w':World):Prop where
 os:w'.os = w.os
 tape:w'.tape = w.tape
 output:w'.output = w.output
 size:w.heap.size ≤ w'.heap.size
 block:∀ k,k < w.heap.size→k ∉ F→w'.heap[k]? = w.heap[k]?
theorem ChgF.refl (F:List Nat) (w:World):ChgF F w w:=⟨rfl,rfl,rfl,Nat.le_refl _,fun _ _ _ => rfl⟩
theorem ChgF.of_grown {w w':World} {og:Option Nat} (h:w.grownBy w' og):ChgF og.toList w w':=⟨h.os,h.tape,h.output,h.size,fun k hk hn => h.block k hk (fun e => hn (by simp [← e]))⟩
theorem ChgF.mono {F G:List Nat} {w w':World} (h:ChgF F w w') (hs:∀ b,b ∈ F→b ∈ G):ChgF G w w':=⟨h.os,h.tape,h.output,h.size,fun k hk hn => h.block k hk (fun e => hn (hs k e))⟩
theorem ChgF.trans {F:List Nat} {a b c:World} (h:ChgF F a b) (k:ChgF F b c):ChgF F a c :=
 ⟨k.os.trans h.os,k.tape.trans h.tape,k.output.trans h.output,Nat.le_trans h.size k.size,fun i hi hn => (k.block i (Nat.lt_of_lt_of_le hi h.size) hn).trans (h.block i hi hn)⟩
theorem ChgF.trans' {F G:List Nat} {a b c:World} (h:ChgF F a b) (k:ChgF G b c) (hs:∀ x,x ∈ G→x ∈ F ∨ a.heap.size ≤ x):ChgF F a c :=
 ⟨k.os.trans h.os,k.tape.trans h.tape,k.output.trans h.output,Nat.le_trans h.size k.size,fun i hi hn => (k.block i (Nat.lt_of_lt_of_le hi h.size) (fun e => (hs i e).elim hn (fun h => by omega))).trans (h.block i hi hn)⟩
theorem ChgF.below {F:List Nat} {w w':World} {B:Nat} (h:ChgF F w w') (hB:B ≤ w.heap.size) (hF:∀ b,b ∈ F→B ≤ b):Below B w w' :=
 ⟨h.os,h.tape,h.output,h.size,fun k hk => h.block k (by omega) (fun e => by have:=hF k e;omega)⟩
theorem Below.chgF {w w':World} {F:List Nat} (h:Below w.heap.size w w'):ChgF F w w':=⟨h.os,h.tape,h.output,h.size,fun k hk _ => h.block k hk⟩
section
variable {α:Type} {R:Rep α} {w:World}
theorem OwnF.lens {v:Value} {xs:List α} {F:List Nat} (h:OwnF (RS R) F w [v] xs) (i:Nat) (hi:i < xs.length) :
  ∃ g cap d1 c d2 F1 G F2,v = .slice (some ⟨g,0,none⟩) xs.length cap∧xs.length ≤ cap∧cap ≤ 9223372036854775807∧F = g :: (F1 ++ (G ++ F2))∧c.length = R.k∧d1.length = i * R.k∧R.own w c xs[i] G∧Row w v R.k xs.length (d1 ++ (c ++ d2)) (some g) ∧
   ∀ (w':World) (c':List Value) (y:α) (G':List Nat),c'.length = R.k→R.own w' c' y G'→(∀ b,b ∈ F1 ++ F2→w'.heap[b]? = w.heap[b]?)→Row w' v R.k xs.length (d1 ++ (c' ++ d2)) (some g)→(g :: (F1 ++ (G' ++ F2))).Nodup →
    OwnF (RS R) (g :: (F1 ++ (G' ++ F2))) w' [v] (xs.set i y):=by
 obtain ⟨⟨v',og,ds,F0,h1,hrow,hel,rfl⟩,hn⟩:=h
 simp only [List.cons.injEq,and_true] at h1
 subst h1
 obtain ⟨g,rfl⟩:=hrow.some_of hi
 obtain ⟨cap,hv,hc1,hc2⟩:=hrow.slice
 obtain ⟨d1,c,d2,F1,G,F2,rfl,rfl,hd1,hL1,hx,hL2⟩:=hel.split i hi
 refine ⟨g,cap,d1,c,d2,F1,G,F2,hv,hc1,by unfold maxLen at hc2;omega,rfl,R.rd_len (R.own_rd hx),hd1,hx,hrow,?_⟩
 intro w' c' y G' hc' hy hfr hr' hnd
 refine ⟨⟨v,some g,d1 ++ (c' ++ d2),F1 ++ (G' ++ F2),rfl,by rw [List.length_set];exact hr',?_,rfl⟩,hnd⟩
 exact ownL.join hi (hL1.frame fun b hb => hfr b (by simp [hb])) hy (hL2.frame fun b hb => hfr b (by simp [hb]))
end
theorem Row.chgF {w w':World} {v:Value} {k n:Nat} {ds:List Value} {og:Option Nat} {F:List Nat} (h:Row w v k n ds og) (hc:ChgF F w w') (hn:∀ g,og = some g→g ∉ F):Row w' v k n ds og :=
 h.frame fun g hg => hc.block g (h.lt g hg) (hn g hg)
theorem OwnF.innerApp {w:World} {v:Value} {xss:List (List Int)} {F:List Nat} (h:OwnF (RS (RS RI)) F w [v] xss) (i:Nat) (hi:i < xss.length) :
  ∃ g cap h0 og,v = .slice (some ⟨g,0,none⟩) xss.length cap∧xss.length ≤ cap∧cap ≤ 9223372036854775807∧g < w.heap.size∧w.cell? ⟨g,i,none⟩ = some h0∧Row w h0 1 xss[i].length (xss[i].map (Value.int .i64)) og ∧
   ∀ (y:Int) (h':Value) (w1:World) (og':Option Nat),In64 y→Appended w w1 h' 1 (xss[i].length + 1) (xss[i].map (Value.int .i64) ++ [.int .i64 y]) og og' →
    w1.cell? ⟨g,i,none⟩ = some h0∧w1.frozen? ⟨g,i,none⟩ = false∧∃ F',OwnF (RS (RS RI)) F' (w1.setCell ⟨g,i,none⟩ h') [v] (xss.set i (xss[i] ++ [y]))∧(∀ b,b ∈ F'→b ∈ F ∨ w.heap.size ≤ b)∧ChgF F w (w1.setCell ⟨g,i,none⟩ h'):=by
 have hlt:=h.lt
 have hnd:=h.2
 obtain ⟨g,cap,d1,c,d2,F1,G,F2,hv,hc1,hc2,rfl,hcl,hd1,hx,hrow,hK⟩:=h.lens i hi
 obtain ⟨h0,og,ds,G',rfl,hr0,hel0,rfl⟩:=hx
 obtain ⟨k1,k2,k3⟩:=ownL_ints hel0
 subst k1;subst k2
 have hd1':d1.length = i:=by rw [hd1];show i * 1 = i;omega
 have hcell:w.cell? ⟨g,i,none⟩ = some h0:=hrow.cells i h0 (by rw [List.getElem?_append_right (by omega),hd1'];simp)
 refine ⟨g,cap,h0,og,hv,hc1,hc2,hlt g (by simp),hcell,hr0,?_⟩
 intro y h' w1 og' hy happ
 obtain ⟨a1,a2,a3⟩:=happ
 simp only [List.append_nil] at *
 have hn1:=List.nodup_cons.1 hnd
 have hog:∀ b,og = some b→b ≠ g∧b ∉ F1 ++ F2:=by
  intro b hb
  subst hb
  refine ⟨fun e => hn1.1 (by simp [← e]),fun hm => ?_⟩
  have h2:=List.nodup_append.1 hn1.2
  rcases List.mem_append.1 hm with hm|hm
  ·exact h2.2.2 b hm b (by simp) rfl
  ·exact (List.nodup_append.1 h2.2.1).2.2 b (by simp) b hm rfl
 have hgb:w1.heap[g]? = w.heap[g]?:=a2.block g (hlt g (by simp)) (fun e => (hog g e.symm).1 rfl)
 have hrow1:Row w1 v 1 xss.length (d1 ++ ([h0] ++ d2)) (some g):=hrow.frame (fun g' hg' => by cases hg';exact hgb)
 obtain ⟨hst,hgr⟩:=hrow1.store i h'
 have hset:(d1 ++ ([h0] ++ d2)).set i h' = d1 ++ ([h'] ++ d2):=by
  rw [List.set_append_right _ _ (by omega),hd1',Nat.sub_self];rfl
 rw [hset] at hst
 have hog':∀ b,og' = some b→b ≠ g∧b ∉ F1 ++ F2:=by
  intro b hb
  rcases a3 with a3|⟨b',a3,hb'⟩
  ·exact hog b (by rw [← a3];exact hb)
  ·rw [hb] at a3;cases a3
   refine ⟨fun e => ?_,fun hm => ?_⟩
   ·subst e;have:=hlt b (by simp);omega
   ·have:=hlt b (by
     rcases List.mem_append.1 hm with hm|hm
     ·simp [hm]
     ·simp [hm])
    omega
 have hr1:Row (w1.setCell ⟨g,i,none⟩ h') h' 1 (xss[i].length + 1) (xss[i].map (Value.int .i64) ++ [.int .i64 y]) og' :=
  a1.frame (fun b hb => heap_setCell_other w1 ⟨g,i,none⟩ b h' (hog' b hb).1)
 have hin:(RS RI).own (w1.setCell ⟨g,i,none⟩ h') [h'] (xss[i] ++ [y]) (og'.toList):=by
  refine Row.ownI ?_ ?_
  ·simpa using hr1
  ·intro z hz
   rcases List.mem_append.1 hz with hz|hz
   ·exact k3 z hz
   ·simp only [List.mem_singleton] at hz;subst hz;exact hy
 have hsub:∀ b,b ∈ F1 ++ F2→b ≠ g:=fun b hm e => hn1.1 (by
  subst e
  rcases List.mem_append.1 hm with hm|hm
  ·simp [hm]
  ·simp [hm])
 have hfr:∀ b,b ∈ F1 ++ F2→(w1.setCell ⟨g,i,none⟩ h').heap[b]? = w.heap[b]?:=by
  intro b hm
  rw [heap_setCell_other w1 ⟨g,i,none⟩ b h' (hsub b hm)]
  refine a2.block b (hlt b ?_) (fun e => (hog b e.symm).2 hm)
  rcases List.mem_append.1 hm with hm|hm
  ·simp [hm]
  ·simp [hm]
 have hnd':(g :: (F1 ++ (og'.toList ++ F2))).Nodup:=by
  have h2:=List.nodup_append.1 hn1.2
  have h3:=List.nodup_append.1 h2.2.1
  refine List.nodup_cons.2 ⟨?_,?_⟩
  ·intro hm
   simp only [List.mem_append,Option.mem_toList] at hm
   rcases hm with hm|hm|hm
   ·exact hsub g (by simp [hm]) rfl
   ·exact (hog' g hm).1 rfl
   ·exact hsub g (by simp [hm]) rfl
  ·refine List.nodup_append.2 ⟨h2.1,List.nodup_append.2 ⟨by cases og' <;> simp,h3.2.1,fun b hb b' hb' e => ?_⟩,fun b hb b' hb' e => ?_⟩
   ·subst e;exact (hog' b (by simpa using hb)).2 (by simp [hb'])
   ·subst e
    rcases List.mem_append.1 hb' with hb'|hb'
    ·exact (hog' b (by simpa using hb')).2 (by simp [hb])
    ·exact h2.2.2 b hb b (by simp [hb']) rfl
 refine ⟨hrow1.cells i h0 (by rw [List.getElem?_append_right (by omega),hd1'];simp),hrow1.frozen i,_,hK _ [h'] (xss[i] ++ [y]) og'.toList rfl hin hfr hst hnd',?_,?_⟩
 ·intro b hb
  simp only [List.mem_cons,List.mem_append,Option.mem_toList] at hb
  rcases hb with hb|hb|hb|hb
  ·exact .inl (by simp [hb])
  ·exact .inl (by simp [hb])
  ·rcases a3 with a3|⟨b',a3,hb'⟩
   ·exact .inl (by simp [← a3,hb])
   ·rw [hb] at a3;cases a3;exact .inr hb'
  ·exact .inl (by simp [hb])
 ·refine (ChgF.of_grown a2).mono (G:=g :: (F1 ++ (og.toList ++ F2))) (fun b hb => by simp [Option.mem_toList.1 hb]) |>.trans ((ChgF.of_grown hgr).mono (fun b hb => ?_))
  simp at hb
  simp [hb]
theorem Rd.lit {α:Type} {R:Rep α} {w W:World} {ds:List Value} {xs:List α} {E:TypeId} (h:rdL R (fun b => b < w.heap.size) w ds xs) (e:W.heap = (w.alloc (.cells ds.toArray E)).heap) (hn:xs.length ≤ maxLen) :
  Rd (RS R) W [.slice (some ⟨w.heap.size,0,none⟩) xs.length xs.length] xs:=by
 refine Rd.of_heap (w:=w.alloc (.cells ds.toArray E)) ?_ e
 have hb:Below w.heap.size w (w.alloc (.cells ds.toArray E)):=(Below.refl _ _).alloc (Nat.le_refl _) _
 refine ⟨some ⟨w.heap.size,0,none⟩,xs.length,ds,rfl,Nat.le_refl _,hn,by simp,?_,.inr ⟨w.heap.size,0,rfl,by simp,fun j u hj => ?_⟩⟩
 ·exact (h.frame (fun b h1 _ => hb.block b h1)).mono (fun b h1 h2 => h2)
 ·rw [Nat.zero_add,World.cell?_alloc_at _ _ _ _ rfl]
  simpa using hj
end Go.Proofs.Ytgngidchldajhaa
namespace Go.Proofs.Ytgngidchldajhaa
open Go.RowKit
theorem mixed_ok:Try.prog.follows .mixedOrders = true:=by kernel_rfl
section
variable {P:Program} {f:FuncId}
theorem rdLL {A:Nat→Prop} {w:World} {xs:List (List Int)} {v:Value} (h:relArg A w (eLL xs) v):(RS (RS RI)).rd A w [v] xs:=((encS (encS encI)).rdV (x:=xs) rfl).2 h
theorem afn_L_s {t:List Int} {d:D} {v:Value} (eg:∀ args w,(callFunc f args).run P w = .ok (.enter f args) w) (hd:∀ A w,rdV A w v d) (h:∀ u w,Rd (RS RI) w [u] t→Calls P f #[u] w (RetS w v)):AFn P f [eL t] (· = [.val d]) :=
 AFn.of_s eg hd (fun w A vs ⟨v1,_,e1,h1,e2⟩ => by subst e2;subst e1;exact h v1 w (Rd.of (rd1 h1)))
theorem afn_L_q {t:List Int} {d:D} {v:Value} (eg:∀ args w,(callFunc f args).run P w = .ok (.enter f args) w) (hd:∀ A w,rdV A w v d) (h:∀ u w,Rd (RS RI) w [u] t→Calls P f #[u] w (RetQ w v)):AFn P f [eL t] (· = [.val d]) :=
 AFn.of_q eg hd (fun w A vs ⟨v1,_,e1,h1,e2⟩ => by subst e2;subst e1;exact h v1 w (Rd.of (rd1 h1)))
theorem afn_LL_q {s t:List Int} {d:D} {v:Value} (eg:∀ args w,(callFunc f args).run P w = .ok (.enter f args) w) (hd:∀ A w,rdV A w v d) (h:∀ u1 u2 w,Rd (RS RI) w [u1] s→Rd (RS RI) w [u2] t→Calls P f #[u1,u2] w (RetQ w v)):AFn P f [eL s,eL t] (· = [.val d]) :=
 AFn.of_q eg hd (fun w A vs ⟨v1,_,e1,h1,v2,_,e2,h2,e3⟩ => by subst e3;subst e2;subst e1;exact h v1 v2 w (Rd.of (rd1 h1)) (Rd.of (rd1 h2)))
theorem afn_L_o {t r:List Int} (eg:∀ args w,(callFunc f args).run P w = .ok (.enter f args) w) (h:∀ u w,Rd (RS RI) w [u] t→Calls P f #[u] w (RetO (RS RI) w r)):AFn P f [eL t] (· = [.own 1 (r.map eI) true]) :=
 AFn.of_o encI eg (fun w A vs ⟨v1,_,e1,h1,e2⟩ => by subst e2;subst e1;exact h v1 w (Rd.of (rd1 h1)))
theorem afn_LLL_oo {t r:List (List Int)} (eg:∀ args w,(callFunc f args).run P w = .ok (.enter f args) w) (h:∀ u w,Rd (RS (RS RI)) w [u] t→Calls P f #[u] w (RetO (RS (RS RI)) w r)):AFn P f [eLL t] (· = [.own 1 (r.map eL) true]) :=
 AFn.of_o (encS encI) eg (fun w A vs ⟨v1,_,e1,h1,e2⟩ => by subst e2;subst e1;exact h v1 w (Rd.of (rdLL h1)))
theorem afn_LLL_s {t:List (List Int)} {d:D} {v:Value} (eg:∀ args w,(callFunc f args).run P w = .ok (.enter f args) w) (hd:∀ A w,rdV A w v d) (h:∀ u w,Rd (RS (RS RI)) w [u] t→Calls P f #[u] w (RetS w v)):AFn P f [eLL t] (· = [.val d]) :=
 AFn.of_s eg hd (fun w A vs ⟨v1,_,e1,h1,e2⟩ => by subst e2;subst e1;exact h v1 w (Rd.of (rdLL h1)))
end
def Rg {α:Type} (R:Rep α) (lo hi:Nat) (w:World) (cs:List Value) (x:α):Prop:=R.rd (fun b => lo ≤ b∧b < hi) w cs x
theorem Rg.rd {α:Type} {R:Rep α} {lo hi:Nat} {w:World} {cs:List Value} {x:α} (h:Rg R lo hi w cs x):Rd R w cs x:=R.rd_mono h (fun _ _ h => h)
theorem Rg.frame {α:Type} {R:Rep α} {lo hi:Nat} {w w':World} {cs:List Value} {x:α} (h:Rg R lo hi w cs x) (hf:∀ b,lo ≤ b→b < hi→b < w.heap.size→w'.heap[b]? = w.heap[b]?):Rg R lo hi w' cs x:=R.rd_frame h (fun b hb hl => hf b hb.1 hb.2 hl)
theorem Rg.below {α:Type} {R:Rep α} {lo hi B:Nat} {w w':World} {cs:List Value} {x:α} (h:Rg R lo hi w cs x) (hb:Below B w w') (hB:hi ≤ B):Rg R lo hi w' cs x:=h.frame (fun b _ h2 _ => hb.block b (by omega))
theorem Rg.apart {α:Type} {R:Rep α} {w w':World} {cs:List Value} {x:α} {lo hi l h:Nat} (o:Rg R l h w cs x) (c:Chg lo hi w w') (ha:h ≤ lo ∨ hi ≤ l):Rg R l h w' cs x:=o.frame (fun b h1 h2 h3 => c.block b h3 (by omega))
section
variable {P:Program} {f:FuncId} {α:Type} {R:Rep α} {e:α→List D}
theorem AFn.one {ds:List (List D)} {v:Value} {d:D} (hd:∀ A w u,rdV A w u d→u = v) (h:AFn P f ds (· = [.val d])) {w:World} {vs:List Value} (hv:relArgs (· < w.heap.size) w ds vs) :
  Calls P f vs.toArray w (RetV w v):=by
 refine (h.fn _ w vs (fun _ h => h) hv).mono ?_
 rintro e' w' ⟨v',rs,rfl,rfl,hb,us,G,X,rfl,hG,hG2,u,us',G1,G2,Y1,Y2,rfl,rfl,rfl,h1,⟨h4,_,_⟩,rfl,rfl,rfl⟩
 rw [hd _ _ _ h4]
 exact ⟨rfl,hb⟩
theorem args1 {w:World} {a:List D} {u:Value} (h:relArg (· < w.heap.size) w a u):relArgs (· < w.heap.size) w [a] [u]:=⟨u,[],rfl,h,rfl⟩
end
def eLT (p:List Int × List Nat):List D:=[.tag p.2 (.sl 1 (p.1.map eI))]
theorem tag_rows:∀ {rows:List (List Int)} {xs':List (List D)} {F:List Nat},TagL (rows.map eL) xs' F→∃ ps:List (List Int × List Nat),rows = ps.map (·.1)∧xs' = ps.map eLT∧F = (ps.map (·.2)).flatten
 | [],xs',F,⟨h1,h2⟩ => ⟨[],rfl,h1,h2⟩
 | r :: rows,xs',F,⟨y,ys,G,H,h1,h2,h3,h4⟩ => by
  obtain ⟨ps,e1,e2,e3⟩:=tag_rows h4
  obtain ⟨y',ys',G',H',k1,k2,k3,k4,k5⟩:=h3
  subst k4;subst k5
  rcases k3 with rfl|⟨k3,_⟩
  ·exact ⟨(r,G') :: ps,by rw [e1];rfl,by rw [h1,k1,e2];rfl,by rw [h2,k2,e3];simp⟩
  ·cases k3
end Go.Proofs.Ytgngidchldajhaa
namespace Go.Proofs.Ytgngidchldajhaa
open Go.RowKit
def RetOC {α:Type} (R:Rep α) (w:World) (x:α) (code:Int):Ending→World→Prop :=
 fun e w' => ∃ u,e = .returned (.tuple #[u,.int .i64 code])∧Own R w.heap.size w'.heap.size w' [u] x∧Below w.heap.size w w'
end Go.Proofs.Ytgngidchldajhaa
namespace Go.Proofs.Ytgngidchldajhaa
open Go.RowKit
section
variable {P:Program} {w:World}
theorem ext_core (t ty e:TypeId) (T:ST P t e (.int .i64 0) 1 8) (v:Value) (xs:List Int) (lo M:Nat) (hv:Own (RS RI) lo M w [v] xs) (vx:Value) (ys:List Int) (hy:Rd (RS RI) w [vx] ys)
  (hM:M ≤ w.heap.size) (hlo:lo ≤ M) (hlen:xs.length + ys.length ≤ 1000000000) :
  ∃ v' w',(Builtin.append_ #[t,t] ty #[v,vx]).run P w = .ok v' w'∧Own (RS RI) lo w'.heap.size w' [v'] (xs ++ ys)∧Below lo w w':=by
 obtain ⟨og,ds,F,hrow,hel,hF,hlt⟩:=hv.open
 obtain ⟨rfl,rfl,hb⟩:=ownL_ints hel
 obtain ⟨oa,cap,I⟩:=hy.ints
 obtain rfl:=I.val
 have hm:=I.capLe
 obtain ⟨v',w',og',hr,happ⟩:=run_append_row (P:=P) (w:=w) t ty e (.int .i64 0) 1 8 T v xs.length _ og hrow oa ys.length cap (ys.map (Value.int .i64)) (by simp) (fun h => by have:=I.noneCap h;have:=I.le;omega) (Row.cells_ints I)
  (by intro u hu;obtain ⟨x,_,rfl⟩:=List.mem_map.1 hu;rfl) (by omega) (by unfold maxLen;omega)
 have hlow:=happ.low (B:=lo) (by omega) (fun g hg => (hlt g (by simp [hg])).1)
 refine ⟨v',w',hr,Row.OwnI (og:=og') ?_ ?_ hlow.1,hlow.2⟩
 ·have:=happ.1
  rw [← List.map_append,← List.length_append] at this
  exact this
 ·intro x hx
  rcases List.mem_append.1 hx with hx|hx
  ·exact hb x hx
  ·exact I.bd x hx
theorem step_extI {ops:Array Oper} {o:Oper} {a:Act} {K:Act→World→Prop} {Q:Exit→Act→World→Prop} {E:Prop} (hgd:o.guard = none) (s x:Operand) (t:TypeId)
  (ho:o.op = .call { callee:=.builtin .append,args:=#[s,x],argTypes:=#[t,t] }) (e:TypeId) (T:ST P t e (.int .i64 0) 1 8)
  (v:Value) (xs:List Int) (lo M:Nat) (hs:a.eval s = v) (hv:Own (RS RI) lo M w [v] xs) (vx:Value) (ys:List Int) (hx:a.eval x = vx) (hy:Rd (RS RI) w [vx] ys)
  (hM:M ≤ w.heap.size) (hlo:lo ≤ M) (hlen:xs.length + ys.length ≤ 1000000000) (zs:List Int) (hzs:xs ++ ys = zs)
  (h:∀ oa cap w',Own (RS RI) lo w'.heap.size w' [.slice oa zs.length cap] zs→zs.length ≤ cap→cap ≤ 9223372036854775807→Below lo w w'→K (a.put o.dst (.slice oa zs.length cap)) w') :
  if Region.wanted o (yielded ops a.tmps) = true then Oper.wp P o a w K Q else E:=by
 have hw:Region.wanted o (yielded ops a.tmps) = true:=by simp [Region.wanted,hgd]
 rw [if_pos hw]
 subst hzs
 obtain ⟨v',w',hr,hown,hb⟩:=ext_core (P:=P) t o.type e T v xs lo M hv vx ys hy hM hlo hlen
 obtain ⟨oa,cap,rfl,h1,h2⟩:=hown.val
 unfold Oper.wp execOp
 simp only [ho,resolve,invoke,builtin,Sem.run_bind,Sem.run_pure,Result.andThen_ok,List.map_toArray,List.map_cons,List.map_nil,hs,hx,hr]
 exact h oa cap w' hown h1 h2 hb
end
end Go.Proofs.Ytgngidchldajhaa
namespace Go.Proofs.Ytgngidchldajhaa
open Go.RowKit
def endOf (t:List Int) (n:Nat):Nat:=n + 1 + ((t.drop (n + 1)).takeWhile (fun l => decide (t.getD n 0 < l))).length
def cutB (t:List Int) (n:Nat):List Int:=((t.take (endOf t n)).drop n).map (· - t.getD n 0)
def cutT (t:List Int) (n:Nat):List Int:=t.take n ++ t.drop (endOf t n)
def levGo:Int→List Int→Bool
 | _,[] => true
 | p,x :: xs => decide (1 ≤ x) && (decide (x ≤ p + 1) && levGo x xs)
def levQ:List Int→Bool
 | [] => false
 | x :: xs => decide (x = 0) && (levGo 0 xs && Nat.ble xs.length 7)
theorem levGo_ok:∀ (xs:List Int) (p:Int),levGo p xs = true→levOk p xs
 | [],_,_ => trivial
 | x :: xs,p,h => by
  simp only [levGo,Bool.and_eq_true,decide_eq_true_eq] at h
  exact ⟨h.1,h.2.1,levGo_ok xs x h.2.2⟩
theorem levQ_lev8 {t:List Int} (h:levQ t = true):lev8 t = true:=by
 cases t with
 | nil => cases h
 | cons x xs =>
  simp only [levQ,Bool.and_eq_true,decide_eq_true_eq] at h
  obtain ⟨rfl,h1,h2⟩:=h
  refine lev8_mk ((LevP_iff _).2 ⟨xs,rfl,levGo_ok xs 0 h1⟩) ?_
  have:=Nat.le_of_ble_eq_true h2
  simp only [List.length_cons]
  omega
end Go.Proofs.Ytgngidchldajhaa
namespace Go.Proofs.Ytgngidchldajhaa
open Go.RowKit
theorem sortC_take_succ' {c:List Int→List Int→Int} {t:List (List Int)} (k:Nat) (h:k < t.length):sortC c (t.take (k + 1)) = ins c t[k] (sortC c (t.take k)):=by
 rw [List.take_succ_eq_append_getElem h,sortC_snoc]
theorem own_step {W:World} {ops:Array Oper} {o:Oper} {a:Act} {K:Act→World→Prop} {Q:Exit→Act→World→Prop} {E:Prop} (hgd:o.guard = none) (args:Array Operand) (ts:Array TypeId)
  (ho:o.op = .call { callee:=.value (.func 99),args:=args,argTypes:=ts }) (v:Value) (x:List Int) (hv:args.map a.eval = #[v]) (wb:World) (hW:W.heap = wb.heap) (hr:Rd (RS RI) wb [v] x) (hxl:x.length ≤ 1000000000)
  (h:∀ ou cu w2,Own (RS RI) wb.heap.size w2.heap.size w2 [.slice ou x.length cu] x→Below wb.heap.size W w2→wb.heap.size ≤ w2.heap.size→K (a.put o.dst (.slice ou x.length cu)) w2) :
  if Region.wanted o (yielded ops a.tmps) = true then Oper.wp Try.prog o a W K Q else E:=by
 refine step_call hgd 99 args ts ho (enters (P:=Try.prog) (f:=99) Try.func99 (by kernel_rfl) rfl) #[v] hv ?_
 refine (c_spec_l01Own v x W (hr.of_heap hW) hxl).mono ?_
 rintro e w2 ⟨u,rfl,o2,b2⟩
 obtain ⟨ou,cu,rfl,_⟩:=o2.val
 rw [hW] at o2 b2
 exact ⟨_,rfl,h ou cu w2 o2 b2 (by have:=b2.size;rw [hW] at this;exact this)⟩
set_option maxRecDepth 100000 in
set_option maxHeartbeats 4000000 in
theorem c_spec_l03Sort (v:Value) (bs:List (List Int)) (w:World) (h:Rd (RS (RS RI)) w [v] bs) (hsz:bs.length ≤ 1000000) (hsl:∀ b ∈ bs,b.length ≤ 1000000000) :
  Calls Try.prog 106 #[v] w (RetO (RS (RS RI)) w (forest bs)):=by
 obtain ⟨oa,cap,L⟩:=h.lists
 obtain rfl:=L.val
 have m1:=L.le;have m2:=L.capLe
 have HL:=Lib.hid L
 have HS:=Lib.hid hsl
 have EGL:=Lib.hid (enters (P:=Try.prog) (f:=99) Try.func99 (by kernel_rfl) rfl)
 clear L h hsl
 go_enter Try.func106,Try.ntmps106
 go_wp2_with fail
 go_loopw [3,4] (fun o i wr => ∃ (k:Nat) (ys:List (List Int)),k ≤ bs.length∧i = .int .i64 k∧Hid (ys = sortC cmpT (bs.take k))∧Hid (ys.length = k)∧(∃ g cap,o = .slice (some ⟨g,0,none⟩) ys.length cap)∧Hid (Own (RS (RS RI)) w.heap.size wr.heap.size wr [o] ys)∧Below w.heap.size w wr) (fun _ i _ => bs.length - (intOf i).toNat)
 case atStart => exact ⟨0,[],Nat.zero_le _,rfl,Lib.hid (by simp [sortC]),Lib.hid rfl,⟨_,_,rfl⟩,Lib.hid ((Own.empty (R:=RS RI) (w:=w) 27 w.heap.size (Nat.le_refl _)).top _ (by simp)),(Below.refl _ _).alloc (Nat.le_refl _) _⟩
 case round =>
  obtain ⟨k,ys,hk,rfl,hys,Hyl,⟨g0,cap0,rfl⟩,hown,hbel⟩:=hrel
  have hsz2:=hbel.size
  obtain ⟨wo,hwo⟩:∃ wo:World,wo = wr:=⟨_,rfl⟩
  subst hwo
  by_cases hlt:k < bs.length
  ·obtain ⟨b,off,rfl,hb,hc⟩:=HL.out.get hlt
   obtain ⟨oi,ci,g1,hrd,q1,q2⟩:=hc k hlt
   have g2:wo.cell? ⟨b,off + k,none⟩ = some (.slice oi bs[k].length ci):=(hbel.cell (p:=⟨b,off + k,none⟩) hb).trans g1
   have hst:=sortC_take_succ' (c:=cmpT) k hlt
   rw [← hys.out] at hst
   obtain ⟨x,hx⟩:∃ x,x = bs[k]:=⟨_,rfl⟩
   have hxl:x.length ≤ 1000000000:=by rw [hx];exact HS.out _ (List.getElem_mem hlt)
   rw [← hx] at g2 hrd q1 hst
   have HST:=Lib.hid hst
   have HR:=Lib.hid (hrd.below hbel (Nat.le_refl _))
   have HOO:Hid (∀ (W' w2:World),W'.heap = wo.heap→Below wo.heap.size W' w2→Own (RS (RS RI)) w.heap.size wo.heap.size w2 [.slice (some ⟨g0,0,none⟩) ys.length cap0] ys):=Lib.hid (fun W' w2 e b => (hown.out.of_heap e).below b (Nat.le_refl _))
   have ik1:(0:Int) ≤ (k:Int):=by omega
   have ik2:(k:Int) < (bs.length:Int):=by omega
   clear hst hc g1 hx hrd
   go_wp2_with fail
   go_loopw [5] (fun i wr => ∃ (j:Nat),j ≤ ys.length∧i = .int .i64 j∧Hid (∀ q (h:q < ys.length),q < j→¬ cmpT x ys[q] < 0)∧∃ n,wr = wo.drewN n) (fun i _ => ys.length - (intOf i).toNat)
   case atStart => exact ⟨0,Nat.zero_le _,rfl,Lib.hid (fun q _ h => by omega),0,rfl⟩
   case round =>
    obtain ⟨j,hj,rfl,hall,nd,rfl⟩:=hrel
    have HO3:Hid (Own (RS (RS RI)) w.heap.size wo.heap.size (wo.drewN nd) [.slice (some ⟨g0,0,none⟩) ys.length cap0] ys):=hown.out.of_heap rfl
    have g3:(wo.drewN nd).cell? ⟨b,off + k,none⟩ = some (.slice oi x.length ci):=g2
    have hyb:ys.length ≤ 1000000:=by rw [Hyl.out];omega
    have hle4:=hown.out.val
    obtain ⟨_,_,ev,le4,_⟩:=hle4
    simp only [Value.slice.injEq,true_and] at ev
    obtain ⟨rfl,rfl⟩:=ev
    by_cases hjl:j < ys.length
    ·obtain ⟨g',cap',h0,hv,q1',q2',hg1',hg2',hcell,hel⟩:=HO3.out.elem j hjl
     simp only [Value.slice.injEq,true_and] at hv
     obtain ⟨e1,e2⟩:=hv
     simp only [Option.some.injEq,Addr.mk.injEq,and_true] at e1
     subst e1;subst e2
     obtain ⟨oj,cj,rfl,_⟩:=hel.val
     have hls:∀ a,Calls Try.prog 65 #[.slice oi x.length ci,.slice oj ys[j].length cj] (wo.drewN (nd + a)) (RetQ (wo.drewN (nd + a)) (.bool (decide (cmpT x ys[j] < 0)))):=fun a => c_spec_l03Before _ _ x ys[j] _ (HR.out.of_heap rfl) (hel.rd.of_heap rfl)
     obtain ⟨yl,hyl'⟩:∃ yl,yl = ys[j].length:=⟨_,rfl⟩
     rw [← hyl'] at hls hcell
     replace hcell:wo.cell? ⟨g0,j,none⟩ = some (.slice oj yl cj):=hcell
     have ij1:(0:Int) ≤ (j:Int):=by omega
     have ij2:(j:Int) < (ys.length:Int):=by omega
     have ij3:decide ((j:Int) < (ys.length:Int)) = true:=decide_eq_true ij2
     clear hel hyl'
     by_cases hle:cmpT x ys[j] < 0
     ·have hd:decide (cmpT x ys[j] < 0) = true:=decide_eq_true hle
      rw [hd] at hls
      have HLS:=Lib.hid hls
      have HE:Hid (ins cmpT x ys = ys.take j ++ x :: ys.drop j):=Lib.hid (ins_at hj hall.out (fun _ => hle))
      clear hd hle hls
      go_wp2_with fail
      go_quiet ((go_at_call 65;exact Calls.qQ' (HLS.out _)))
      clear HLS hcell
      have hcj:¬ cap0 = j:=by omega
      go_wp2_with fail
      go_region_law (first
       | (refine own_step rfl _ _ rfl (.slice oi x.length ci) x (by simp [Act.eval]) wo (by rfl) HR.out hxl ?_;intro ou cu w2 o2 b2 hsz5;have HO4:=HOO.out _ _ (by rfl) b2;obtain ⟨d1,d2,t1l,t2l,t1,t2,t3,hcl,hmk⟩:=HO4.insRow (R:=RS RI) rfl hsz5 hsz2 o2 j hj;rw [← HE.out,← HST.out] at hmk;have T1L:=Lib.hid t1l;have T2L:=Lib.hid t2l;have hbel4:Below w.heap.size w w2:=(hbel.trans (Below.drewN _ _ _)).trans (b2.mono hsz2);clear t1l t2l o2 HO4)
       | (refine step_appendS rfl _ _ 34 rfl 27 (.slice none 0 0) 1 24 tI64S (.slice (some ⟨w2.heap.size,0,none⟩) 1 1) 1 [.slice ou x.length cu] (some w2.heap.size) rfl (by simpa using Row.lit w2 #[.slice ou x.length cu] 27 1 1 (by decide) (by simp)) _ _ _ d2 rfl (by have:=T2L.out;omega) (by intro h;cases h) (by intro a ha i u hi;cases ha;rw [Addr.add_lit];exact (hcl (w2.alloc _) ((Below.refl _ _).alloc (Nat.le_refl _) _)).2 i u hi) t2 (by have:=T2L.out;omega) (by have:=T2L.out;unfold maxLen;omega) ?_;intro vA wA ogA happA))
      all_goals
       replace happA:Appended (w2.alloc (.cells #[.slice ou x.length cu] 27)) wA vA 1 (1 + d2.length) ([.slice ou x.length cu] ++ d2) (some w2.heap.size) ogA:=by have e:=T2L.out;first|exact happA|(rw [e];simpa using happA)
       obtain ⟨oA,capA,rfl,pA1,pA2⟩:=happA.1.val
       unfold maxLen at pA2
       have lowA:=happA.low (B:=(w2).heap.size) (by simp) (fun g hg => by cases hg;exact Nat.le_refl _)
       have belA:Below (w2).heap.size (w2) wA:=((Below.refl _ _).alloc (Nat.le_refl _) _).trans lowA.2
       have sA:=belA.size
       have HA:=Lib.hid happA.1
       have HogA:=Lib.hid lowA.1
       have CA:=(hcl wA belA).1
       clear happA lowA
       go_wp2_with (at_builtin;refine StopAt (o:=⟨some 46,_,_,_,_,_⟩) ?_)
       refine Stop.go ?_
       refine wpList_appendS rfl _ _ 34 rfl 27 (.slice none 0 0) 1 24 tI64S (.slice (some ⟨wA.heap.size,0,none⟩) 0 0) 0 [] (some wA.heap.size) rfl (by simpa using Row.lit wA #[] 27 1 0 (by decide) (by simp)) (some ⟨g0,0,none⟩) j _ d1 rfl (by have:=T1L.out;omega) (fun h => by cases h) (by intro a ha i u hi;cases ha;rw [Addr.add_lit,Nat.zero_add];have:=(hcl (wA.alloc (.cells #[] 27)) (belA.alloc sA _)).1 i u hi;exact this) t1 (by have:=T1L.out;omega) (by unfold maxLen;omega) ?_
       intro vB wB ogB happB
       rw [Nat.zero_add,List.nil_append] at happB
       obtain ⟨oB,capB,rfl,pB1,pB2⟩:=happB.1.val
       unfold maxLen at pB2
       have lowB:=happB.low (B:=(w2).heap.size) (Nat.le_trans sA (by simp)) (fun g hg => by cases hg;exact sA)
       have lowB2:=happB.low (B:=wA.heap.size) (by simp) (fun g hg => by cases hg;exact Nat.le_refl _)
       have belB2:Below wA.heap.size wA wB:=((Below.refl _ _).alloc (Nat.le_refl _) _).trans lowB2.2
       have belB:Below (w2).heap.size (w2) wB:=belA.trans (belB2.mono sA)
       have sB:=belB.size
       have hrA:Row wB (.slice oA (1 + d2.length) capA) 1 (1 + d2.length) ([(.slice ou x.length cu)] ++ d2) ogA:=HA.out.frame (fun g hg => belB2.block g (HA.out.lt g hg))
       obtain ⟨gA,hgA⟩:=hrA.some_of (j:=0) (by omega)
       subst hgA
       obtain ⟨oA',cA',eA,_,_,_,eA2⟩:=hrA.value
       simp only [Value.slice.injEq,true_and] at eA
       obtain ⟨rfl,rfl⟩:=eA
       simp only [Option.map_some] at eA2
       subst eA2
       have HRA:=Lib.hid hrA
       have HB:=Lib.hid happB.1
       have HogB:=Lib.hid lowB.1
       clear hrA happB lowB lowB2 CA
       go_wp2_with (at_builtin;refine StopAt (o:=⟨some 48,_,_,_,_,_⟩) ?_)
       refine Stop.go ?_
       refine wpList_appendS rfl _ _ 34 rfl 27 (.slice none 0 0) 1 24 tI64S (.slice oB j capB) j d1 ogB rfl HB.out (some ⟨gA,0,none⟩) _ _ ([(.slice ou x.length cu)] ++ d2) rfl (by simp <;> omega) (fun h => by cases h) (by intro a ha i u hi;cases ha;rw [Addr.add_lit,Nat.zero_add];exact HRA.out.cells i u hi) (fun u hu => (List.mem_append.1 hu).elim (fun h => by simp at h;subst h;exact t3) (t2 u)) (by have:=T2L.out;omega) (by have:=T2L.out;unfold maxLen;omega) ?_
       intro vC wC ogC happC
       have lowC:=happC.low (B:=(w2).heap.size) sB HogB.out
       have belC:Below (w2).heap.size (w2) wC:=belB.trans lowC.2
       have hrC:=happC.1
       have eN:j + (1 + d2.length) = ys.length + 1:=by have:=T1L.out;have:=T2L.out;omega
       rw [eN,List.singleton_append] at hrC
       have hfin:=hmk wC vC ogC belC hrC lowC.1
       obtain ⟨gC,hgC⟩:=hrC.some_of (j:=0) (by omega)
       subst hgC
       obtain ⟨capC,hvC,_,_⟩:=hrC.slice
       subst hvC
       have HFIN:=Lib.hid hfin
       clear hfin hrC happC lowC HA HB HRA HogA HogB eN
       have hfl:(sortC cmpT (bs.take (k + 1))).length = ys.length + 1:=by rw [sortC_length];simp;rw [Hyl.out];omega
       obtain ⟨zs,hzs⟩:∃ zs,zs = sortC cmpT (bs.take (k + 1)):=⟨_,rfl⟩
       rw [← hzs] at HFIN hfl
       have hkz:zs.length = k + 1:=by rw [hfl,Hyl.out]
       rw [← hfl] at HFIN
       rw [← hfl]
       have HZ:=Lib.hid hzs
       have HKZ:=Lib.hid hkz
       clear hzs hfl hkz
       go_wp2_with fail
       go_roundw
       case rel => exact ⟨k + 1,zs,by omega,by go_num,HZ,HKZ,⟨_,_,rfl⟩,HFIN,hbel4.trans (belC.mono (Nat.le_trans hsz2 hsz5))⟩
       case measure => simp [intOf];omega
     ·have hd:decide (cmpT x ys[j] < 0) = false:=decide_eq_false hle
      rw [hd] at hls
      have HLS:=Lib.hid hls
      have HN:Hid (¬ cmpT x ys[j] < 0):=Lib.hid hle
      clear hd hle hls
      go_wp2_with fail
      go_quiet ((go_at_call 65;exact Calls.qQ' (HLS.out _)))
      go_wp2_with fail
      go_roundw
      case rel =>
       refine ⟨j + 1,by omega,by go_num,Lib.hid (fun q h hq => ?_),(by first|exact drewN1 _ _|exact drewN2 _ _ _|exact drewN3 _ _ _ _)⟩
       by_cases hqj:q = j
       ·subst hqj;have:=HN.out;omega
       ·have:=hall.out q h (by omega);omega
      case measure => simp [intOf];omega
    ·obtain rfl:j = ys.length:=by omega
     have HE:Hid (ins cmpT x ys = ys.take ys.length ++ x :: ys.drop ys.length):=Lib.hid (ins_at hj hall.out (fun h => by omega))
     have ij3:decide ((ys.length:Int) < (ys.length:Int)) = false:=by simp
     go_wp2_with fail
     go_quiet (fail)
     by_cases hcj:cap0 = ys.length
     all_goals
      go_wp2_with fail
      go_region_law (first
       | (refine own_step rfl _ _ rfl (.slice oi x.length ci) x (by simp [Act.eval]) wo (by rfl) HR.out hxl ?_;intro ou cu w2 o2 b2 hsz5;have HO4:=HOO.out _ _ (by rfl) b2;obtain ⟨d1,d2,t1l,t2l,t1,t2,t3,hcl,hmk⟩:=HO4.insRow (R:=RS RI) rfl hsz5 hsz2 o2 ys.length hj;rw [← HE.out,← HST.out] at hmk;have T1L:=Lib.hid t1l;have T2L:=Lib.hid t2l;have hbel4:Below w.heap.size w w2:=(hbel.trans (Below.drewN _ _ _)).trans (b2.mono hsz2);clear t1l t2l o2 HO4)
       | (refine step_appendS rfl _ _ 34 rfl 27 (.slice none 0 0) 1 24 tI64S (.slice (some ⟨w2.heap.size,0,none⟩) 1 1) 1 [.slice ou x.length cu] (some w2.heap.size) rfl (by simpa using Row.lit w2 #[.slice ou x.length cu] 27 1 1 (by decide) (by simp)) _ _ _ d2 rfl (by have:=T2L.out;omega) (by intro h;simp) (by intro a ha i u hi;rw [List.eq_nil_of_length_eq_zero (l:=d2) (by have:=T2L.out;omega)] at hi;simp at hi) t2 (by have:=T2L.out;omega) (by have:=T2L.out;unfold maxLen;omega) ?_;intro vA wA ogA happA))
      all_goals
       replace happA:Appended (w2.alloc (.cells #[.slice ou x.length cu] 27)) wA vA 1 (1 + d2.length) ([.slice ou x.length cu] ++ d2) (some w2.heap.size) ogA:=by have e:=T2L.out;first|exact happA|(rw [e];simpa using happA)
       obtain ⟨oA,capA,rfl,pA1,pA2⟩:=happA.1.val
       unfold maxLen at pA2
       have lowA:=happA.low (B:=(w2).heap.size) (by simp) (fun g hg => by cases hg;exact Nat.le_refl _)
       have belA:Below (w2).heap.size (w2) wA:=((Below.refl _ _).alloc (Nat.le_refl _) _).trans lowA.2
       have sA:=belA.size
       have HA:=Lib.hid happA.1
       have HogA:=Lib.hid lowA.1
       have CA:=(hcl wA belA).1
       clear happA lowA
       go_wp2_with (at_builtin;refine StopAt (o:=⟨some 46,_,_,_,_,_⟩) ?_)
       refine Stop.go ?_
       refine wpList_appendS rfl _ _ 34 rfl 27 (.slice none 0 0) 1 24 tI64S (.slice (some ⟨wA.heap.size,0,none⟩) 0 0) 0 [] (some wA.heap.size) rfl (by simpa using Row.lit wA #[] 27 1 0 (by decide) (by simp)) (some ⟨g0,0,none⟩) ys.length _ d1 rfl (by have:=T1L.out;omega) (fun h => by cases h) (by intro a ha i u hi;cases ha;rw [Addr.add_lit,Nat.zero_add];have:=(hcl (wA.alloc (.cells #[] 27)) (belA.alloc sA _)).1 i u hi;exact this) t1 (by have:=T1L.out;omega) (by unfold maxLen;omega) ?_
       intro vB wB ogB happB
       rw [Nat.zero_add,List.nil_append] at happB
       obtain ⟨oB,capB,rfl,pB1,pB2⟩:=happB.1.val
       unfold maxLen at pB2
       have lowB:=happB.low (B:=(w2).heap.size) (Nat.le_trans sA (by simp)) (fun g hg => by cases hg;exact sA)
       have lowB2:=happB.low (B:=wA.heap.size) (by simp) (fun g hg => by cases hg;exact Nat.le_refl _)
       have belB2:Below wA.heap.size wA wB:=((Below.refl _ _).alloc (Nat.le_refl _) _).trans lowB2.2
       have belB:Below (w2).heap.size (w2) wB:=belA.trans (belB2.mono sA)
       have sB:=belB.size
       have hrA:Row wB (.slice oA (1 + d2.length) capA) 1 (1 + d2.length) ([(.slice ou x.length cu)] ++ d2) ogA:=HA.out.frame (fun g hg => belB2.block g (HA.out.lt g hg))
       obtain ⟨gA,hgA⟩:=hrA.some_of (j:=0) (by omega)
       subst hgA
       obtain ⟨oA',cA',eA,_,_,_,eA2⟩:=hrA.value
       simp only [Value.slice.injEq,true_and] at eA
       obtain ⟨rfl,rfl⟩:=eA
       simp only [Option.map_some] at eA2
       subst eA2
       have HRA:=Lib.hid hrA
       have HB:=Lib.hid happB.1
       have HogB:=Lib.hid lowB.1
       clear hrA happB lowB lowB2 CA
       go_wp2_with (at_builtin;refine StopAt (o:=⟨some 48,_,_,_,_,_⟩) ?_)
       refine Stop.go ?_
       refine wpList_appendS rfl _ _ 34 rfl 27 (.slice none 0 0) 1 24 tI64S (.slice oB ys.length capB) ys.length d1 ogB rfl HB.out (some ⟨gA,0,none⟩) _ _ ([(.slice ou x.length cu)] ++ d2) rfl (by simp <;> omega) (fun h => by cases h) (by intro a ha i u hi;cases ha;rw [Addr.add_lit,Nat.zero_add];exact HRA.out.cells i u hi) (fun u hu => (List.mem_append.1 hu).elim (fun h => by simp at h;subst h;exact t3) (t2 u)) (by have:=T2L.out;omega) (by have:=T2L.out;unfold maxLen;omega) ?_
       intro vC wC ogC happC
       have lowC:=happC.low (B:=(w2).heap.size) sB HogB.out
       have belC:Below (w2).heap.size (w2) wC:=belB.trans lowC.2
       have hrC:=happC.1
       have eN:ys.length + (1 + d2.length) = ys.length + 1:=by have:=T1L.out;have:=T2L.out;omega
       rw [eN,List.singleton_append] at hrC
       have hfin:=hmk wC vC ogC belC hrC lowC.1
       obtain ⟨gC,hgC⟩:=hrC.some_of (j:=0) (by omega)
       subst hgC
       obtain ⟨capC,hvC,_,_⟩:=hrC.slice
       subst hvC
       have HFIN:=Lib.hid hfin
       clear hfin hrC happC lowC HA HB HRA HogA HogB eN
       have hfl:(sortC cmpT (bs.take (k + 1))).length = ys.length + 1:=by rw [sortC_length];simp;rw [Hyl.out];omega
       obtain ⟨zs,hzs⟩:∃ zs,zs = sortC cmpT (bs.take (k + 1)):=⟨_,rfl⟩
       rw [← hzs] at HFIN hfl
       have hkz:zs.length = k + 1:=by rw [hfl,Hyl.out]
       rw [← hfl] at HFIN
       rw [← hfl]
       have HZ:=Lib.hid hzs
       have HKZ:=Lib.hid hkz
       clear hzs hfl hkz
       go_wp2_with fail
       go_roundw
       case rel => exact ⟨k + 1,zs,by omega,by go_num,HZ,HKZ,⟨_,_,rfl⟩,HFIN,hbel4.trans (belC.mono (Nat.le_trans hsz2 hsz5))⟩
       case measure => simp [intOf];omega
  ·have hfin:Hid (ys = forest bs):=Lib.hid (by rw [hys.out,List.take_of_length_le (by omega)];rfl)
   have hkb:¬ ((k:Int) < (bs.length:Int)):=by omega
   clear hlt
   go_wp2_with fail
   go_ret
   exact ⟨_,rfl,by rw [← hfin.out];exact hown.out,hbel⟩
end Go.Proofs.Ytgngidchldajhaa
namespace Go.Proofs.Ytgngidchldajhaa
open Go.RowKit
set_option maxRecDepth 100000 in
set_option maxHeartbeats 400000 in
theorem c_impl_areLevels1 (v:Value) (t:List Int) (w:World) (h:Rd (RS RI) w [v] t):Calls Try.prog 92 #[v] w (RetS w (.bool (!lev8 t))):=by
 have hc:=c_impl_IsLevels v t w h
 go_enter Try.func92,Try.ntmps92
 go_wp2_with (go_at_call 19;refine hc.mono ?_;rintro e w' ⟨rfl,rfl⟩)
 go_ret
 exact ⟨rfl,rfl⟩
set_option maxRecDepth 100000 in
set_option maxHeartbeats 1000000 in
theorem c_IndexFunc_notLev (v:Value) (xs:List (List Int)) (w:World) (h:Rd (RS (RS RI)) w [v] xs) :
  Calls Try.prog 114 #[v,.func (.func 92) #[] #[]] w fun e w' => (∃ n,e = .returned (.int .i64 n)∧decide (0 ≤ n) = !(xs.all lev8))∧w = w':=by
 obtain ⟨oa,cap,L⟩:=h.lists
 obtain rfl:=L.val
 have m1:=L.le;have m2:=L.capLe
 have HL:=Lib.hid L
 clear L h
 go_enter Try.func114,Try.ntmps114
 go_wp2_with fail
 go_loop [8] (fun i => ∃ k:Nat,k ≤ xs.length∧i = .int .i64 k∧(xs.take k).all lev8 = true) (fun i => xs.length - (intOf i).toNat)
 case atStart => exact ⟨0,Nat.zero_le _,rfl,by simp⟩
 case round =>
  obtain ⟨k,hk,rfl,hall⟩:=hrel
  have Hall:=Lib.hid hall
  clear hall
  by_cases hlt:k < xs.length
  ·obtain ⟨b,off,rfl,hb,hc⟩:=HL.out.get hlt
   obtain ⟨oi,ci,g1,hrd,q1,q2⟩:=hc k hlt
   obtain ⟨pb,hpb⟩:∃ pb,pb = lev8 xs[k]:=⟨_,rfl⟩
   have hcc:=c_impl_areLevels1 _ _ w hrd
   rw [← hpb] at hcc
   have hlt':=Lib.hid hlt
   cases pb
   ·have HP:=Lib.hid hpb.symm
    clear hc hrd hpb
    go_wp2_with (go_at_call 92;refine hcc.mono ?_;rintro e w' ⟨rfl,rfl⟩)
    go_ret
    exact ⟨⟨k,rfl,by rw [all_false_at _ _ k hlt'.out HP.out];simp⟩,rfl⟩
   ·have HP:=Lib.hid hpb.symm
    clear hc hrd hpb
    go_wp2_with (go_at_call 92;refine hcc.mono ?_;rintro e w' ⟨rfl,rfl⟩)
    go_round
    case rel => exact ⟨k + 1,by omega,by go_num,all_take_succ _ _ k hlt'.out Hall.out HP.out⟩
    case measure => simp [intOf];omega
  ·go_wp2_with fail
   go_ret
   exact ⟨⟨-1,rfl,by rw [all_of_take _ _ k (by omega) Hall.out];simp⟩,rfl⟩
set_option maxRecDepth 100000 in
set_option maxHeartbeats 400000 in
theorem c_ContainsFunc_notLev (v:Value) (xs:List (List Int)) (w:World) (h:Rd (RS (RS RI)) w [v] xs) :
  Calls Try.prog 91 #[v,.func (.func 92) #[] #[]] w (RetS w (.bool (!(xs.all lev8)))):=by
 go_enter Try.func91,Try.ntmps91
 go_wp2_with fail
 refine (c_IndexFunc_notLev v xs w h).mono ?_
 rintro e w' ⟨⟨n,rfl,hn⟩,rfl⟩
 have Hn:=Lib.hid hn
 clear hn
 go_wp2_with fail
 go_ret
 exact ⟨by rw [← Hn.out];rfl,rfl⟩
set_option maxRecDepth 100000 in
set_option maxHeartbeats 400000 in
theorem c_impl_areLevels (v:Value) (xs:List (List Int)) (w:World) (h:Rd (RS (RS RI)) w [v] xs) :
  Calls Try.prog 50 #[v] w (RetS w (.bool (xs.all lev8))):=by
 have hc:=c_ContainsFunc_notLev v xs w h
 go_enter Try.func50,Try.ntmps50
 go_wp2_with fail
 refine hc.mono ?_
 rintro e w' ⟨rfl,rfl⟩
 go_wp2_with fail
 go_ret
 exact ⟨by simp,rfl⟩
def forOf (xs:List (List Int)):List (List Int) × Int:=if xs.all lev8 = true then (if sumLen xs ≤ 8 then (forest (xs.map canon),0) else ([],3)) else ([],1)
theorem len_le_sum {xs:List (List Int)} (h:xs.all lev8 = true):xs.length ≤ sumLen xs:=by
 have:∀ bs:List (List Int),(∀ b ∈ bs,LevP b)→bs.length ≤ sumLen bs:=by
  intro bs
  induction bs with
  | nil => intro _;simp [sumLen]
  | cons b bs ih =>
   intro hb
   have:=ih (fun c hc => hb c (by simp [hc]))
   have:=(hb b (by simp)).pos
   simp only [sumLen,List.map_cons,List.sum_cons,List.length_cons] at *
   omega
 exact this xs (fun b hb => lev8_lev (List.all_eq_true.1 h b hb))
theorem forOf_ok {xs:List (List Int)} (h:xs.all lev8 = true) (h8:sumLen xs ≤ 8):forOf xs = (forest (xs.map canon),0):=by unfold forOf;rw [if_pos h,if_pos h8]
theorem forOf_many {xs:List (List Int)} (h:xs.all lev8 = true) (h8:¬ sumLen xs ≤ 8):forOf xs = ([],3):=by unfold forOf;rw [if_pos h,if_neg h8]
theorem forOf_bad {xs:List (List Int)} (h:xs.all lev8 = false):forOf xs = ([],1):=by unfold forOf;rw [if_neg (by simp [h])]
theorem map_take_succ {xs:List (List Int)} (f:List Int→List Int) (k:Nat) (h:k < xs.length):(xs.take (k + 1)).map f = (xs.take k).map f ++ [f xs[k]]:=by
 rw [List.take_succ_eq_append_getElem h,List.map_append];rfl
set_option maxRecDepth 100000 in
set_option maxHeartbeats 2000000 in
theorem k_impl_ForestOf (v:Value) (xs:List (List Int)) (w:World) (h:Rd (RS (RS RI)) w [v] xs) (hsz:szII xs) :
  Calls Try.prog 10 #[v] w (RetOC (RS (RS RI)) w (forOf xs).1 (forOf xs).2):=by
 have hsum:xs.length + sumLen xs ≤ 1048576:=hsz
 have hal:=c_impl_areLevels v xs w h
 have hnd:=c_impl_nodesIn v xs w h
 rw [nodesB_eq xs (by omega)] at hnd
 obtain ⟨oa,cap,L⟩:=h.lists
 obtain rfl:=L.val
 have m1:=L.le;have m2:=L.capLe
 have HL:=Lib.hid L
 clear L h
 cases hall:xs.all lev8
 ·rw [hall] at hal
  have hr:=Lib.hid (forOf_bad hall)
  clear hall
  go_enter Try.func10,Try.ntmps10
  go_wp2_with (go_at_call 50;refine hal.mono ?_;rintro e w' ⟨rfl,rfl⟩)
  go_ret2
  exact ⟨_,by rw [hr.out];rfl,by rw [hr.out];exact Own.nil _ _,Below.refl _ _⟩
 ·rw [hall] at hal
  by_cases h8:sumLen xs ≤ 8
  ·have hr:=Lib.hid (forOf_ok hall h8)
   have hlen:=len_le_sum hall
   have HA:=Lib.hid hall
   have h8':¬ ((sumLen xs:Nat):Int) > 8:=by omega
   have h8'':¬ (8:Int) < ((sumLen xs:Nat):Int):=by omega
   clear hall
   go_enter Try.func10,Try.ntmps10
   go_wp2_with (first|(go_at_call 50;refine hal.mono ?_;rintro e w' ⟨rfl,rfl⟩)|(go_at_call 51;refine hnd.mono ?_;rintro e w' ⟨rfl,rfl⟩))
   go_loopw [4,18] (fun o i wr => ∃ (k:Nat) (z:List (List Int)),k ≤ xs.length∧i = .int .i64 k∧Hid (z = (xs.take k).map canon)∧Hid (z.length = k)∧(∃ oa cap,o = .slice oa z.length cap)∧Hid (Own (RS (RS RI)) w.heap.size wr.heap.size wr [o] z)∧Below w.heap.size w wr) (fun _ i _ => xs.length - (intOf i).toNat)
   case atStart => exact ⟨0,[],Nat.zero_le _,rfl,Lib.hid rfl,Lib.hid rfl,⟨_,_,rfl⟩,Lib.hid ((Own.empty (R:=RS RI) (w:=w) 27 w.heap.size (Nat.le_refl _)).top _ (by simp)),(Below.refl _ _).alloc (Nat.le_refl _) _⟩
   case round =>
    obtain ⟨k,z,hk,rfl,hz,hzl,⟨o1,cap1,rfl⟩,hown,hbel⟩:=hrel
    have hsz1:=hbel.size
    by_cases hlt:k < xs.length
    ·obtain ⟨b,off,rfl,hb,hc⟩:=HL.out.get hlt
     obtain ⟨oi,ci,g1,hrd,q1,q2⟩:=hc k hlt
     have g2:wr.cell? ⟨b,off + k,none⟩ = some (.slice oi xs[k].length ci):=(hbel.cell (p:=⟨b,off + k,none⟩) hb).trans g1
     have hx8:lev8 xs[k] = true:=List.all_eq_true.1 HA.out _ (List.getElem_mem hlt)
     have hxl:=lev8_len hx8
     have hcn:=c_impl_canonical 13 (.slice oi xs[k].length ci) xs[k] wr (hrd.below hbel (Nat.le_refl _)) (lev8_lev hx8) (by omega) (by omega)
     have hnx:=map_take_succ canon k hlt
     rw [← hz.out] at hnx
     obtain ⟨x,hx⟩:∃ x,x = canon xs[k]:=⟨_,rfl⟩
     obtain ⟨xl,hxl'⟩:∃ xl,xl = xs[k].length:=⟨_,rfl⟩
     rw [← hx] at hnx hcn
     rw [← hxl'] at hcn g2 q1 hxl
     have HN:=Lib.hid hnx
     have hzb:z.length ≤ 8:=by rw [hzl.out];omega
     clear hc g1 hrd hx8 hx hxl' hnx
     go_wp2_with (first|(go_at_call 49;refine hcn.mono ?_;rintro e w2 ⟨u,rfl,o2,b2⟩;obtain ⟨ou,cu,rfl,lu1,lu2⟩:=o2.val)|(at_builtin;refine StopAt (o:=⟨some 26,_,_,_,_,_⟩) ?_))
     refine Stop.go ?_
     have hb2:=b2.size
     refine wpList_snoc (w:=w2) (R:=RS RI) rfl _ _ 34 rfl 27 (.slice none 0 0) 1 24 tI64S rfl (.slice o1 z.length cap1) z x [.slice ou x.length cu] w.heap.size wr.heap.size w2.heap.size rfl (hown.out.below b2 (Nat.le_refl _)) o2 hb2 hsz1 27 rfl rfl (by omega) (by omega) ?_
     intro oa1 cap1' w1 hown1 c1a c1b hbel1
     have hb3:=(hbel.trans (b2.mono hsz1)).trans hbel1
     obtain ⟨z',hz'⟩:∃ z',z' = z ++ [x]:=⟨_,rfl⟩
     have HZ:Hid (z' = (xs.take (k + 1)).map canon):=Lib.hid (by rw [hz',HN.out])
     have e1:z.length + 1 = z'.length:=by rw [hz'];simp
     have HZL:Hid (z'.length = k + 1):=Lib.hid (by rw [← e1,hzl.out])
     rw [← hz',e1] at hown1
     have HO:Hid (Own (RS (RS RI)) w.heap.size w1.heap.size w1 [.slice oa1 z'.length cap1'] z'):=hown1
     rw [e1]
     clear hown1 hbel1 hown e1 hz' hcn o2
     go_wp2_with fail
     go_roundw
     case rel => exact ⟨k + 1,z',by omega,by go_num,HZ,HZL,⟨_,_,rfl⟩,HO,hb3⟩
     case measure => simp [intOf];omega
    ·have hfin:Hid (z = xs.map canon):=Lib.hid (by rw [hz.out,List.take_of_length_le (by omega)])
     have hsm:∀ b ∈ z,b.length ≤ 1000000000:=by
      intro b hb
      rw [hfin.out,List.mem_map] at hb
      obtain ⟨c,hc,rfl⟩:=hb
      have:=List.all_eq_true.1 HA.out c hc
      rw [canon_len (lev8_lev this)]
      have:=lev8_len this
      omega
     have hfo:=c_impl_forestOf _ z wr hown.out.rd (by rw [hzl.out];omega) hsm
     have HF:Hid (forest z = (forOf xs).1∧(forOf xs).2 = 0):=Lib.hid (by rw [hr.out,hfin.out];exact ⟨rfl,rfl⟩)
     clear hsm
     go_wp2_with (go_at_call 52;refine hfo.mono ?_;rintro e w3 ⟨u,rfl,o3,b3⟩)
     go_ret2
     exact ⟨_,by rw [HF.out.2];rfl,by rw [← HF.out.1];exact o3.mono hsz1 (Nat.le_refl _),hbel.trans (b3.mono hsz1)⟩
  ·have hr:=Lib.hid (forOf_many hall h8)
   have h8':((sumLen xs:Nat):Int) > 8:=by omega
   have h8'':(8:Int) < ((sumLen xs:Nat):Int):=by omega
   clear hall
   go_enter Try.func10,Try.ntmps10
   go_wp2_with (first|(go_at_call 50;refine hal.mono ?_;rintro e w' ⟨rfl,rfl⟩)|(go_at_call 51;refine hnd.mono ?_;rintro e w' ⟨rfl,rfl⟩))
   go_ret2
   exact ⟨_,by rw [hr.out];rfl,by rw [hr.out];exact Own.nil _ _,Below.refl _ _⟩
end Go.Proofs.Ytgngidchldajhaa
namespace Go.Proofs.Ytgngidchldajhaa
open Go.RowKit
theorem getD_get {t:List Int} {i:Nat} (h:i < t.length):t.getD i 0 = t[i]:=by simp [h]
theorem Below.of_alloc_heap {w W w2:World} {o:Go.Obj} (b:Below W.heap.size W w2) (e:W.heap = (w.alloc o).heap) (e1:W.os = w.os) (e2:W.tape = w.tape) (e3:W.output = w.output):Below w.heap.size w w2 :=
 ⟨b.os.trans e1,b.tape.trans e2,b.output.trans e3,by have:=b.size;rw [e] at this;simp at this;omega,
  fun k hk => (b.block k (by rw [e];simp;omega)).trans (by rw [e];exact Below.heap_alloc w o k hk)⟩
theorem Below.of_heap_eq {w W w2:World} (b:Below W.heap.size W w2) (e:W.heap = w.heap) (e1:W.os = w.os) (e2:W.tape = w.tape) (e3:W.output = w.output):Below w.heap.size w w2:=by
 rw [e] at b
 exact ⟨b.os.trans e1,b.tape.trans e2,b.output.trans e3,by have:=b.size;rw [e] at this;exact this,fun k hk => (b.block k hk).trans (by rw [e])⟩
theorem Rd.two {α:Type} {R:Rep α} {w W:World} {u1 u2:Value} {x y:List α} {E:TypeId} (h1:Rd (RS R) w [u1] x) (h2:Rd (RS R) w [u2] y) (e:W.heap = (w.alloc (.cells #[u1,u2] E)).heap) :
  Rd (RS (RS R)) W [.slice (some ⟨w.heap.size,0,none⟩) 2 2] [x,y]:=by
 refine Rd.of_heap (w:=w.alloc (.cells #[u1,u2] E)) ?_ e
 have hb:Below w.heap.size w (w.alloc (.cells #[u1,u2] E)):=(Below.refl _ _).alloc (Nat.le_refl _) _
 refine ⟨some ⟨w.heap.size,0,none⟩,2,[u1,u2],rfl,Nat.le_refl _,by decide,by simp,⟨[u1],[u2],rfl,h1.below hb (Nat.le_refl _),⟨[u2],[],rfl,h2.below hb (Nat.le_refl _),rfl⟩⟩,.inr ⟨w.heap.size,0,rfl,by simp,fun j u hj => ?_⟩⟩
 rw [Nat.zero_add,World.cell?_alloc_at _ _ _ _ rfl]
 simpa using hj
theorem endOf_le {t:List Int} {n:Nat} (hn:n < t.length):n + 1 ≤ endOf t n∧endOf t n ≤ t.length:=by
 unfold endOf
 have:=(List.takeWhile_sublist (fun l => decide (t.getD n 0 < l)) (l:=t.drop (n + 1))).length_le
 rw [List.length_drop] at this
 omega
end Go.Proofs.Ytgngidchldajhaa
namespace Go.Proofs.Ytgngidchldajhaa
open Go.RowKit
section
variable {P:Program} {α:Type} {R:Rep α} {e:α→List D}
theorem own_out (E:Enc R e) {lo hi:Nat} {w:World} {v:Value} {xs:List α} (h:Own (RS R) lo hi w [v] xs):∃ og c G ds' d,v = slv og xs.length c∧Row w (slv og xs.length c) R.k xs.length ds' og∧(og.toList ++ G).Nodup∧(∀ b ∈ og.toList ++ G,lo ≤ b∧b < hi)∧ownL (RK R.k R.kpos (RC d)) w ds' (xs.map e) G:=by
 obtain ⟨F,⟨v',og,ds',G,e1,hrow,hel,rfl⟩,hn,hlt⟩:=h
 obtain rfl:v = v':=by simpa using e1
 obtain ⟨d,hel'⟩:=enc_ownL E hel
 obtain ⟨oa,c,ev,k1,k2,k3,k4⟩:=hrow.value
 have hv':v = slv og xs.length c:=by
  cases og with
  | none =>
   have h0:=hrow.len0
   have hoa:oa = none:=k4
   rw [ev,hoa,h0,k3 hoa];rfl
  | some g => rw [ev,k4];rfl
 exact ⟨og,c,G,ds',d,hv',by rw [← hv'];exact hrow,hn,hlt,hel'⟩
theorem own_relR (E:Enc R e) {lo hi:Nat} {w:World} {v:Value} {xs:List α} (h:Own (RS R) lo hi w [v] xs):∃ G X,G.Nodup∧(∀ b ∈ G,lo ≤ b∧b < hi)∧v.oneCell' = true∧∀ A M Y,relR A M w Y (.own R.k (xs.map e) true) v G X:=by
 obtain ⟨og,c,G,ds',d,hv,hrow,hn,hlt,hel⟩:=own_out E h
 refine ⟨og.toList ++ G,og.toList,hn,hlt,by rw [hv];cases og <;> rfl,fun A M Y => ?_⟩
 exact ⟨og,c,G,ds',by rw [List.length_map];exact hv,by rw [List.length_map,hv];exact hrow,R.kpos,rfl,rfl,d,R.kpos,hel⟩
theorem int_rel (A:Nat→Prop) (w:World) {c:Int} (hc:In64 c):rdV A w (.int .i64 c) (.int c):=rdV_int.2 ⟨rfl,hc⟩
theorem AFn.of_oc (E:Enc R e) {f:FuncId} {ds:List (List D)} {xs:List α} {c:Int} (hc:In64 c) (eg:∀ args w,(callFunc f args).run P w = .ok (.enter f args) w)
  (h:∀ (w:World) (A:Nat→Prop) vs,relArgs A w ds vs→Calls P f vs.toArray w (RetOC (RS R) w xs c)):AFn P f ds (· = [.own R.k (xs.map e) true,.val (.int c)]):=by
 refine ⟨eg,fun A w vs hA hv => (h w A vs hv).mono ?_⟩
 rintro e' w' ⟨v,rfl,ho,hb⟩
 obtain ⟨G,X,h1,h2,h3,h4⟩:=own_relR E ho
 exact ⟨_,_,rfl,rfl,hb,[v,.int .i64 c],G,X,rfl,h1,fun b hb' => (h2 b hb').1,v,[.int .i64 c],G,[],X,[],rfl,by simp,by simp,h3,h4 _ _ _,.int .i64 c,[],[],[],[],[],rfl,rfl,rfl,rfl,⟨int_rel _ _ hc,rfl,rfl⟩,rfl,rfl,rfl⟩
end
end Go.Proofs.Ytgngidchldajhaa
namespace Go.Proofs.Ytgngidchldajhaa
open Go.RowKit
theorem exists_not {l:List Nat}:∃ k,k ∉ l:=by
 have key:∀ (l:List Nat),∀ x ∈ l,x ≤ l.sum:=by
  intro l
  induction l with
  | nil => intro x hx;cases hx
  | cons y l ih =>
   intro x hx
   rw [List.sum_cons]
   rcases List.mem_cons.1 hx with rfl|hx
   ·omega
   ·have:=ih x hx;omega
 exact ⟨l.sum + 1,fun h => by have:=key l _ h;omega⟩
theorem exists_free (s:St):∃ k,Free s k:=by
 obtain ⟨k,hk⟩:=exists_not (l:=s.heap.map (·.1) ++ s.regs.flatMap (·.2.refs) ++ s.heap.flatMap (·.2.refs))
 simp only [List.mem_append,not_or] at hk
 obtain ⟨⟨h1,h2⟩,h3⟩:=hk
 refine ⟨k,?_,fun r av hr hm => h2 (List.mem_flatMap.2 ⟨_,look_all hr,hm⟩),fun q u hq hm => h3 (List.mem_flatMap.2 ⟨_,look_all hq,hm⟩)⟩
 cases e:look k s.heap with
 | none => rfl
 | some o => exact absurd (List.mem_map.2 ⟨_,look_all e,rfl⟩) h1
theorem AC.frz_id {key k:Nat} {xs:List (List D)} {x:AC} (h:key ∉ x.refs):x.frz key k xs = x:=by
 cases x with
 | own q n => simp only [AC.refs,List.mem_singleton] at h;simp only [AC.frz];rw [if_neg (fun e => h e.symm)]
 | view q i n => simp only [AC.refs,List.mem_singleton] at h;simp only [AC.frz];rw [if_neg (fun e => h e.symm)]
 | _ => rfl
theorem acs_frz_id {key k:Nat} {xs:List (List D)}:∀ {cs:List AC},key ∉ cs.flatMap AC.refs→cs.map (AC.frz key k xs) = cs
 | [],_ => rfl
 | c :: cs,h => by
  rw [List.flatMap_cons,List.mem_append,not_or] at h
  rw [List.map_cons,AC.frz_id h.1,acs_frz_id h.2]
theorem AV.frz_id {key k:Nat} {xs:List (List D)} {x:AV} (h:key ∉ x.refs):x.frz key k xs = x:=by
 cases x with
 | c x => simp only [AV.frz];rw [AC.frz_id h]
 | eptr => rfl
 | optr q i j => simp only [AV.refs,List.mem_singleton] at h;simp only [AV.frz];rw [if_neg (fun e => h e.symm)]
 | agg cs => simp only [AV.frz];rw [acs_frz_id h]
 | tup cs => simp only [AV.frz];rw [acs_frz_id h]
 | dead => rfl
theorem Obj.frz_id {key k:Nat} {xs:List (List D)} {o:Obj} (h:key ∉ o.refs):o.frz key k xs = o:=by
 cases o with
 | row => rfl
 | pin => rfl
 | lit k' css =>
  simp only [Obj.frz]
  congr 1
  have h:key ∉ css.flatMap (·.flatMap AC.refs):=h
  have:∀ css:List (List AC),key ∉ css.flatMap (·.flatMap AC.refs)→css.map (·.map (AC.frz key k xs)) = css:=by
   intro css
   induction css with
   | nil => intro _;rfl
   | cons c css ih =>
    intro h
    rw [List.flatMap_cons,List.mem_append,not_or] at h
    rw [List.map_cons,acs_frz_id h.1,ih h.2]
  exact this css h
section
variable {P:Program} {cfg:Cfg} {M:Nat→Prop} {ops:Array Oper} {s s':St} {w0:W0} {w:World} {Ok:Nat→Prop} {N:Nat} {σ:Asg} {a:Act} {fs:List Fr} {Q:Exit→St→Prop} {T:Tab P}
def valD:AV→Option D
 | .c (.val d) => some d
 | _ => Option.none
def devalB (cfg:Cfg) (ops:Array Oper) (o:Oper) (s:St):Option Tel :=
 match o.op with
 | .buildSlice t len parts => if dstOK cfg o = true∧awanted ops s.regs o = some true then
   o.dst.bind fun d => (cfg.sl t).bind fun i => if len = parts.size∧len * i.z.length ≤ 16777216 then (aparts s.regs 0 parts.toList).bind fun css => (rowsD i.z css).map fun r => ⟨⟨d,.c (.val (.sl i.z.length r.1)),[]⟩,opRefs s.regs o.op.operands.toList⟩ else Option.none
  else Option.none
 | .assign x => if dstOK cfg o = true∧awanted ops s.regs o = some true then
   o.dst.bind fun d => ((opv s.regs x).bind valD).map fun v => ⟨⟨d,.c (.val v),[]⟩,[]⟩
  else Option.none
 | _ => Option.none
theorem Does1.asg (C:CfgOK P cfg) {i:Nat} {o:Oper} (hi:ops[i]? = some o) {x:Operand} (hop:o.op = .assign x) (hd:dstOK cfg o = true) {d:Nat} (hdd:o.dst = some d) (hb:awanted ops s.regs o = some true) {v:D} (hv:opv s.regs x = some (.c (.val v))):Does1 P cfg ops i s ⟨⟨d,.c (.val v),[]⟩,[]⟩:=by
 refine ⟨o,hi,hdd,fun s' h1 h2 h3 w0 Ok σ a w K Q hS hK => ?_⟩
 have hw:awanted ops s'.regs o = some true:=by rw [awanted_congr h1,hb]
 have hov:opv s'.regs x = some (.c (.val v)):=by
  rw [← hv]
  cases x with
  | tmp t =>
   have:=h1 t (looks_operand (by rw [hop];simp [Op.operands]))
   simp only [opv,this]
  | _ => rfl
 have hst:astep cfg ops o s' = some (s'.add ⟨d,.c (.val v),[]⟩):=by
  unfold astep
  rw [if_pos hd,hw]
  simp only [Option.bind_some,if_true,hop,isMut,hdd,amut,hov]
  rfl
 have:=astep_wp C hS hst hK (Q:=Q)
 unfold wpOp
 simp only [hi]
 split
 ·rename_i hw2;rw [if_pos hw2] at this;exact .inl this
 ·rename_i hw2;rw [if_neg hw2] at this;exact this
theorem Does1.lit (C:CfgOK P cfg) {i:Nat} {o:Oper} (hi:ops[i]? = some o) {t:Tel} (h:devalB cfg ops o s = some t):Does1 P cfg ops i s t:=by
 unfold devalB at h
 split at h
 ·rename_i ty len parts hop
  split at h
  ·rename_i hc
   obtain ⟨d,hd,h⟩:=bind_some h
   obtain ⟨it,hit,h⟩:=bind_some h
   split at h
   ·rename_i hsz
    obtain ⟨css,hcss,h⟩:=bind_some h
    obtain ⟨⟨xs,b⟩,hr,rfl⟩:=map_some h
    refine ⟨o,hi,hd,fun s' h1 h2 h3 w0 Ok σ a w K Q hS hK => ?_⟩
    have hw:awanted ops s'.regs o = some true:=by rw [awanted_congr h1,hc.2]
    have hopl:o.op.operands.toList = parts.toList.map (·.2):=by rw [hop];rfl
    have hag:=agree_of (xs:=o.op.operands.toList) (fun x hx => hx) h1 h2
    rw [hopl] at hag
    have hcss':aparts s'.regs 0 parts.toList = some css:=by rw [aparts_congr hag,hcss]
    obtain ⟨q,hq⟩:=exists_free s'
    have hmk:mkObj it.z css = some (.row it.z.length xs b):=by unfold mkObj;rw [hr]
    have ha:anew cfg (fun k => look k s'.heap) s'.regs q o.op = some (.c (.own q len),[(q,.row it.z.length xs b)]):=by
     rw [hop]
     simp only [anew,hit,Option.bind_some]
     rw [if_pos hsz,hcss']
     simp only [Option.bind_some,hmk,Option.map_some]
    unfold wpOp
    simp only [hi,awanted_spec hS hw,if_true]
    left
    have hdN:d < cfg.N:=by have:=hc.1;rw [dstOK,hd] at this;simpa using this
    refine anew_doesF C hS (news:=[(q,.row it.z.length xs b)]) (av:=.c (.own q len)) ha (fun p ob hp => ?_) _ _ (fun v w' σ' hv hS' => ?_)
    ·have hp:(if q = p then some (Obj.row it.z.length xs b) else none) = some ob:=hp
     split at hp
     ·rename_i e;subst e;exact hq
     ·cases hp
    ·rw [hd]
     have hS1:=Sim.ins hS' hdN hv
     have hS2:=Sim.frz hS1 q
     refine hK σ' _ _ ?_
     have hlq:look q (⟨insR d (.c (.own q len)) s'.regs,[(q,Obj.row it.z.length xs b)] ++ s'.heap⟩:St).heap = some (.row it.z.length xs b):=by show look q ((q,Obj.row it.z.length xs b) :: s'.heap) = _;rw [look,if_pos rfl]
     have e:(⟨insR d (.c (.own q len)) s'.regs,[(q,Obj.row it.z.length xs b)] ++ s'.heap⟩:St).frz q = ⟨frzR q it.z.length xs (insR d (.c (.own q len)) s'.regs),frzH q it.z.length xs (drop q ([(q,Obj.row it.z.length xs b)] ++ s'.heap))⟩:=by
      unfold St.frz;rw [hlq]
     rw [e] at hS2
     refine hS2.forget (fun r av hr => ?_) (fun k o' ho' => ?_)
     ·have hr:look r (insR d (.c (.val (.sl it.z.length xs))) s'.regs) = some av:=hr
      rw [look_ins] at hr
      show look r (frzR q it.z.length xs (insR d (.c (.own q len)) s'.regs)) = _
      rw [look_frzR,look_ins]
      by_cases er:d = r
      ·rw [if_pos er] at hr ⊢
       cases hr
       show some (AV.c (if q = q then AC.val (.sl it.z.length xs) else AC.own q len)) = _
       rw [if_pos rfl]
      ·rw [if_neg er] at hr ⊢
       rw [hr]
       show some (av.frz q it.z.length xs) = _
       rw [AV.frz_id (hq.2.1 r av hr)]
     ·have ho':look k s'.heap = some o':=ho'
      show look k (frzH q it.z.length xs (drop q ((q,Obj.row it.z.length xs b) :: s'.heap))) = _
      have hkq:k ≠ q:=by rintro rfl;rw [hq.1] at ho';cases ho'
      rw [look_frzH,look_drop,if_neg hkq,look,if_neg (fun e => hkq e.symm),ho']
      show some (o'.frz q it.z.length xs) = _
      rw [Obj.frz_id (hq.2.2 k o' ho')]
   ·cases h
  ·cases h
 ·rename_i x hop
  split at h
  ·rename_i hc
   obtain ⟨d,hd,h⟩:=bind_some h
   obtain ⟨v,hv,rfl⟩:=map_some h
   obtain ⟨av,h1,h2⟩:=bind_some hv
   have:av = .c (.val v):=by
    unfold valD at h2
    split at h2
    ·cases h2;rfl
    ·cases h2
   subst this
   exact Does1.asg C hi hop hc.1 hd hc.2 h1
  ·cases h
 ·cases h
def devalF (fz:List Nat) (cfg:Cfg) (T:Tab P) (ops:Array Oper) (o:Oper) (s:St):Option Tel :=
 bif fz.contains (o.dst.getD 0) then devalB cfg ops o s else devalT cfg T ops o s
def drunF (fz:List Nat) (cfg:Cfg) (T:Tab P) (ops:Array Oper):List Oper→St→List Tel × St × List Oper
 | [],s => ([],s,[])
 | o :: l,s => match devalF fz cfg T ops o s with
  | some t => ((t :: (drunF fz cfg T ops l (s.add t.e)).1),(drunF fz cfg T ops l (s.add t.e)).2)
  | Option.none => ([],s,o :: l)
theorem drunF_spec {fz:List Nat} (C:CfgOK P cfg):∀ {l:List Oper} {i:Nat} {s:St},(∀ j,l[j]? = ops[i + j]?)→Tr P cfg ops i s (drunF fz cfg T ops l s).1 ∧
  (drunF fz cfg T ops l s).2.1 = (drunF fz cfg T ops l s).1.foldl (fun s t => s.add t.e) s∧(drunF fz cfg T ops l s).2.2 = l.drop (drunF fz cfg T ops l s).1.length
 | [],i,s,_ => ⟨trivial,rfl,rfl⟩
 | o :: l,i,s,hl => by
  have hi:ops[i]? = some o:=by have:=hl 0;simpa using this.symm
  simp only [drunF]
  cases hd:devalF fz cfg T ops o s with
  | none => exact ⟨trivial,rfl,rfl⟩
  | some t =>
   obtain ⟨h1,h2,h3⟩:=drunF_spec (fz:=fz) C (l:=l) (i:=i + 1) (s:=s.add t.e) (fun j => by have:=hl (j + 1);simpa [Nat.add_assoc,Nat.add_comm 1 j] using this)
   refine ⟨⟨?_,h1⟩,by simpa using h2,by simpa using h3⟩
   unfold devalF at hd
   cases hb:fz.contains (o.dst.getD 0) with
   | true => rw [hb] at hd;exact Does1.lit C hi hd
   | false => rw [hb] at hd;exact Does1.opT C hi hd
def dregF (s:St):List Tel × St × List Oper→Option (List Tel × St × List Oper)
 | (tr,s1,rest) => if tr.all (fun t => t.e.news.all fun p => fresh s p.1) = true then some (tr,s1,rest) else Option.none
theorem dregF_mk (s:St) (tr:List Tel) (s1:St) (rest:List Oper):dregF s (tr,s1,rest) = if tr.all (fun t => t.e.news.all fun p => fresh s p.1) = true then some (tr,s1,rest) else Option.none:=rfl
theorem RunK.wFz (C:CfgOK P cfg) (T:Tab P) (hm:P.follows .mixedOrders = true) (fz:List Nat) {id:Nat} {tr:List Tel} {s1:St} {rest:List Oper} (hr:Work (dregF s (drunF fz cfg T ops ops.toList s)) (some (tr,s1,rest))) (h1:ChkD ops tr)
  (h:ROps P cfg M ops rest (outK P cfg M fs Q .normal) s1):RunK P cfg M (.region id ops true) fs Q s:=by
 have hr:dregF s (drunF fz cfg T ops ops.toList s) = some (tr,s1,rest):=hr
 obtain ⟨⟨tr0,s10,rest0⟩,e⟩:∃ r,r = drunF fz cfg T ops ops.toList s:=⟨_,rfl⟩
 rw [← e,dregF_mk] at hr
 split at hr
 ·rename_i hf
  cases hr
  obtain ⟨k1,k2,k3⟩:=drunF_spec (T:=T) (fz:=fz) C (ops:=ops) (l:=ops.toList) (i:=0) (s:=s) (fun j => by simp)
  rw [← e] at k1 k2 k3
  refine Runs.draw hm k1 h1 hf ?_
  show ROps P cfg M ops (ops.toList.drop tr.length) _ (tr.foldl (fun s t => s.add t.e) s)
  rw [← k2,← k3]
  exact h
 ·cases hr
end
end Go.Proofs.Ytgngidchldajhaa
namespace Go.Proofs.Ytgngidchldajhaa
open Go.RowKit
theorem Row.take {w:World} {k n m cap:Nat} {ds:List Value} {og:Option Nat} (h:Row w (slv og n cap) k n ds og) (hm:m ≤ n):Row w (slv og m cap) k m (ds.take (m * k)) og:=by
 refine ⟨by rw [List.length_take,h.1];exact Nat.min_eq_left (Nat.mul_le_mul_right k hm),?_⟩
 rcases h.2 with ⟨h1,h2,h3⟩|⟨g,c,cur,e,h1,h2,h3,h4,h5,h6,h7⟩
 ·subst h3
  exact .inl ⟨rfl,by omega,rfl⟩
 ·subst h2
  have hc:cap = c:=by
   unfold slv at h1
   simp only [Value.slice.injEq] at h1
   exact h1.2.2
  subst hc
  refine .inr ⟨g,cap,cur,e,rfl,rfl,h3,by omega,h5,h6,?_⟩
  rw [← h7,List.take_take,Nat.min_eq_left (Nat.mul_le_mul_right k hm)]
section
variable {P:Program} {cfg:Cfg} {M:Nat→Prop} {w0:W0} {w w':World} {Ok:Nat→Prop} {N:Nat} {σ:Asg} {s:St} {a:Act} {ops:Array Oper}
theorem RunK.regCut (C:CfgOK P cfg) (T:Tab P) {fs:List Fr} {Q:Exit→St→Prop} {id:Nat} (n:Nat) {s1:St} (ha:Work (aopsT cfg T ops (ops.toList.take n) s) (some s1))
  (h:ROps P cfg M ops (ops.toList.drop n) (outK P cfg M fs Q .normal) s1):RunK P cfg M (.region id ops false) fs Q s:=by
 refine Runs.region ?_
 have e:ops.toList = ops.toList.take n ++ ops.toList.drop n:=(List.take_append_drop n _).symm
 have cut:∀ (l m:List Oper) (s:St),aopsT cfg T ops l s = some s1→ROps P cfg M ops m (outK P cfg M fs Q .normal) s1→ROps P cfg M ops (l ++ m) (outK P cfg M fs Q .normal) s:=by
  intro l
  induction l with
  | nil => intro m s h1 h2;simp only [aopsT,Option.some.injEq] at h1;subst h1;exact h2
  | cons o l ih =>
   intro m s h1 h2
   simp only [aopsT] at h1
   obtain ⟨s2,h3,h4⟩:=bind_some h1
   exact ROps.stepT C h3 (ih m s2 h4 h2)
 rw [e]
 exact cut _ _ s ha h
end
end Go.Proofs.Ytgngidchldajhaa
namespace Go.Proofs.Ytgngidchldajhaa
open Go.RowKit
section
variable {P:Program} {cfg:Cfg} {w0:W0} {w w':World} {Ok:Nat→Prop} {N:Nat} {σ σ':Asg} {s s':St} {a:Act} {M:Nat→Prop}
theorem relArgs.split {A:Nat→Prop}:∀ {pre:List (List D)} {ds:List (List D)} {vs:List Value},relArgs A w (pre ++ ds) vs→∃ vs1 vs2,vs = vs1 ++ vs2∧relArgs A w pre vs1∧relArgs A w ds vs2
 | [],ds,vs,h => ⟨[],vs,rfl,rfl,h⟩
 | d :: pre,ds,vs,⟨v,us,e,h1,h2⟩ => by
  obtain ⟨us1,us2,e2,h3,h4⟩:=relArgs.split h2
  subst e2;subst e
  exact ⟨v :: us1,us2,rfl,⟨v,us1,rfl,h1,h3⟩,h4⟩
theorem relArgs.join {A:Nat→Prop}:∀ {pre:List (List D)} {ds:List (List D)} {vs1 vs2:List Value},relArgs A w pre vs1→relArgs A w ds vs2→relArgs A w (pre ++ ds) (vs1 ++ vs2)
 | [],ds,vs1,vs2,h,k => by rw [show vs1 = [] from h];exact k
 | d :: pre,ds,vs1,vs2,⟨v,us,e,h1,h2⟩,k => by
  subst e
  exact ⟨v,us ++ vs2,rfl,h1,relArgs.join h2 k⟩
theorem Bel.nil (h:Bel ⟨w,fun b => (none:Option Nat) = some b⟩ w'):Below w.heap.size w w' :=
 ⟨h.os,h.tape,h.output,h.size,fun i hi => h.block i hi (fun e => nomatch e)⟩
theorem AOw.nil {g:FuncId} {pre post:List (List D)} {k:Nat} {Q:List Res→Prop} (h:AOw P g pre k [] post Q) (hk:0 < k):AFn P g (pre ++ [.raw (.slice none 0 0)] :: post) Q:=by
 refine ⟨h.call,fun A w vs hA hr => ?_⟩
 obtain ⟨vs1,vs2,e,h1,v,us,e2,h2,h3⟩:=relArgs.split hr
 subst e2;subst e
 obtain ⟨rfl,_⟩:=rdV_raw.1 (show rdV A w v (.raw (.slice none 0 0)) from h2)
 refine (h.fn A w vs1 us none 0 [] hA h1 h3 ⟨(Nat.zero_mul k).symm,.inl ⟨rfl,rfl,rfl⟩⟩ hk (by first|exact ⟨0,hk,rfl⟩|exact ⟨0,hk,trivial⟩|exact ⟨0,hk,by simp [rdL]⟩) (fun b e => nomatch e)).mono ?_
 rintro e w' ⟨v,rs,rfl,hQ,hb,ho⟩
 have e:(W0.mine ⟨w,fun b => (none:Option Nat) = some b⟩) = fun b => w.heap.size ≤ b:=by funext b;simp [W0.mine]
 rw [e] at ho
 exact ⟨v,rs,rfl,hQ,hb.nil,ho⟩
theorem n_callR (C:CfgOK P cfg) (h:Sim w0 Ok N σ s a w) {o:Oper} {f:Operand} {args:Array Operand} {ts:Array TypeId} {g:FuncId} (ho:o.op = .call ⟨.value f,args,ts⟩) (hf:((opv s.regs f).bind avD).bind fnId = some g)
  {ds:List (List D)} (hd:relArgs (Zn σ s.heap w) w ds (args.toList.map a.eval)) {Q0:List Res→Prop} (hfn:AFn P g ds Q0)
  {K:Act→World→Prop} {Q:Exit→Act→World→Prop} {key:Nat} (hfr:∀ rs,Q0 rs→∀ q ob,look q (resACs key rs).2 = some ob→Free s q)
  (hK:∀ rs,Q0 rs→∀ v w' σ',relAV σ' ((resACs key rs).2 ++ s.heap) w' (outAV (resACs key rs).1) v→Sim w0 Ok N σ' ⟨s.regs,(resACs key rs).2 ++ s.heap⟩ a w'→K (a.put o.dst v) w'):o.wp P a w K Q:=by
 have hfv:a.eval f = .func (.func g) #[] #[]:=fnId_rel h hf
 have hrun:(execOp a.eval o).run P w = .ok (.enter g (args.map a.eval)) w:=by
  unfold execOp
  rw [ho]
  simp [resolve,Deferred.ofValue,hfv,invoke,hfn.call]
 obtain ⟨A,hA,hAa,hAz⟩:∃ A:Nat→Prop,(∀ b,A b→b < w.heap.size)∧relArgs A w ds (args.toList.map a.eval)∧((∃ rs,Q0 rs∧rs.all Res.scalar = false)→∀ b,A b→Zn σ s.heap w b):=by
  exact ⟨Zn σ s.heap w,fun _ h => h.1,hd,fun _ b hb => hb⟩
 have hcall:=hfn.fn A w (args.toList.map a.eval) hA hAa
 unfold Oper.wp
 rw [hrun,Oper.upon_enter]
 have e:(args.toList.map a.eval).toArray = args.map a.eval:=by rw [← Array.toList_map,Array.toArray_toList]
 rw [← e]
 refine hcall.mono ?_
 rintro e w' ⟨v,rs,rfl,hQ,hw,us,G,X,rfl,hG1,hG2,hrel⟩
 obtain ⟨σ',k0,k1,k2,k3,k4⟩:=outs_asg key σ hrel hG1
 have hgn:∀ q u,look q (resACs key rs).2 = some u→∀ b,σ'.g q = some b→w.heap.size ≤ b:=fun q u hq b hb => hG2 b ((k2 q u hq).2.2.1 b (fp_out hb))
 have hZ1:(∀ b,A b→Zn σ s.heap w b)→∀ b,((A b ∨ w.heap.size ≤ b)∧b ∉ X)→b < w'.heap.size→Zn σ' ((resACs key rs).2 ++ s.heap) w' b:=by
  intro hAz b hb hlt
  have hz:=Kept.grown hw h hAz b hb.1 hlt
  refine ⟨hlt,by rw [k0];exact hz.2.1,fun q u hq e => ?_⟩
  rw [look_append] at hq
  cases hn:look q (resACs key rs).2 with
  | some o' => exact hb.2 ((k2 q o' hn).2.2.2 b e)
  | none =>
   rw [hn] at hq
   rw [(k1 q hn).1] at e
   exact hz.2.2 q u hq e
 refine hK rs hQ _ w' σ' (out_rel ?_) ?_
 ·by_cases hsc:rs.all Res.scalar = true
  ·exact k4.relS hsc
  ·exact k4.rel (hZ1 (hAz ⟨rs,hQ,by simpa using hsc⟩))
 ·refine h.news k0 hw (hfr rs hQ) k1 (fun q o' hq => ?_) (fun q o' hq => ?_) k3
  ·obtain ⟨⟨dd,k,xs,d,b1,b2,b3,b4⟩,_⟩:=k2 q o' hq
   subst b1
   refine ⟨dd,b2,b3,?_⟩
   show if d = true then ownR k w' dd xs (σ'.F q) else rdR k (Zn σ' ((resACs key rs).2 ++ s.heap) w') w' dd xs
   cases d with
   | true => rw [if_pos rfl];exact b4
   | false =>
    rw [if_neg (by decide)]
    have b4':rdR k (fun b => (A b ∨ w.heap.size ≤ b)∧b ∉ X) w' dd xs:=b4
    have hsc:rs.all Res.scalar = false:=by
     have key:∀ {rs:List Res} {key:Nat} {q:Nat},look q (resACs key rs).2 = some (.row k xs false)→rs.all Res.scalar = false:=by
      intro rs
      induction rs with
      | nil => intro key q hq;cases hq
      | cons r rs ih =>
       intro key q hq
       cases r with
       | val d => rw [List.all_cons,ih (by simpa [resACs,resAC] using hq),Bool.and_false]
       | own kk ys d =>
        simp only [resACs,resAC,List.singleton_append,look] at hq
        split at hq
        ·cases hq;rfl
        ·rw [List.all_cons,ih hq,Bool.and_false]
     exact key hq
    exact b4'.mono (fun b hb hlt => hZ1 (hAz ⟨rs,hQ,hsc⟩) b hb hlt)
  ·obtain ⟨_,b5,b6,_⟩:=k2 q o' hq
   exact ⟨fun b hb => hG2 b (b6 b hb),b5⟩
theorem ROps.callNil (C:CfgOK P cfg) {ops:Array Oper} {o:Oper} {l:List Oper} {Q:St→Prop} {d:Nat} {f:Operand} {args:Array Operand} {ts:Array TypeId} {g:FuncId} (hb:awanted ops s.regs o = some true) (hdN:d < cfg.N)
  (ho:o.op = .call ⟨.value f,args,ts⟩) (hod:o.dst = some d) (hf:((opv s.regs f).bind avD).bind fnId = some g)
  {xs:List Operand} {tx:List TypeId} {pre:List (List D)} (ha:args.toList = xs ++ [.const (.slice none 0 0)]) (hpre:aargs cfg (fun k => look k s.heap) s.regs xs tx = some pre) (hr:opRefs s.regs xs = [])
  {rs:List Res} (hfn:AFn P g (pre ++ [[.raw (.slice none 0 0)]]) (· = rs)) (hfr:(resACs d rs).2.all (fun p => fresh s p.1) = true)
  (h:ROps P cfg M ops l Q (s.got d rs)):ROps P cfg M ops (o :: l) Q s:=by
 intro w0 Ok σ a w Q' hM hS hQ
 refine wpList_step (fun K hK => ?_)
 rw [awanted_spec hS hb]
 simp only [if_true]
 have hrel:relArgs (Zn σ s.heap w) w (pre ++ [[.raw (.slice none 0 0)]]) (args.toList.map a.eval):=by
  rw [ha,List.map_append]
  exact relArgs.join ((aargs_rel C hS hpre).2 hr) ⟨_,[],rfl,rdV_raw.2 ⟨rfl,rfl⟩,rfl⟩
 refine n_callR C hS (key:=d) ho hf hrel hfn (fun rs' e => e ▸ fun q ob hq => fresh_free (List.all_eq_true.1 hfr _ (look_all hq))) (fun rs' e v w' σ' hv hS' => ?_)
 subst e
 rw [hod]
 have hsub:∀ k o',look k (insAll (resACs d rs').2 s.heap) = some o'→look k ((resACs d rs').2 ++ s.heap) = some o':=fun k o' ho' => by rw [look_insAll] at ho';exact ho'
 exact hK _ _ (h w0 Ok σ' _ _ Q' hM (Sim.ins (hS'.forget (fun _ _ h => h) hsub) hdN (hv.sub hsub)) hQ)
theorem ROps.callNilP (C:CfgOK P cfg) {ops:Array Oper} {o:Oper} {l:List Oper} {Q:St→Prop} {d:Nat} {f:Operand} {args:Array Operand} {ts:Array TypeId} {g:FuncId} (hb:awanted ops s.regs o = some true) (hdN:d < cfg.N)
  (ho:o.op = .call ⟨.value f,args,ts⟩) (hod:o.dst = some d) (hf:((opv s.regs f).bind avD).bind fnId = some g)
  {xs:List Operand} {tx:List TypeId} {pre:List (List D)} {ys:List Operand} {ty:List TypeId} {post:List (List D)} (ha:args.toList = xs ++ .const (.slice none 0 0) :: ys) (hpre:aargs cfg (fun k => look k s.heap) s.regs xs tx = some pre) (hr:opRefs s.regs xs = []) (hpost:aargs cfg (fun k => look k s.heap) s.regs ys ty = some post) (hr2:opRefs s.regs ys = [])
  {rs:List Res} (hfn:AFn P g (pre ++ [.raw (.slice none 0 0)] :: post) (· = rs)) (hfr:(resACs d rs).2.all (fun p => fresh s p.1) = true)
  (h:ROps P cfg M ops l Q (s.got d rs)):ROps P cfg M ops (o :: l) Q s:=by
 intro w0 Ok σ a w Q' hM hS hQ
 refine wpList_step (fun K hK => ?_)
 rw [awanted_spec hS hb]
 simp only [if_true]
 have hrel:relArgs (Zn σ s.heap w) w (pre ++ [.raw (.slice none 0 0)] :: post) (args.toList.map a.eval):=by
  rw [ha,List.map_append]
  exact relArgs.join ((aargs_rel C hS hpre).2 hr) ⟨_,_,rfl,rdV_raw.2 ⟨rfl,rfl⟩,(aargs_rel C hS hpost).2 hr2⟩
 refine n_callR C hS (key:=d) ho hf hrel hfn (fun rs' e => e ▸ fun q ob hq => fresh_free (List.all_eq_true.1 hfr _ (look_all hq))) (fun rs' e v w' σ' hv hS' => ?_)
 subst e
 rw [hod]
 have hsub:∀ k o',look k (insAll (resACs d rs').2 s.heap) = some o'→look k ((resACs d rs').2 ++ s.heap) = some o':=fun k o' ho' => by rw [look_insAll] at ho';exact ho'
 exact hK _ _ (h w0 Ok σ' _ _ Q' hM (Sim.ins (hS'.forget (fun _ _ h => h) hsub) hdN (hv.sub hsub)) hQ)
end
noncomputable def atOwn (A:List (List D)) (k:Nat) (X:List (List D)) (B:List (List D)) (R:List Res) (a:List (List D)) (k':Nat) (x:List (List D)) (b:List (List D)):Option (List Res × Option (List (List D))):=by
 classical
 exact if a = A∧k' = k∧x = X∧b = B then some (R,Option.none) else Option.none
theorem atOwn_eq (A:List (List D)) (k:Nat) (X:List (List D)) (B:List (List D)) (R:List Res):atOwn A k X B R A k X B = some (R,Option.none):=by
 unfold atOwn;rw [if_pos ⟨rfl,rfl,rfl,rfl⟩]
theorem atOwn_some {A:List (List D)} {k:Nat} {X:List (List D)} {B:List (List D)} {R:List Res} {a:List (List D)} {k':Nat} {x b:List (List D)} {r:List Res × Option (List (List D))} (h:atOwn A k X B R a k' x b = some r):a = A∧k' = k∧x = X∧b = B∧r = (R,Option.none):=by
 unfold atOwn at h
 split at h
 ·rename_i h1
  exact ⟨h1.1,h1.2.1,h1.2.2.1,h1.2.2.2,(Option.some.inj h).symm⟩
 ·exact nomatch h
noncomputable def Tab.own' {P:Program} (T:Tab P) (g:FuncId) (n:Nat) {A:List (List D)} {k:Nat} {X B:List (List D)} {R:List Res} (h:AOw P g A k X B (· = R)):Tab P :=
 T.own g ⟨false,n,atOwn A k X B R⟩ (fun pre k' xs post r _ e => by
  obtain ⟨rfl,rfl,rfl,rfl,rfl⟩:=atOwn_some e
  exact h.toEf)
end Go.Proofs.Ytgngidchldajhaa
namespace Go.Proofs.Ytgngidchldajhaa
open Go.RowKit
def rowA:Obj→Option (List AC)
 | .lit _ [r] => some r
 | .row _ [r] _ => some (r.map .val)
 | _ => none
section
variable {P:Program} {cfg:Cfg} {M:Nat→Prop} {ops:Array Oper} {s s':St} {w0:W0} {w:World} {Ok:Nat→Prop} {N:Nat} {σ:Asg} {a:Act} {fs:List Fr} {Q:Exit→St→Prop} {T:Tab P} {H:List (Nat × Obj)}
theorem rdCs.toA:∀ {x:List D} {us:List Value},rdCs (Zn σ H w) w us x→relCs σ H w (x.map .val) us
 | [],us,h => List.eq_nil_of_length_eq_zero (by rw [h.len];rfl)
 | y :: x,us,h => by
  obtain ⟨u,us',rfl,h3,h4⟩:=h.cons_inv
  exact ⟨u,us',rfl,h3.one,h3,rdCs.toA h4⟩
theorem relCs.len:∀ {x:List AC} {us:List Value},relCs σ H w x us→us.length = x.length
 | [],_,h => by rw [show _ = [] from h];rfl
 | y :: x,_,⟨u,us',e,_,_,h⟩ => by rw [e,List.length_cons,List.length_cons,relCs.len h]
theorem Sim.rowA (h:Sim w0 Ok N σ s a w) {key:Nat} {o:Obj} (hk:look key s.heap = some o) {r:List AC} (hr:rowA o = some r) :
  o.len = 1∧0 < o.k∧∃ us,us.length = o.k∧Row w (slv (σ.g key) o.len (σ.cap key)) o.k o.len us (σ.g key)∧relCs σ s.heap w r us:=by
 unfold Go.Proofs.Ytgngidchldajhaa.rowA at hr
 split at hr
 ·rename_i k r'
  cases hr
  obtain ⟨ds,hrow,hkp,hel⟩:=(h.rows key _ hk).row
  obtain ⟨c,d,e,hl,hc,hd⟩:=(show relRs σ s.heap w k [r] ds from hel)
  have hd:d = []:=hd
  subst hd
  rw [List.append_nil] at e
  subst e
  exact ⟨rfl,hkp,ds,hl,hrow,hc⟩
 ·rename_i k r' d
  cases hr
  obtain ⟨ds,hrow,hkp,hel⟩:=RowOK.rd h.ok1 h.rows h.disj hk
  obtain ⟨c,e,e1,hl,hcl,hc,he⟩:=hel.cons_inv
  have he:e = []:=by
   have h1:=hrow.1
   rw [e1,List.length_append,hcl] at h1
   simp only [List.length_cons,List.length_nil] at h1
   exact List.eq_nil_of_length_eq_zero (by omega)
  subst he
  rw [List.append_nil] at e1
  subst e1
  exact ⟨rfl,hkp,ds,hcl,hrow,hc.toA⟩
 ·cases hr
theorem ROps.cut (C:CfgOK P cfg) (T:Tab P) (n:Nat) {l:List Oper} {Q:St→Prop} {s1:St} (ha:Work (aopsT cfg T ops (l.take n) s) (some s1)) (h:ROps P cfg M ops (l.drop n) Q s1):ROps P cfg M ops l Q s:=by
 have ha:aopsT cfg T ops (l.take n) s = some s1:=ha
 have cut:∀ (l m:List Oper) (s:St),aopsT cfg T ops l s = some s1→ROps P cfg M ops m Q s1→ROps P cfg M ops (l ++ m) Q s:=by
  intro l
  induction l with
  | nil => intro m s h1 h2;simp only [aopsT,Option.some.injEq] at h1;subst h1;exact h2
  | cons o l ih =>
   intro m s h1 h2
   simp only [aopsT] at h1
   obtain ⟨s2,h3,h4⟩:=bind_some h1
   exact ROps.stepT C h3 (ih m s2 h4 h2)
 have:=cut _ _ s ha h
 rwa [List.take_append_drop] at this
theorem relCs.toD:∀ {x:List D} {us:List Value},relCs σ H w (x.map .val) us→rdCs (Zn σ H w) w us x
 | [],us,h => by rw [show us = [] from h];exact rdCs.nil
 | y :: x,_,⟨u,us',e,_,h2,h⟩ => by rw [e];exact rdCs.cons h2 (relCs.toD h)
structure AFnS (P:Program) (f:FuncId) (ds:List (List D)) (cs:List D):Prop where
 call:∀ args w,(callFunc f args).run P w = .ok (.enter f args) w
 fn:∀ (A:Nat→Prop) w vs,(∀ b,A b→b < w.heap.size)→relArgs A w ds vs→Calls P f vs.toArray w (fun e w' => ∃ us,e = .returned (.agg us.toArray)∧Below w.heap.size w w'∧rdCs (fun b => A b ∨ w.heap.size ≤ b) w' us cs)
def EndsS (cfg:Cfg) (fn:Func) (cs:List D) (e:Exit) (s:St):Prop :=
 (e = .normal ∨ e = .ret)∧∃ t ty key o z,fn.results = #[.cell t ty]∧look t s.regs = some (.optr key 0 0)∧look key s.heap = some o∧rowA o = some (cs.map .val)∧cfg.ty ty = some (z,true)∧z.length = cs.length
theorem AFnS.of_runs (C:CfgOK P cfg) {f:FuncId} {fn:Func} {c:Code} (hf:P.funcs[f]? = some fn) (hb:fn.body = some c) (hname:(fn.name == "runtime.NumGoroutine") = false) (hN:fn.ntmps = cfg.N) {ds:List (List D)} (hd:ds.length ≤ fn.ntmps) {cs:List D}
  (h:∀ M,Runs P cfg M c (EndsS cfg fn cs) ⟨argRegs 0 ds,[]⟩):AFnS P f ds cs:=by
 refine ⟨enters_of hf hname hb,fun A w vs hA hv => ?_⟩
 have hlen:=hv.len
 refine calls_of_wp hf hb ?_
 have hS:=start_sim (A:=A) (N:=cfg.N) (n:=fn.ntmps - vs.length) hv (by omega)
 refine h _ ⟨w,fun _ => False⟩ A _ _ w _ rfl (by simpa using hS) (fun e s' hE σ' a' w' hS' => ?_)
 obtain ⟨he,t,ty,key,o,z,hres,ht,hk,hr,hty,hzl⟩:=hE
 obtain ⟨zv,ti,d,t1,t2,t3,t4,t5,t6,t7,t8⟩:=C.ty ty z true hty
 obtain ⟨hlen1,hkp,us,hul,hrow,hus⟩:=hS'.rowA hk hr
 obtain ⟨_,b,hg,ep⟩:=hS'.regs t _ ht o hk
 rw [Nat.zero_mul,Nat.zero_add] at ep
 rw [hg] at hrow
 have hrd:=hus.toD
 have hcl:us.length = cs.length:=hrd.len
 have hrange:w'.rangeAt b 0 us:=fun q v hq => by rw [Nat.zero_add];exact hrow.cells q v hq
 have hi:(P.info? ty).map (·.size) = some us.length:=by rw [t1,hcl,← hzl,← t3];rfl
 have hload:(loadVar ty ⟨b,0,none⟩).run P w' = .ok (.agg us.toArray) w':=run_loadVar_mid w' b 0 ty us d hrange t6 t7 hi
 have ep':a'.tmps.getD t undef = .pointer (some ⟨b,0,none⟩):=ep
 have hrun:(results fn a'.tmps).run P w' = .ok (.agg us.toArray) w':=by
  unfold results
  rw [hres,Array.mapM_eq_mapM_toList]
  rw [Array.getD_eq_getD_getElem?] at ep'
  simp [ep',asAddr,hload]
 have hm:∀ b,Zn σ' s'.heap w' b→b < w'.heap.size→A b ∨ w.heap.size ≤ b:=fun b hb _ => by
  rcases hS'.ok2 b hb.2.1 with h1|h1
  ·exact .inl h1
  ·rcases h1 with h1|h1
   ·exact .inr h1
   ·exact h1.elim
 have hfin:a'.defers = []∧∃ v,(results fn a'.tmps).run P w' = .ok v w'∧∃ us,Ending.returned v = .returned (.agg us.toArray)∧Below w.heap.size w w'∧rdCs (fun b => A b ∨ w.heap.size ≤ b) w' us cs:=⟨hS'.defers,_,hrun,us,rfl,hS'.below.below,hrd.mono hm⟩
 rcases he with rfl|rfl <;> exact hfin
end
end Go.Proofs.Ytgngidchldajhaa

/- Lemmas (11). -/
import Derived.Ground.SlsfProg
import Derived.Lib.AppendZeros
import Derived.Shelf.SlSortCmp.NoneTotal
import Derived.Shelf.SlSortCmp.WholeK
import Derived.Test.YtedgfkpfhonlpaaGreatZC0
import Derived.Test.YtedgfkpfhonlpaaGreatZC3
import Derived.Test.YtedgfkpfhonlpaaGreatZC4
import Derived.Test.YtedgfkpfhonlpaaGreatZC5
import Derived.Test.YtedgfkpfhonlpaaGreatZC6
import Derived.Test.YtedgfkpfhonlpaaGreatZC7
import Derived.Test.YtedgfkpfhonlpaaGreatZC8
import Derived.Test.YtedgfkpfhonlpaaGreatZC9
import Derived.Test.YtedgfkpfhonlpaaGreatZC10
set_option maxHeartbeats 16000000
set_option maxRecDepth 100000
set_option linter.unusedSimpArgs false
set_option linter.unusedVariables false
namespace Go.Proofs.YtedgfkpfhonlpaaGreat
open Go.RowKit
theorem jT0 {α:Type} (e:α→List D) (d:α→D) (c0:α→Int) (f:α→List (List Int)) (p:α→Bool) (g:FuncId) (he:∀ x,e x = [.int (c0 x),d x]) (hun:∀ x,(d x).un = .sl 1 ((f x).map eL)) (hp:∀ x,AFn Tryz.prog g [[.int (c0 x),.sl 1 ((f x).map eL)]] (· = [.val (.bool (p x))])) (xs:List α) (hl:xs.length ≤ 1000000000) :
  AFn Tryz.prog 197 [[.sl 2 (xs.map e)],[.raw (.func (.func g) #[] #[])]] (· = [.val (.int (idxI (fIdx p xs)))]):=by
 refine AFn.of_runs (qQ 19) Tryz.func197 rfl rfl rfl gz ?_
 have hres:Tryz.f197.results.toList = [.tmp 4]:=rfl
 have hrts:Tryz.f197.resultTypes.toList = [3]:=rfl
 simp only [qV,qU,eL,eI,eLL,eB,Nat.zero_add,Nat.reduceAdd]
 intro M
 refine qJ.of ?_
 have hle:(xs.map e).length = xs.length:=by simp
 refine gw92 hle ?_
 refine qJ.loop (β:=Nat) (γ:=Unit) (fun i => ⟨[(0,.c (.val (.sl 2 (xs.map e)))),(1,.c (.val (.raw (.func (.func g) #[] #[])))),(7,.c (.val (.int xs.length))),(8,.c (.val (.int i)))],[]⟩) (fun i => i ≤ xs.length∧∀ x ∈ xs.take i,p x = false) (fun i => xs.length - i)
  (fun _ => ⟨[],[]⟩) (fun _ => ∀ x ∈ xs,p x = false) 0 ⟨Nat.zero_le _,by simp⟩ ?_ ?_ ?_
 ·exact gw7 Y0
 ·rintro i ⟨hi,hlow⟩
  have hw:=jW (n:=i) (by omega)
  by_cases h:i < xs.length
  ·have hx:=hp xs[i]
   have hj:(xs.map e)[i]? = some [.int (c0 xs[i]),d xs[i]]:=by rw [qN h,he]
   have i1:((i:Int) < (xs.length:Int)) = True:=eq_true (by omega)
   have i2:((0:Int) ≤ (i:Int)) = True:=eq_true (by omega)
   by_cases hpx:p xs[i] = true
   ·repeat' (first|with_reducible (first|refine Q1 ?_|refine Q2 ?_|refine Q3 ?_|refine Q4 ?_|refine Q5 ?_|refine Q6 ?_|refine Q7 ?_|refine Q8 ?_|refine Q9 ?_|refine Qa ?_|refine Qb ?_|refine Qc ?_|refine Qd ?_|refine Qe ?_|refine Qf ?_|refine QO ?_|refine QV 9 ?_|refine QY 9 ?_)|with_reducible ((first|apply QS (qQ 19) (Tab.none.at' g hx)|apply QC);refine QW ?_;simp only [Zg,Zi,seval,reduceCtorEq,Nat.reduceEqDiff,hle,i1,i2,hj,hun,argV_un (hun _),cellD_un (hun _),hpx,hw,eL,Int.toNat_natCast];rfl))
    refine qW.ret ?_
    refine gw92 Y0 ?_
    rw [fIdx_at h hpx hlow]
    exact gw93
   ·have hpx':p xs[i] = false:=by simpa using hpx
    repeat' (first|with_reducible (first|refine Q1 ?_|refine Q2 ?_|refine Q3 ?_|refine Q4 ?_|refine Q5 ?_|refine Q6 ?_|refine Q7 ?_|refine Q8 ?_|refine Q9 ?_|refine Qa ?_|refine Qb ?_|refine Qc ?_|refine Qd ?_|refine Qe ?_|refine Qf ?_|refine QO ?_|refine QV 9 ?_|refine QY 9 ?_)|with_reducible ((first|apply QS (qQ 19) (Tab.none.at' g hx)|apply QC);refine QW ?_;simp only [Zg,Zi,seval,reduceCtorEq,Nat.reduceEqDiff,hle,i1,i2,hj,hun,argV_un (hun _),cellD_un (hun _),hpx',hw,eL,Int.toNat_natCast];rfl))
    refine qW.on (i + 1) ⟨⟨h,fun x hx => ?_⟩,by omega⟩ ?_
    ·rw [List.take_succ_eq_append_getElem h,List.mem_append,List.mem_singleton] at hx
     rcases hx with hx|rfl
     ·exact hlow x hx
     ·exact hpx'
    ·exact gw7 Y0
  ·have i1:((i:Int) < (xs.length:Int)) = False:=eq_false (by omega)
   refine gw92 (Yp hle i1) ?_
   refine qW.out () (fun x hx => hlow x (by rw [List.take_of_length_le (by omega)];exact hx)) ?_
   exact gw7 Y0
 ·rintro _ hno
  refine gw92 Y0 ?_
  rw [qT0.2 hno]
  exact gw93
theorem a_DeleteFuncPt {α:Type} (e:α→List D) (d:α→D) (c0:α→Int) (f:α→List (List Int)) (p:α→Bool) (g:FuncId) (he:∀ x,e x = [.int (c0 x),d x]) (hun:∀ x,(d x).un = .sl 1 ((f x).map eL)) (hp:∀ x,AFn Tryz.prog g [[.int (c0 x),.sl 1 ((f x).map eL)]] (· = [.val (.bool (p x))])) (xs:List α) (hl:xs.length ≤ 1000000000) :
  AOw Tryz.prog 153 [] 2 (xs.map e) [[.raw (.func (.func g) #[] #[])]] (· = [.own 2 ((keepF p xs).map e) false]):=by
 have hidx:=jT0 e d c0 f p g he hun hp xs hl
 rcases hfi:fIdx p xs with _|i0
 ·rw [hfi] at hidx
  have hk:keepF p xs = xs:=List.filter_eq_self.2 (fun x hx => by rw [qT0.1 hfi x hx];rfl)
  rw [hk]
  refine AOw.of_runs (qQ 42) Tryz.func153 rfl rfl rfl gz ?_
  have hres:Tryz.f153.results.toList = [.tmp 4]:=rfl
  have hrts:Tryz.f153.resultTypes.toList = [50]:=rfl
  simp only [List.length_cons,List.length_nil,List.nil_append,List.cons_append,qV,qU,eL,eI,eLL,eB,Nat.zero_add,Nat.reduceAdd]
  intro M
  refine qJ.of ?_
  refine gw94 Y0 ?_
  exact gw2
 ·rw [hfi] at hidx
  obtain ⟨hi0,hpi,hlow⟩:=fIdx_some hfi
  refine AOw.of_runs (qQ 42) Tryz.func153 rfl rfl rfl gz ?_
  have hres:Tryz.f153.results.toList = [.tmp 4]:=rfl
  have hrts:Tryz.f153.resultTypes.toList = [50]:=rfl
  simp only [List.length_cons,List.length_nil,List.nil_append,List.cons_append,qV,qU,eL,eI,eLL,eB,Nat.zero_add,Nat.reduceAdd]
  intro M
  refine qJ.of ?_
  have hne:((i0:Int) == -1) = false:=beq_eq_false_iff_ne.2 (by omega)
  have hw0:=jW (n:=i0) (by omega)
  refine gw94 (Yp hne hw0) ?_
  refine qJ.loop (β:=Nat × List (List D)) (γ:=List (List D)) (fun x => ⟨[(0,.c (.own 0 xs.length)),(1,.c (.val (.raw (.func (.func g) #[] #[])))),(5,.c (.val (.int (keepF p (xs.take x.1)).length))),(6,.c (.val (.int x.1)))],[(0,.row 2 x.2 false)]⟩)
   (fun x => x.1 ≤ xs.length∧x.2.length = xs.length∧(∀ r ∈ x.2,r.length = 2)∧x.2.take (keepF p (xs.take x.1)).length = (keepF p (xs.take x.1)).map e∧x.2.drop x.1 = (xs.drop x.1).map e) (fun x => xs.length - x.1)
   (fun L => ⟨[(0,.c (.own 0 xs.length)),(5,.c (.val (.int (keepF p xs).length)))],[(0,.row 2 L false)]⟩) (fun L => L.length = xs.length∧L.take (keepF p xs).length = (keepF p xs).map e) (i0 + 1,xs.map e) ⟨by omega,by simp,?_,?_,by rw [List.map_drop]⟩ ?_ ?_ ?_
  ·intro r hr
   obtain ⟨x,_,rfl⟩:=List.mem_map.1 hr
   rw [he];rfl
  ·have h1:keepF p (xs.take (i0 + 1)) = xs.take i0:=by
    rw [List.take_succ_eq_append_getElem hi0]
    unfold keepF
    rw [List.filter_append,List.filter_eq_self.2 (fun x hx => by rw [hlow x hx];rfl)]
    simp [hpi]
   show (xs.map e).take (keepF p (xs.take (i0 + 1))).length = (keepF p (xs.take (i0 + 1))).map e
   rw [h1,← List.map_take,List.length_take,Nat.min_eq_left (Nat.le_of_lt hi0)]
  ·have h1:(keepF p (xs.take (i0 + 1))).length = i0:=by
    rw [List.take_succ_eq_append_getElem hi0]
    unfold keepF
    rw [List.filter_append,List.filter_eq_self.2 (fun x hx => by rw [hlow x hx];rfl)]
    simp [hpi];omega
   exact gw7 h1
  ·rintro ⟨j,L⟩ ⟨hj,hL,hone,htk,hdr⟩
   have hj:j ≤ xs.length:=hj
   have hL:L.length = xs.length:=hL
   have htk:L.take (keepF p (xs.take j)).length = (keepF p (xs.take j)).map e:=htk
   have hdr:L.drop j = (xs.drop j).map e:=hdr
   have hw:=jW (n:=j) (by omega)
   have hcl:(keepF p (xs.take j)).length ≤ j:=by
    have:=List.length_filter_le (fun x => !p x) (xs.take j)
    unfold keepF
    rw [List.length_take] at this
    omega
   have hwc:=jW (n:=(keepF p (xs.take j)).length) (by omega)
   by_cases h:j < xs.length
   ·have hx:=hp xs[j]
    have hLj:L[j]? = some [.int (c0 xs[j]),d xs[j]]:=by
     have:(L.drop j)[0]? = ((xs.drop j).map e)[0]?:=by rw [hdr]
     rw [List.getElem?_drop,List.getElem?_map,List.getElem?_drop] at this
     simpa [h,he] using this
    have i1:((j:Int) < (xs.length:Int)) = True:=eq_true (by omega)
    have i2:((0:Int) ≤ (j:Int)) = True:=eq_true (by omega)
    have hsucc:keepF p (xs.take (j + 1)) = if p xs[j] = true then keepF p (xs.take j) else keepF p (xs.take j) ++ [xs[j]]:=by
     rw [List.take_succ_eq_append_getElem h]
     unfold keepF
     rw [List.filter_append]
     by_cases hpx:p xs[j] = true <;> simp [hpx]
    by_cases hpx:p xs[j] = true
    ·rw [if_pos hpx] at hsucc
     repeat' (first|with_reducible (first|refine Q1 ?_|refine Q2 ?_|refine Q3 ?_|refine Q4 ?_|refine Q5 ?_|refine Q6 ?_|refine Q7 ?_|refine Q8 ?_|refine Q9 ?_|refine Qa ?_|refine Qb ?_|refine Qc ?_|refine Qd ?_|refine Qe ?_|refine Qf ?_|refine QO ?_|refine QV 8 ?_|refine QY 8 ?_)|with_reducible ((first|apply QS (qQ 42) (Tab.none.at' g hx)|apply QC);refine QW ?_;simp only [Zg,Zi,seval,reduceCtorEq,Nat.reduceEqDiff,hL,i1,i2,hLj,hun,argV_un (hun _),cellD_un (hun _),hpx,hw,eL,Int.toNat_natCast];rfl))
     refine qW.on (j + 1,L) ⟨⟨h,hL,hone,?_,?_⟩,by show xs.length - (j + 1) < xs.length - j;omega⟩ ?_
     ·rw [hsucc];exact htk
     ·show L.drop (j + 1) = (xs.drop (j + 1)).map e
      rw [← List.drop_drop,hdr,← List.map_drop,List.drop_drop]
     ·exact gw7 hsucc
    ·have hpx':p xs[j] = false:=by simpa using hpx
     rw [if_neg hpx] at hsucc
     obtain ⟨c,hc⟩:∃ c,c = (keepF p (xs.take j)).length:=⟨_,rfl⟩
     have hcs:(keepF p (xs.take (j + 1))).length = c + 1:=by rw [hsucc,hc];simp
     rw [← hc] at hwc hcl htk
     have hcL:c < L.length:=by omega
     obtain ⟨y,y2,hy⟩:∃ y y2,L[c] = [y,y2]:=by
      have:=hone L[c] (List.getElem_mem _)
      match L[c],this with
      | [y,y2],_ => exact ⟨y,y2,rfl⟩
     have hLc:L[c]? = some [y,y2]:=by rw [List.getElem?_eq_getElem hcL,hy]
     have i3:((c:Int) < (xs.length:Int)) = True:=eq_true (by omega)
     have i4:((0:Int) ≤ (c:Int)) = True:=eq_true (by omega)
     rw [← hc]
     repeat' (first|with_reducible (first|refine Q1 ?_|refine Q2 ?_|refine Q3 ?_|refine Q4 ?_|refine Q5 ?_|refine Q6 ?_|refine Q7 ?_|refine Q8 ?_|refine Q9 ?_|refine Qa ?_|refine Qb ?_|refine Qc ?_|refine Qd ?_|refine Qe ?_|refine Qf ?_|refine QO ?_|refine QV 8 ?_|refine QY 8 ?_)|with_reducible ((first|apply QS (qQ 42) (Tab.none.at' g hx)|apply QC);refine QW ?_;simp only [Zg,Zi,seval,reduceCtorEq,Nat.reduceEqDiff,hL,i1,i2,i3,i4,hLj,hLc,hun,argV_un (hun _),cellD_un (hun _),hpx',hw,hwc,eL,Int.toNat_natCast];rfl))
     refine qW.on (j + 1,L.set c [.int (c0 xs[j]),d xs[j]]) ⟨⟨h,by simpa using hL,?_,?_,?_⟩,by show xs.length - (j + 1) < xs.length - j;omega⟩ ?_
     ·intro r hr
      rcases List.mem_or_eq_of_mem_set hr with hr|rfl
      ·exact hone r hr
      ·rfl
     ·show (L.set c [.int (c0 xs[j]),d xs[j]]).take (keepF p (xs.take (j + 1))).length = (keepF p (xs.take (j + 1))).map e
      rw [hcs,hsucc,List.map_append,List.take_succ_eq_append_getElem (by simpa using hcL),List.take_set_of_le (Nat.le_refl _),htk]
      simp [he]
     ·show (L.set c [.int (c0 xs[j]),d xs[j]]).drop (j + 1) = (xs.drop (j + 1)).map e
      rw [List.drop_set_of_lt (by omega),← List.drop_drop,hdr,← List.map_drop,List.drop_drop]
     ·exact gw7 hcs
   ·have i1:((j:Int) < (xs.length:Int)) = False:=eq_false (by omega)
    have hall:xs.take j = xs:=List.take_of_length_le (by omega)
    rw [hall] at htk ⊢
    refine gw95 (Yp hL i1) ?_
    refine qW.out L ⟨hL,htk⟩ ?_
    exact gw7 Y0
  ·rintro L ⟨hL,htk⟩
   have hcl:(keepF p xs).length ≤ xs.length:=List.length_filter_le _ _
   obtain ⟨c,hc⟩:∃ c,c = (keepF p xs).length:=⟨_,rfl⟩
   rw [← hc] at htk hcl ⊢
   have i1:((c:Int) ≤ (xs.length:Int)) = True:=eq_true (by omega)
   have i2:((0:Int) ≤ (c:Int)) = True:=eq_true (by omega)
   have i3:((xs.length:Int) ≤ (xs.length:Int)) = True:=eq_true (by omega)
   have htn:((xs.length:Int)).toNat = xs.length:=Int.toNat_natCast _
   refine gw95 Y0 ?_
   refine qJ.regCut (qQ 42) Tab.none 3 (s1:=?_) ?_ ?_
   rotate_left 1
   focus (refine Work.mk ?_;simp only [Zg,Zi,seval,reduceCtorEq,Nat.reduceEqDiff,hL,i1,i2,i3,Int.toNat_natCast];with_reducible rfl)
   simp only [List.toList_toArray,List.drop_succ_cons,List.drop_zero]
   refine qZ.clear (qQ 42) (x:=.tmp 38) (t:=50) (i:=⟨71,[.int 0,.sl 1 []],32⟩) (key:=0) (j:=c) (m:=xs.length - c) rfl rfl rfl rfl rfl rfl rfl (by rw [hL];omega) ?_
   refine qZ.nil ?_
   refine gw95 Y0 ?_
   refine qJ.regCut (qQ 42) Tab.none 2 (s1:=?_) ?_ ?_
   rotate_left 1
   focus (refine Work.mk ?_;simp only [Zg,Zi,seval,reduceCtorEq,Nat.reduceEqDiff];with_reducible rfl)
   simp only [List.toList_toArray,List.drop_succ_cons,List.drop_zero]
   refine qZ.trunc (qQ 42) (x:=.tmp 39) (hi:=.tmp 40) (t:=50) (i:=⟨71,[.int 0,.sl 1 []],32⟩) (d:=41) (key:=0) (m:=xs.length) (n:=c) rfl rfl rfl (by decide) rfl rfl rfl rfl (by simp [hL];omega) (fun q u hq hu => ?_) ?_
   ·simp only [look] at hu
    split at hu
    ·rename_i e;exact absurd e.symm hq
    ·cases hu
   ·have ht2:(L.take c ++ List.replicate (xs.length - c) [D.int 0,D.sl 1 []]).take c = (keepF p xs).map e:=by
     rw [List.take_append_of_le_length (by rw [List.length_take];omega),List.take_take,Nat.min_self,htk]
    rw [ht2]
    refine qZ.opsT (qQ 42) (T:=Tab.none) (s':=?_) ?_ ?_
    rotate_left 1
    focus (simp only [Zg,Zi,seval,reduceCtorEq,Nat.reduceEqDiff];with_reducible rfl)
    refine gw95 Y0 ?_
    exact gw2
end Go.Proofs.YtedgfkpfhonlpaaGreat
namespace Go.Proofs.YtedgfkpfhonlpaaGreat
open Go.RowKit
def PlainC:List D→List D→Prop
 | [],x' => x' = []
 | x :: xs,x' => ∃ y ys,x' = y :: ys∧(isSl x = false→y = x)∧PlainC xs ys
def PlainL:List (List D)→List (List D)→Prop
 | [],x' => x' = []
 | x :: xs,x' => ∃ y ys,x' = y :: ys∧PlainC x y∧PlainL xs ys
theorem tagC_of' {A:Nat→Prop} {w:World}:∀ {x:List D} {cs:List Value} {F:List Nat},ownCs w cs x F→(∀ b ∈ F,A b)→∃ x',TagC x x' F∧PlainC x x'∧rdCs A w cs x'
 | [],cs,F,h,_ => by
  obtain ⟨d,h1,h2⟩:=h
  exact ⟨[],⟨rfl,h2⟩,rfl,by rw [h1];exact rdCs.nil⟩
 | x :: xs,cs,F,h,hA => by
  obtain ⟨v,us,G,H,rfl,rfl,h1,h2⟩:=h.cons_inv
  obtain ⟨ys,h3,h5,h4⟩:=tagC_of' h2 (fun b hb => hA b (List.mem_append_right _ hb))
  cases hx:isSl x with
  | true =>
   exact ⟨.tag G x :: ys,⟨_,_,G,H,rfl,rfl,.inl rfl,h3⟩,⟨_,_,rfl,(fun e => by rw [hx] at e;cases e),h5⟩,rdCs.cons (kI.2 ⟨fun b hb => hA b (List.mem_append_left _ hb),h1⟩) h4⟩
  | false =>
   have hG:=jR0 hx h1
   subst hG
   exact ⟨x :: ys,⟨_,_,[],H,rfl,rfl,.inr ⟨hx,rfl,rfl⟩,h3⟩,⟨_,_,rfl,(fun _ => rfl),h5⟩,rdCs.cons (h1.rd.mono (fun b hb _ => by cases hb)) h4⟩
theorem tagL_of' {A:Nat→Prop} {w:World} {k:Nat} (hk:0 < k):∀ {xs:List (List D)} {ds:List Value} {F:List Nat},ownR k w ds xs F→(∀ b ∈ F,A b)→∃ xs',TagL xs xs' F∧PlainL xs xs'∧rdR k A w ds xs'
 | [],ds,F,h,_ => by
  obtain ⟨d,_,h1,h2⟩:=h
  exact ⟨[],⟨rfl,h2⟩,rfl,by rw [h1];exact rdR.nil hk⟩
 | x :: xs,ds,F,h,hA => by
  obtain ⟨c,e,G,H,rfl,rfl,hx,hc,h1,h2⟩:=h.cons_inv
  obtain ⟨y,k1,k5,k2⟩:=tagC_of' h1 (fun b hb => hA b (List.mem_append_left _ hb))
  obtain ⟨ys,k3,k6,k4⟩:=tagL_of' hk h2 (fun b hb => hA b (List.mem_append_right _ hb))
  exact ⟨y :: ys,⟨y,ys,G,H,rfl,rfl,k1,k3⟩,⟨_,_,rfl,k5,k6⟩,(rdR.single hk (by rw [k1.len,hx]) k2).append k4⟩
section
variable {P:Program} {cfg:Cfg} {M:Nat→Prop} {ops:Array Oper} {s:St} {w0:W0} {w:World} {Ok:Nat→Prop} {N:Nat} {σ:Asg} {a:Act} {fs:List Fr} {Q:Exit→St→Prop}
theorem Sim.tagO' (h:Sim w0 Ok N σ s a w) {key k:Nat} {xs:List (List D)} (hk:look key s.heap = some (.row k xs true)) :
  ∃ xs' F,TagL xs xs' F∧PlainL xs xs'∧F.Nodup∧(∀ b ∈ F,w0.mine b)∧Sim w0 Ok N σ ⟨s.regs,insR key (.row k xs' false) s.heap⟩ a w:=by
 have hro:=h.rows key _ hk
 obtain ⟨ds,hrow,hkp,hel⟩:=hro.row
 have hel:ownR k w ds xs (σ.F key):=hel
 have hfp:fp σ key (.row k xs true) = (σ.g key).toList ++ σ.F key:=rfl
 obtain ⟨xs',ht,hpl,hrd⟩:=tagL_of' (A:=Zn σ s.heap w) hkp hel (RowOK.Fz h.ok1 h.rows h.disj hk rfl)
 refine ⟨xs',σ.F key,ht,hpl,?_,fun b hb => hro.fresh b (by rw [hfp];exact List.mem_append_right _ hb),?_⟩
 ·have:=hro.nodup;rw [hfp] at this;exact (List.nodup_append.1 this).2.1
 have hl:∀ q o',look q (insR key (.row k xs' false) s.heap) = some o'→∃ o,look q s.heap = some o∧o.k = o'.k∧o.len = o'.len∧(∀ b ∈ fp σ q o',b ∈ fp σ q o)∧(q = key∧o' = .row k xs' false ∨ q ≠ key∧o' = o):=by
  intro q o' ho'
  rw [jT] at ho'
  split at ho'
  ·rename_i e
   subst e
   cases ho'
   refine ⟨_,hk,rfl,ht.len.symm,fun b hb => ?_,.inl ⟨rfl,rfl⟩⟩
   have hb:b ∈ (σ.g key).toList ++ []:=hb
   rw [hfp]
   rw [List.append_nil] at hb
   exact List.mem_append_left _ hb
  ·rename_i e
   exact ⟨o',ho',rfl,rfl,fun _ hb => hb,.inr ⟨fun e' => e e'.symm,rfl⟩⟩
 have hZ:qO σ σ s.heap (insR key (.row k xs' false) s.heap) w w:=fun b hb => ⟨⟨hb.1,hb.2.1,fun q o' ho' => by obtain ⟨o,ho,_⟩:=hl q o' ho';exact hb.2.2 q o ho⟩,rfl⟩
 have hst:∀ q,jZ σ σ s.heap (insR key (.row k xs' false) s.heap) q:=fun q o' ho' => by obtain ⟨o,ho,h1,h2,_⟩:=hl q o' ho';exact ⟨o,ho,h1,h2,rfl,rfl⟩
 refine h.step rfl h.below hZ (fun r av hr => ⟨av,hr,.inl ⟨rfl,fun q _ => hst q⟩⟩) (fun q o' ho' => ?_) (fun p o1 q u hp hq hpq b hb hb' => ?_)
 ·obtain ⟨o,ho,h1,h2,h3,h4⟩:=hl q o' ho'
  rcases h4 with ⟨rfl,rfl⟩|⟨hq,rfl⟩
  ·obtain rfl:o = .row k xs true:=by rw [hk] at ho;cases ho;rfl
   refine ⟨⟨ds,?_,hkp,?_⟩,fun b hb => hro.fresh b (h3 b hb),?_⟩
   ·show Row w (slv (σ.g q) xs'.length (σ.cap q)) k xs'.length ds (σ.g q)
    rw [ht.len];exact hrow
   ·show rdR k _ w ds xs'
    exact hrd.mono (fun b hb _ => (hZ b hb).1)
   ·have hn:=hro.nodup
    rw [hfp] at hn
    show ((σ.g q).toList ++ []).Nodup
    rw [List.append_nil]
    exact (List.nodup_append.1 hn).1
  ·exact RowOK.keep h.ok1 h.rows h.disj ho hZ (fun q' _ => hst q') rfl rfl rfl (fun _ _ => rfl)
 ·obtain ⟨o2,ho2,_,_,h3,_⟩:=hl p o1 hp
  obtain ⟨u2,hu2,_,_,h4,_⟩:=hl q u hq
  exact h.disj p o2 q u2 ho2 hu2 hpq b (h3 b hb) (h4 b hb')
theorem qJ.tag' {c:Code} (key:Nat) {k:Nat} {xs:List (List D)} (hk:look key s.heap = some (.row k xs true)) (h:∀ xs' F,TagL xs xs' F→PlainL xs xs'→F.Nodup→(∀ b ∈ F,M b)→qJ P cfg M c fs Q ⟨s.regs,insR key (.row k xs' false) s.heap⟩):qJ P cfg M c fs Q s:=by
 intro w0 Ok σ a w Q' hM hS hQ
 obtain ⟨xs',F,h1,h5,h2,h3,h4⟩:=Sim.tagO' hS hk
 exact h xs' F h1 h5 h2 (fun b hb => hM ▸ h3 b hb) w0 Ok σ a w Q' hM h4 hQ
theorem Sim.untag (h:Sim w0 Ok N σ s a w) {key k:Nat} {xs xs':List (List D)} {F:List Nat} (hk:look key s.heap = some (.row k xs' false)) (ht:TagL xs xs' F) (hn:F.Nodup) (hF:∀ b ∈ F,w0.mine b) (ho:∀ q o,look q s.heap = some o→o.deep = false) :
  ∃ σ',Sim w0 Ok N σ' ⟨s.regs,insR key (.row k xs true) s.heap⟩ a w:=by
 have hro:=h.rows key _ hk
 obtain ⟨ds,hrow,hkp,hel⟩:=hro.row
 have hel:rdR k (Zn σ s.heap w) w ds xs':=hel
 have hZF:∀ b ∈ F,Zn σ s.heap w b:=tagL_sub ht hel
 let σ':Asg:=⟨σ.g,σ.cap,fun q => if q = key then F else σ.F q,σ.ok⟩
 have hl:∀ q o',look q (insR key (.row k xs true) s.heap) = some o'→∃ o,look q s.heap = some o∧o.k = o'.k∧o.len = o'.len∧(q = key∧o' = .row k xs true ∨ q ≠ key∧o' = o):=by
  intro q o' ho'
  rw [jT] at ho'
  split at ho'
  ·rename_i e
   subst e
   cases ho'
   exact ⟨_,hk,rfl,ht.len,.inl ⟨rfl,rfl⟩⟩
  ·rename_i e
   exact ⟨o',ho',rfl,rfl,.inr ⟨fun e' => e e'.symm,rfl⟩⟩
 have hZ:qO σ σ' s.heap (insR key (.row k xs true) s.heap) w w:=fun b hb => ⟨⟨hb.1,hb.2.1,fun q o' ho' => by obtain ⟨o,ho,_⟩:=hl q o' ho';exact hb.2.2 q o ho⟩,rfl⟩
 have hst:∀ q,jZ σ σ' s.heap (insR key (.row k xs true) s.heap) q:=fun q o' ho' => by obtain ⟨o,ho,h1,h2,_⟩:=hl q o' ho';exact ⟨o,ho,h1,h2,rfl,rfl⟩
 have hfpk:fp σ' key (.row k xs true) = (σ.g key).toList ++ F:=by simp [fp,Obj.deep,σ']
 have hfpo:∀ q o,look q s.heap = some o→q ≠ key→fp σ' q o = (σ.g q).toList:=fun q o hq hne => by simp [fp,ho q o hq,σ']
 have hfp1:∀ q o,look q s.heap = some o→fp σ q o = (σ.g q).toList:=fun q o hq => by simp [fp,ho q o hq]
 refine ⟨σ',h.step rfl h.below hZ (fun r av hr => ⟨av,hr,.inl ⟨rfl,fun q _ => hst q⟩⟩) (fun q o' ho' => ?_) (fun p o1 q u hp hq hpq b hb hb' => ?_)⟩
 ·obtain ⟨o,hoq,h1,h2,h4⟩:=hl q o' ho'
  rcases h4 with ⟨rfl,rfl⟩|⟨hq,rfl⟩
  ·have hfk:=hfp1 q _ hk
   have hn1:=hro.nodup
   rw [hfk] at hn1
   refine ⟨⟨ds,?_,hkp,?_⟩,fun b hb => ?_,?_⟩
   ·show Row w (slv (σ.g q) xs.length (σ.cap q)) k xs.length ds (σ.g q)
    rw [← ht.len];exact hrow
   ·show ownR k w ds xs (if q = q then F else σ.F q)
    rw [if_pos rfl]
    exact tagL_own hkp ht hel
   ·rw [hfpk] at hb
    rcases List.mem_append.1 hb with hb|hb
    ·exact hro.fresh b (by rw [hfk];exact hb)
    ·exact hF b hb
   ·rw [hfpk]
    refine List.nodup_append.2 ⟨hn1,hn,fun b hb c hc e => ?_⟩
    subst e
    exact (hZF b hc).2.2 q _ hk (by simpa using hb)
  ·refine RowOK.keep h.ok1 h.rows h.disj hoq hZ (fun q' _ => hst q') rfl rfl ?_ (fun _ _ => rfl)
   show (if q = key then F else σ.F q) = σ.F q
   rw [if_neg hq]
 ·obtain ⟨o2,ho2,_,_,h3⟩:=hl p o1 hp
  obtain ⟨u2,hu2,_,_,h4⟩:=hl q u hq
  have hd:=h.disj p o2 q u2 ho2 hu2 hpq b
  rw [hfp1 p o2 ho2,hfp1 q u2 hu2] at hd
  rcases h3 with ⟨rfl,rfl⟩|⟨hpk,rfl⟩
  ·rw [hfpk] at hb
   rcases h4 with ⟨rfl,_⟩|⟨hqk,rfl⟩
   ·exact hpq rfl
   ·rw [hfpo q u hu2 hqk] at hb'
    rcases List.mem_append.1 hb with hb|hb
    ·exact hd hb hb'
    ·exact (hZF b hb).2.2 q _ hu2 (by simpa using hb')
  ·rw [hfpo p o1 ho2 hpk] at hb
   rcases h4 with ⟨rfl,rfl⟩|⟨hqk,rfl⟩
   ·rw [hfpk] at hb'
    rcases List.mem_append.1 hb' with hb'|hb'
    ·exact hd hb hb'
    ·exact (hZF b hb').2.2 p _ ho2 (by simpa using hb)
   ·rw [hfpo q u hu2 hqk] at hb'
    exact hd hb hb'
theorem qJ.untag {c:Code} (key:Nat) {k:Nat} {xs xs':List (List D)} {F:List Nat} (hk:look key s.heap = some (.row k xs' false)) (ht:TagL xs xs' F) (hn:F.Nodup) (hF:∀ b ∈ F,M b) (ho:s.heap.all (fun p => !p.2.deep) = true)
  (h:qJ P cfg M c fs Q ⟨s.regs,insR key (.row k xs true) s.heap⟩):qJ P cfg M c fs Q s:=by
 intro w0 Ok σ a w Q' hM hS hQ
 obtain ⟨σ',h1⟩:=Sim.untag hS hk ht hn (fun b hb => hM ▸ hF b hb) (fun q o hq => by
  have:=List.all_eq_true.1 ho _ (yW hq)
  simpa using this)
 exact h w0 Ok σ' a w Q' hM h1 hQ
end
section
variable {P:Program} {cfg:Cfg} {M:Nat→Prop} {ops:Array Oper} {s:St}
theorem qZ.callEf (C:CfgOK P cfg) {o:Oper} {l:List Oper} {Q:St→Prop} (hg:o.guard = none) {d:Nat} (hod:o.dst = some d) (hdN:d < cfg.N) {f:Operand} {args:Array Operand} {ts:Array TypeId} {g:FuncId}
  (ho:o.op = .call ⟨.value f,args,ts⟩) (hf:((opv s.regs f).bind avD).bind fnId = some g) {x:Operand} {xpost:List Operand} {tpost:List TypeId} (ha:args.toList = x :: xpost) {t0:TypeId} (hts:ts.toList = t0 :: tpost) {post:List (List D)}
  (hpost:aargs cfg (fun k => look k s.heap) s.regs xpost tpost = some post) (hr2:qI s.regs xpost = []) {key n k:Nat} {xs:List (List D)} (hxv:opv s.regs x = some (.c (.own key n))) (hk:look key s.heap = some (.row k xs false))
  (hnr:∀ q u,q ≠ key→look q s.heap = some u→key ∉ u.refs) {Q0:List Res→Option (List (List D))→Prop} (hfn:AEf P g false [] k xs post Q0) {R:List (List D)→Prop} (hQ0:∀ rs oc,Q0 rs oc→rs = []∧∃ ys,oc = some ys∧R ys)
  (h:∀ ys,R ys→qZ P cfg M ops l Q ⟨insR d (.tup []) s.regs,insR key (.row k ys false) s.heap⟩):qZ P cfg M ops (o :: l) Q s:=by
 intro w0 Ok σ a w Q' hM hS hQ
 refine wpList_step (fun K hK => ?_)
 have hw:qL ops s.regs o = some true:=by unfold qL;rw [hg]
 rw [xZ hS hw]
 simp only [if_true]
 refine n_callE C hS ho hf (ptr:=false) (xpre:=[]) (tpre:=[]) (pre:=[]) (by rw [ha];rfl) rfl hpost rfl hr2 hxv hk (fun e => nomatch e) hnr hfn (dk:=d) (fun rs oc hq q ob hl => ?_) (fun rs oc hq v w' σ' hv hS' => ?_)
 ·obtain ⟨rfl,_⟩:=hQ0 _ _ hq
  cases hl
 ·obtain ⟨rfl,ys,rfl,hR⟩:=hQ0 _ _ hq
  rw [hod]
  have hsub:∀ q o',look q (insR key (.row k ys false) s.heap) = some o'→look q (heapE key k (some ys) [] s.heap) = some o':=by
   intro q o' hq
   rw [jT] at hq
   unfold heapE
   rw [List.nil_append,jR,look_left]
   simp only
   by_cases e:key = q
   ·rw [if_pos e];rw [if_pos e] at hq;exact hq
   ·rw [if_neg e]
    rw [if_neg e] at hq
    rw [yZ,if_neg (fun h => e h.symm)]
    exact hq
  have hR':Sim w0 Ok cfg.N σ' ⟨s.regs,heapE key k (some ys) [] s.heap⟩ a w':=hS'
  exact hK _ _ (h ys hR w0 Ok σ' _ _ Q' hM (Sim.ins (hR'.forget (fun _ _ h => h) hsub) hdN (hv.sub hsub)) hQ)
end
end Go.Proofs.YtedgfkpfhonlpaaGreat
namespace Go.Proofs
open Go.Shelf
def Tryz.sortPt_ren:Go.Shelf.Ren:=⟨fun|6 => 150|15 => 160|14 => 200|28 => 212|29 => 213|20 => 233|21 => 234|22 => 235|23 => 236|24 => 237|25 => 238|26 => 239|27 => 240|46 => 266|47 => 251|48 => 252|49 => 267|50 => 268|57 => 277|n => n,fun|22 => 50|24 => 71|25 => 161|3 => 3|39 => 137|0 => 0|53 => 214|55 => 28|4 => 4|46 => 208|45 => 207|50 => 185|5 => 5|9 => 9|66 => 236|70 => 240|76 => 252|77 => 253|n => n,fun|n => n⟩
theorem Tryz.sortPt:Go.Proofs.SlLaysF0.n6 Tryz.prog Tryz.sortPt_ren:={
 mixed:=by kernel_rfl
 f6:=⟨Tryz.f150.name,by decide,Tryz.func150.trans (congrArg some (by kernel_rfl))⟩
 f14:=⟨Tryz.f200.name,by decide,Tryz.func200.trans (congrArg some (by kernel_rfl))⟩
 f15:=Tryz.func160.trans (congrArg some (by kernel_rfl))
 f20:=⟨Tryz.f233.name,by decide,Tryz.func233.trans (congrArg some (by kernel_rfl))⟩
 f21:=⟨Tryz.f234.name,by decide,Tryz.func234.trans (congrArg some (by kernel_rfl))⟩
 f22:=⟨Tryz.f235.name,by decide,Tryz.func235.trans (congrArg some (by kernel_rfl))⟩
 f23:=⟨Tryz.f236.name,by decide,Tryz.func236.trans (congrArg some (by kernel_rfl))⟩
 f24:=⟨Tryz.f237.name,by decide,Tryz.func237.trans (congrArg some (by kernel_rfl))⟩
 f25:=⟨Tryz.f238.name,by decide,Tryz.func238.trans (congrArg some (by kernel_rfl))⟩
 f26:=⟨Tryz.f239.name,by decide,Tryz.func239.trans (congrArg some (by kernel_rfl))⟩
 f27:=⟨Tryz.f240.name,by decide,Tryz.func240.trans (congrArg some (by kernel_rfl))⟩
 f28:=Tryz.func212.trans (congrArg some (by kernel_rfl))
 f29:=Tryz.func213.trans (congrArg some (by kernel_rfl))
 f46:=⟨Tryz.f266.name,by decide,Tryz.func266.trans (congrArg some (by kernel_rfl))⟩
 f47:=Tryz.func251.trans (congrArg some (by kernel_rfl))
 f48:=Tryz.func252.trans (congrArg some (by kernel_rfl))
 f49:=⟨Tryz.f267.name,by decide,Tryz.func267.trans (congrArg some (by kernel_rfl))⟩
 f50:=⟨Tryz.f268.name,by decide,Tryz.func268.trans (congrArg some (by kernel_rfl))⟩
 f57:=⟨Tryz.f277.name,by decide,Tryz.func277.trans (congrArg some (by kernel_rfl))⟩
 t0:=Tryz.underlying0
 a0:=Tryz.isAgg0
 z0:=Tryz.sizeOf0
 v0:=Tryz.zeroValue0
 t3:=Tryz.underlying3
 a3:=Tryz.isAgg3
 z3:=Tryz.sizeOf3
 v3:=Tryz.zeroValue3
 t4:=Tryz.underlying4
 a4:=Tryz.isAgg4
 z4:=Tryz.sizeOf4
 v4:=Tryz.zeroValue4
 t5:=Tryz.underlying5
 a5:=Tryz.isAgg5
 z5:=Tryz.sizeOf5
 v5:=Tryz.zeroValue5
 t9:=Tryz.underlying9
 a9:=Tryz.isAgg9
 z9:=Tryz.sizeOf9
 v9:=Tryz.zeroValue9
 t22:=Tryz.underlying50
 a22:=Tryz.isAgg50
 z22:=Tryz.sizeOf50
 v22:=Tryz.zeroValue50
 t25:=Tryz.underlying161
 a25:=Tryz.isAgg161
 z25:=Tryz.sizeOf161
 v25:=Tryz.zeroValue161
 t39:=Tryz.underlying137
 a39:=Tryz.isAgg137
 z39:=Tryz.sizeOf137
 v39:=Tryz.zeroValue137
 t45:=Tryz.underlying207
 a45:=Tryz.isAgg207
 z45:=Tryz.sizeOf207
 v45:=Tryz.zeroValue207
 t46:=Tryz.underlying208
 a46:=Tryz.isAgg208
 z46:=Tryz.sizeOf208
 v46:=Tryz.zeroValue208
 t50:=Tryz.underlying185
 a50:=Tryz.isAgg185
 z50:=Tryz.sizeOf185
 v50:=Tryz.zeroValue185
 t53:=Tryz.underlying214
 a53:=Tryz.isAgg214
 z53:=Tryz.sizeOf214
 v53:=Tryz.zeroValue214
 t55:=Tryz.underlying28
 a55:=Tryz.isAgg28
 z55:=Tryz.sizeOf28
 v55:=Tryz.zeroValue28
 t66:=Tryz.underlying236
 a66:=Tryz.isAgg236
 z66:=Tryz.sizeOf236
 v66:=Tryz.zeroValue236
 t70:=Tryz.underlying240
 a70:=Tryz.isAgg240
 z70:=Tryz.sizeOf240
 v70:=Tryz.zeroValue240
 t76:=Tryz.underlying252
 a76:=Tryz.isAgg252
 z76:=Tryz.sizeOf252
 v76:=Tryz.zeroValue252
 t77:=Tryz.underlying253
 a77:=Tryz.isAgg253
 z77:=Tryz.sizeOf253
 v77:=Tryz.zeroValue253 }
end Go.Proofs
namespace Go.Proofs.YtedgfkpfhonlpaaGreat
open Go.RowKit
theorem flatMap_get {α β:Type} (enc:α→List β) (k:Nat) (hk:∀ x,(enc x).length = k) (hp:0 < k):∀ (l:List α) (t:Nat),(l.flatMap enc)[t]? = (l[t / k]?).bind fun x => (enc x)[t % k]?
 | [],t => by simp
 | x :: l,t => by
  rw [List.flatMap_cons]
  by_cases h:t < k
  ·rw [List.getElem?_append_left (by rw [hk];exact h),Nat.div_eq_of_lt h,Nat.mod_eq_of_lt h];rfl
  ·rw [List.getElem?_append_right (by rw [hk];omega),hk,flatMap_get enc k hk hp l (t - k)]
   have e1:t / k = (t - k) / k + 1:=by rw [Nat.div_eq_sub_div hp (by omega)]
   have e2:t % k = (t - k) % k:=Nat.mod_eq_sub_mod (by omega)
   rw [e1,e2,List.getElem?_cons_succ]
theorem flatK_list {α:Type} [Inhabited α] (enc:α→List Value) (k:Nat) (hk:∀ x,(enc x).length = k) (hp:0 < k) (d:Array α):(Go.Sort.flatK enc k d).toList = d.toList.flatMap enc:=by
 have hl:∀ (l:List α),(l.flatMap enc).length = l.length * k:=by
  intro l
  induction l with
  | nil => simp
  | cons x l ih => rw [List.flatMap_cons,List.length_append,hk,ih,List.length_cons,Nat.succ_mul];omega
 refine List.ext_getElem? fun t => ?_
 by_cases h:t < d.size * k
 ·have hs:t < (Go.Sort.flatK enc k d).toList.length:=by simpa using h
  have hq:t / k < d.size:=Nat.div_lt_of_lt_mul (by rw [Nat.mul_comm];exact h)
  rw [flatMap_get enc k hk hp,List.getElem?_eq_getElem hs]
  have e1:=Go.Sort.get_flatK enc k d t h
  rw [getElem!_pos (Go.Sort.flatK enc k d) t (by simpa using h),getElem!_pos d (t / k) hq] at e1
  have hm:t % k < (enc d[t / k]).length:=by rw [hk];exact Nat.mod_lt _ hp
  rw [getElem!_pos (enc d[t / k]) (t % k) hm] at e1
  rw [List.getElem?_eq_getElem (by simpa using hq),Option.bind_some]
  simp only [Array.getElem_toList]
  rw [List.getElem?_eq_getElem hm,e1]
 ·rw [List.getElem?_eq_none (by simpa using h),List.getElem?_eq_none (by rw [hl];simpa using h)]
section
variable {α:Type} [Inhabited α] (enc:α→List Value) (k:Nat) (w:World) (blk m:Nat) (dk:Array α) (os:Array Go.Obj)
theorem sw_block {b:Nat} (hne:b ≠ blk) (hb:b < w.heap.size):(sortWorldK enc k w blk 0 m dk os).heap[b]? = w.heap[b]?:=by
 show ((w.heap.modify blk _) ++ os)[b]? = _
 rw [Array.getElem?_append_left (by simpa using hb),Array.getElem?_modify,if_neg (fun e => hne e.symm)]
theorem sw_size:w.heap.size ≤ (sortWorldK enc k w blk 0 m dk os).heap.size:=by
 show _ ≤ ((w.heap.modify blk _) ++ os).size
 simp
theorem sw_row {n cap:Nat} {ds:List Value} (h:Row w (slv (some blk) n cap) k n ds (some blk)) (hs:dk.size = n) (hlt:blk < w.heap.size) :
  Row (sortWorldK enc k w blk 0 m dk os) (slv (some blk) n cap) k n (Go.Sort.flatK enc k dk).toList (some blk):=by
 obtain ⟨h0,h⟩:=h
 rcases h with ⟨_,_,h⟩|⟨g,cap',cur,e,hv,hg,hh,hc1,hc2,hc3,hc4⟩
 ·cases h
 ·cases hg
  refine ⟨by simp [hs],.inr ⟨blk,cap',Sort.putCells id 0 (Go.Sort.flatK enc k dk) cur,e,hv,rfl,?_,hc1,hc2,by simpa [Sort.putCells] using hc3,?_⟩⟩
  ·show ((w.heap.modify blk _) ++ os)[blk]? = _
   rw [Array.getElem?_append_left (by simpa using hlt),Array.getElem?_modify,if_pos rfl,hh]
   rfl
  ·have hle:n * k ≤ cap' * k:=Nat.mul_le_mul_right k hc1
   refine List.ext_getElem? fun t => ?_
   by_cases ht:t < n * k
   ·rw [List.getElem?_take_of_lt ht,List.getElem?_eq_getElem (by simp [Sort.putCells];omega),List.getElem?_eq_getElem (by simp [hs];omega)]
    simp only [Array.getElem_toList,Sort.putCells,Array.getElem_mapIdx,id]
    rw [if_pos ⟨Nat.zero_le _,by simp [hs];omega⟩,Nat.sub_zero,getElem!_pos _ t (by simp [hs];omega)]
   ·rw [List.getElem?_eq_none (by simp;omega),List.getElem?_eq_none (by simp [hs];omega)]
end
abbrev PtC (A:Nat→Prop) (w:World):Type:={ x:(Int × Value) × List (List Int) // qA x.1.1∧(RS (RS RI)).rd A w [x.1.2] x.2∧qX x.2 ≤ 1000000 }
instance (A:Nat→Prop) (w:World):Inhabited (PtC A w):=⟨⟨((0,.slice none 0 0),[]),by show qA 0;unfold qA;omega,⟨none,0,[],rfl,Nat.le_refl _,by decide,fun _ => rfl,rfl,.inl rfl⟩,by simp [qX]⟩⟩
def PtC.enc {A:Nat→Prop} {w:World} (x:PtC A w):List Value:=[.int .i64 x.1.1.1,x.1.1.2]
def PtC.el {A:Nat→Prop} {w:World} (x:PtC A w):Int × List (List Int):=(x.1.1.1,x.1.2)
theorem ptc_of {A:Nat→Prop} {w:World}:∀ {zs:List (Int × List (List Int))} {ds:List Value},rdL yM A w ds zs→(∀ z ∈ zs,qX z.2 ≤ 1000000)→∃ xs:List (PtC A w),ds = xs.flatMap PtC.enc∧zs = xs.map PtC.el
 | [],_,h,_ => ⟨[],h,rfl⟩
 | z :: zs,_,h,hz => by
  obtain ⟨c,d,e,⟨c1,c2,rfl,⟨rfl,hb⟩,hs⟩,h2⟩:=h
  obtain ⟨xs,e1,e2⟩:=ptc_of h2 (fun z hz' => hz z (by simp [hz']))
  have hl:=(RS (RS RI)).rd_len hs
  match c2,hl with
  | [s],_ =>
   have hzz:=hz z (by simp)
   exact ⟨⟨((z.1,s),z.2),hb,hs,hzz⟩ :: xs,by rw [e,e1];rfl,congrArg (z :: ·) e2⟩
theorem ptc_to {A:Nat→Prop} {w w':World} (hf:∀ b,A b→w'.heap[b]? = w.heap[b]?):∀ (xs:List (PtC A w)),rdL yM A w' (xs.flatMap PtC.enc) (xs.map PtC.el)
 | [] => rfl
 | x :: xs => ⟨_,_,rfl,⟨[.int .i64 x.1.1.1],[x.1.1.2],rfl,⟨rfl,x.2.1⟩,(RS (RS RI)).rd_frame x.2.2.1 (fun b hb _ => hf b hb)⟩,ptc_to hf xs⟩
theorem swo_cmpF {A:Nat→Prop} {w:World}:Go.Sort.SWO (ltOf fun x y:PtC A w => cmpF x.1.2 y.1.2) where
 irrefl x:=decide_eq_false (by show ¬ cmpF x.1.2 x.1.2 < 0;rw [jK.refl];omega)
 trans x y z h1 h2:=decide_eq_true (by
  have h1:cmpF x.1.2 y.1.2 < 0:=of_decide_eq_true h1
  have h2:cmpF y.1.2 z.1.2 < 0:=of_decide_eq_true h2
  exact jK.lt_tr h1 h2)
 ntrans x y z h1 h2:=decide_eq_false (by
  have h1:¬ cmpF x.1.2 y.1.2 < 0:=of_decide_eq_false h1
  have h2:¬ cmpF y.1.2 z.1.2 < 0:=of_decide_eq_false h2
  show ¬ cmpF x.1.2 z.1.2 < 0
  intro h
  have a1:=jK.anti x.1.2 y.1.2
  have a2:=jK.anti y.1.2 z.1.2
  have:=jK.trans z.1.2 y.1.2 x.1.2 (by omega) (by omega)
  have a3:=jK.anti x.1.2 z.1.2
  omega)
theorem aggPt (w:World):(isAgg 71).run Tryz.prog w = .ok true w:=by
 simp [isAgg,run_underlying Tryz.underlying71]
theorem sizePt (w:World):(Go.sizeOf 71).run Tryz.prog w = .ok 2 w:=by
 obtain ⟨_,⟨i,hi,_,hs,_⟩,_,_⟩:=tPartI
 simp [Go.sizeOf,typeInfo,hi,hs]
theorem c_SortPart (g:Nat) (eg:∀ args w,(callFunc g args).run Tryz.prog w = .ok (.enter g args) w)
  (hcmp:∀ (W:World) (a b:Int) (u v:Value) (f h:List (List Int)),Rd (RS (RS RI)) W [u] f→Rd (RS (RS RI)) W [v] h→qX f ≤ 1000000→qX h ≤ 1000000 →
   Calls Tryz.prog g #[.agg #[.int .i64 a,u],.agg #[.int .i64 b,v]] W fun e w' => e = .returned (.int .i64 (cmpF f h))∧∃ q os',w' = Sort.grow (W.drewN q) os')
  {A:Nat→Prop} {w:World} {og:Option Nat} {cap:Nat} {ds:List Value} {zs:List (Int × List (List Int))} (hA:∀ b,A b→b < w.heap.size) (hog:∀ b,og = some b→¬ A b)
  (hrow:Row w (slv og zs.length cap) 2 zs.length ds og) (hrd:rdL yM A w ds zs) (hsz:∀ z ∈ zs,qX z.2 ≤ 1000000) (hn:zs.length ≤ 1000000000) :
  Calls Tryz.prog 150 #[slv og zs.length cap,.func (.func g) #[] #[]] w fun e w' => e = .returned (.tuple #[])∧∃ zs',zs'.Perm zs∧zs'.Pairwise (fun a b => cmpF a.2 b.2 ≤ 0) ∧
   (∃ ds',Row w' (slv og zs.length cap) 2 zs.length ds' og∧rdL yM A w' ds' zs')∧Bel ⟨w,fun b => og = some b⟩ w':=by
 cases og with
 | none =>
  have h0:=hrow.len0
  have hz:zs = []:=List.eq_nil_of_length_eq_zero h0
  subst hz
  refine (AnyF.slices_SortFunc_none Tryz.sortPt none 0 _ w).mono ?_
  rintro e w' ⟨rfl,rfl⟩
  exact ⟨rfl,[],List.Perm.refl _,List.Pairwise.nil,⟨ds,hrow,hrd⟩,rfl,rfl,rfl,Nat.le_refl _,fun _ _ _ => rfl⟩
 | some blk =>
  obtain ⟨xs,e1,e2⟩:=ptc_of hrd hsz
  have hlen:xs.toArray.size = zs.length:=by rw [e2];simp
  have hlt:=hrow.lt blk rfl
  have hH:Go.Sort.HoldsK PtC.enc 2 w blk 0 xs.toArray:=fun j hj => by
   rw [Nat.zero_add]
   refine ⟨?_,hrow.frozen j⟩
   have hf:=flatK_list (PtC.enc (A:=A) (w:=w)) 2 (fun _ => rfl) (by decide) xs.toArray
   rw [List.toList_toArray] at hf
   rw [getElem!_pos _ j hj]
   refine hrow.cells j _ ?_
   rw [e1,← hf,List.getElem?_eq_getElem (by simpa using hj)]
   simp
  have hC:CmpLays Tryz.prog g #[] PtC.enc 2 (fun x y:PtC A w => cmpF x.1.2 y.1.2) blk 0 xs.toArray.size w:=fun m os dk _ x y => by
   have hfr:∀ {v:Value} {f:List (List Int)},(RS (RS RI)).rd A w [v] f→Rd (RS (RS RI)) (sortWorldK PtC.enc 2 w blk 0 m dk os) [v] f:=fun {v f} h =>
    Rd.of ((RS (RS RI)).rd_frame h (fun b hb hl => sw_block PtC.enc 2 w blk m dk os (fun e => hog b (by rw [e]) hb) hl))
   exact hcmp _ _ _ _ _ _ _ (hfr x.2.2.1) (hfr y.2.2.1) x.2.2.2 y.2.2.2
  have hs:=AnyQ.slices_SortFunc Tryz.sortPt 2 aggPt sizePt PtC.enc (fun _ => rfl) (fun x v hv => by
   simp [PtC.enc] at hv
   rcases hv with rfl|rfl
   ·rfl
   ·exact (RS (RS RI)).rd_one x.2.2.1 _ (by simp)) (fun x y:PtC A w => cmpF x.1.2 y.1.2) swo_cmpF g #[] blk 0 cap xs.toArray w eg hC hH hlt (by rw [hlen];omega)
  rw [hlen] at hs
  refine hs.mono ?_
  rintro e w' ⟨rfl,d',n,os,⟨hp1,_,hp3⟩,hsd,rfl⟩
  have hd:d'.size = zs.length:=by rw [hp1,hlen]
  refine ⟨rfl,d'.toList.map PtC.el,?_,?_,⟨_,sw_row PtC.enc 2 w blk n d' os hrow hd hlt,?_⟩,rfl,rfl,rfl,sw_size PtC.enc 2 w blk n d' os,fun b hb hne => sw_block PtC.enc 2 w blk n d' os (fun e => hne (by rw [e])) hb⟩
  ·rw [e2]
   refine List.Perm.map _ ?_
   rw [← hlen] at hp3
   rw [show d'.extract 0 xs.toArray.size = d' by rw [← hp1];simp,show xs.toArray.extract 0 xs.toArray.size = xs.toArray by simp,List.toList_toArray] at hp3
   exact hp3
  ·rw [List.pairwise_iff_getElem]
   intro i j hi hj hij
   have hi':i < d'.size:=by simpa using hi
   have hj':j < d'.size:=by simpa using hj
   have h1:=hsd i j (Nat.zero_le _) hij (by omega)
   rw [getElem!_pos d' i hi',getElem!_pos d' j hj'] at h1
   have h1:¬ cmpF d'[j].1.2 d'[i].1.2 < 0:=of_decide_eq_false h1
   have h2:=jK.anti d'[j].1.2 d'[i].1.2
   simp only [List.getElem_map,Array.getElem_toList,PtC.el]
   omega
  ·rw [flatK_list PtC.enc 2 (fun _ => rfl) (by decide)]
   exact ptc_to (fun b hb => sw_block PtC.enc 2 w blk n d' os (fun e => hog b (by rw [e]) hb) (hA b hb)) d'.toList
theorem encPt:Enc yM ePt:=encP encI (encS (encS encI))
theorem a_SortPart (g:Nat) (eg:∀ args w,(callFunc g args).run Tryz.prog w = .ok (.enter g args) w)
  (hcmp:∀ (W:World) (a b:Int) (u v:Value) (f h:List (List Int)),Rd (RS (RS RI)) W [u] f→Rd (RS (RS RI)) W [v] h→qX f ≤ 1000000→qX h ≤ 1000000 →
   Calls Tryz.prog g #[.agg #[.int .i64 a,u],.agg #[.int .i64 b,v]] W fun e w' => e = .returned (.int .i64 (cmpF f h))∧∃ q os',w' = Sort.grow (W.drewN q) os')
  (zs:List (Int × List (List Int))) (hsz:∀ z ∈ zs,qX z.2 ≤ 1000000) (hn:zs.length ≤ 1000000000) :
  AEf Tryz.prog 150 false [] 2 (zs.map ePt) [[.raw (.func (.func g) #[] #[])]] (fun rs oc => rs = []∧∃ zs':List (Int × List (List Int)),oc = some (zs'.map ePt)∧zs'.Perm zs∧zs'.Pairwise (fun a b => cmpF a.2 b.2 ≤ 0)):=by
 refine ⟨enters_of Tryz.func150 rfl rfl,fun A w vs us og cap ds hA hv hu hrow hk hel hog => ?_⟩
 have hv:vs = []:=hv
 subst hv
 obtain ⟨u,us',rfl,hu1,hu2⟩:=hu
 have hu2:us' = []:=hu2
 subst hu2
 have hu1:u = .func (.func g) #[] #[]:=(yK.1 hu1).1
 subst hu1
 rw [List.length_map] at hrow
 obtain ⟨d,hk',hel⟩:=hel
 have hrd:rdL yM A w ds zs:=enc_rdL_of encPt hel
 have hs:=c_SortPart g eg hcmp hA hog hrow hrd hsz hn
 rw [← List.length_map (f:=ePt)] at hs
 refine Calls.mono hs ?_
 rintro e w' ⟨rfl,zs',hp,hso,⟨ds',hrow',hrd'⟩,hb⟩
 obtain ⟨d',hd'⟩:=enc_rdL encPt hrd'
 have hl:(zs'.map ePt).length = (zs.map ePt).length:=by rw [List.length_map,List.length_map,hp.length_eq]
 refine ⟨.tuple #[],[],some (zs'.map ePt),rfl,⟨rfl,zs',rfl,hp,hso⟩,hb,⟨[],[],[],rfl,List.nodup_nil,by simp,rfl,rfl,rfl⟩,⟨ds',?_,d',by decide,hd'⟩,fun ys e => by cases e;exact hl⟩
 rw [hl]
 exact hrow'
end Go.Proofs.YtedgfkpfhonlpaaGreat
namespace Go.Proofs.YtedgfkpfhonlpaaGreat
open Go.RowKit
theorem c_summed1 (W:World) (a b:Int) (u v:Value) (f h:List (List Int)) (h1:Rd (RS (RS RI)) W [u] f) (h2:Rd (RS (RS RI)) W [v] h) (s1:qX f ≤ 1000000) (s2:qX h ≤ 1000000) :
  Calls Tryz.prog 151 #[.agg #[.int .i64 a,u],.agg #[.int .i64 b,v]] W fun e w' => e = .returned (.int .i64 (cmpF f h))∧∃ q os',w' = Sort.grow (W.drewN q) os':=by
 obtain ⟨o1,c1,rfl,_,_⟩:=h1.val
 obtain ⟨o2,c2,rfl,_,_⟩:=h2.val
 have b1:Below W.heap.size W (W.alloc (.cells #[.int .i64 a,.slice o1 f.length c1] 71)):=(Below.refl _ _).alloc (Nat.le_refl _) _
 have b2:Below W.heap.size W ((W.alloc (.cells #[.int .i64 a,.slice o1 f.length c1] 71)).alloc (.cells #[.int .i64 b,.slice o2 h.length c2] 71)):=b1.alloc (by simp) _
 have hc:=jI0 _ _ f h _ (h1.below b2 (Nat.le_refl _)) (h2.below b2 (Nat.le_refl _)) (by omega) (by omega)
 have HC:=Lib.hid hc
 clear hc b1 b2 h1 h2
 go_enter Tryz.func151,Tryz.ntmps151
 go_wp2_with (go_at_call 87;refine HC.out.mono ?_;rintro e w' ⟨rfl,rfl⟩)
 go_ret
 exact ⟨rfl,0,_,by rw [Sort.alloc_eq_grow,Sort.alloc_eq_grow,Sort.grow_grow];rfl⟩
theorem e_summed1:∀ args w,(callFunc 151 args).run Tryz.prog w = .ok (.enter 151 args) w:=enters_of Tryz.func151 rfl rfl
theorem a_sortPt (zs:List (Int × List (List Int))) (hsz:∀ z ∈ zs,qX z.2 ≤ 1000000) (hn:zs.length ≤ 1000000000) :
  AEf Tryz.prog 150 false [] 2 (zs.map ePt) [[.raw (.func (.func 151) #[] #[])]] (fun rs oc => rs = []∧∃ zs':List (Int × List (List Int)),oc = some (zs'.map ePt)∧zs'.Perm zs∧zs'.Pairwise (fun a b => cmpF a.2 b.2 ≤ 0)) :=
 a_SortPart 151 e_summed1 c_summed1 zs hsz hn
theorem row_slv {w:World} {v:Value} {k n:Nat} {ds:List Value} {og:Option Nat} (h:Row w v k n ds og):∃ c,v = slv og n c:=by
 obtain ⟨oa,c,ev,k1,k2,k3,k4⟩:=h.value
 refine ⟨c,?_⟩
 cases og with
 | none =>
  have h0:=h.len0
  have hoa:oa = none:=k4
  rw [ev,hoa,h0,k3 hoa];rfl
 | some g => rw [ev,k4];rfl
def CloneQ (A:Nat→Prop) (zs:List (Int × List (List Int))) (w:World):Ending→World→Prop:=fun e w' =>
 ∃ og cap ds,e = .returned (slv og zs.length cap)∧Row w' (slv og zs.length cap) 2 zs.length ds og∧(∀ b,og = some b→w.heap.size ≤ b)∧Below w.heap.size w w'∧rdL yM A w ds zs
theorem c_ClonePt (v:Value) (zs:List (Int × List (List Int))) (w:World) (A:Nat→Prop) (hA:∀ b,A b→b < w.heap.size) (h:(RS yM).rd A w [v] zs) (hsz:zs.length ≤ 1000000) :
  Calls Tryz.prog 149 #[v] w (CloneQ A zs w):=by
 obtain ⟨oa,cap,ds,hv,h2,h3,h4,h5,h6⟩:=h
 simp only [List.cons.injEq,and_true] at hv
 subst hv
 unfold maxLen at h3
 have q22:∀ (w:World) (a:Option Addr) (n c n' c':Nat),(binOp .eql 50 (.slice a n c) (.slice none n' c')).run Tryz.prog w = .ok (.bool a.isNone) w:=fun w a n c n' c' => Lib.run_eql_slice_nil w _ _ a n c n' c' tPartI.ht
 cases oa with
 | none =>
  have hc:=h4 rfl
  have hz:zs = []:=List.eq_nil_of_length_eq_zero (by omega)
  subst hz;subst hc
  go_enter Tryz.func149,Tryz.ntmps149
  go_wp2_with fail
  go_ret
  exact ⟨none,0,[],rfl,Row.nil _ 2,fun b hb => (by cases hb),Below.refl _ _,rfl⟩
 | some ad =>
  have hlen:=h5.len
  have hk2:yM.k = 2:=rfl
  rw [hk2] at hlen
  have hcell:∀ a,(some ad:Option Addr) = some a→∀ j u,ds[j]? = some u→(w.alloc (.cells #[] 71)).cell? (a.add j) = some u:=by
   intro a ha j u hj
   cases ha
   rcases h6 with h6|⟨b,off,e,hb,hc⟩
   ·rw [h6] at hj;simp at hj
   ·cases e
    have:=hc j u hj
    rw [Addr.add_lit]
    rw [World.cell?_alloc_lt _ _ _ (hA b hb)]
    exact this
  have hrow:=Row.lit w #[] 71 2 0 (by decide) (by simp)
  have HR:=Lib.hid hrow
  have HC:=Lib.hid hcell
  have H1:=Lib.hid h5
  clear hrow hcell h5 h6
  go_enter Tryz.func149,Tryz.ntmps149
  go_wp2_with (at_builtin;refine yA (o:=⟨some 7,_,_,_,_,_⟩) ?_)
  refine jX.go ?_
  refine yR rfl _ _ 50 rfl 71 (.agg #[.int .i64 0,.slice none 0 0]) 2 32 tPartI (.slice (some ⟨w.heap.size,0,none⟩) 0 0) 0 [] (some w.heap.size) rfl (by simpa using HR.out) (some ad) zs.length cap ds rfl hlen (fun h => by cases h) HC.out H1.out.one (by omega) (by unfold maxLen;omega) ?_
  intro v' w' og' happ
  rw [Nat.zero_add,List.nil_append] at happ
  have hlow:=happ.low (B:=w.heap.size) (by simp) (fun g hg => by cases hg;exact Nat.le_refl _)
  have hbel:Below w.heap.size w w':=((Below.refl w.heap.size w).alloc (Nat.le_refl _) (.cells #[] 71)).trans hlow.2
  obtain ⟨c',rfl⟩:=row_slv happ.1
  have HH:Hid (Row w' (slv og' zs.length c') 2 zs.length ds og'∧(∀ b,og' = some b→w.heap.size ≤ b)):=Lib.hid ⟨happ.1,hlow.1⟩
  obtain ⟨V,hV⟩:∃ V,V = slv og' zs.length c':=⟨_,rfl⟩
  rw [← hV]
  have HV:=Lib.hid hV
  clear happ hlow hV
  go_wp2_with fail
  go_ret
  exact ⟨og',c',ds,by (rw [HV.out] <;> rfl),HH.out.1,HH.out.2,hbel,H1.out⟩
theorem a_ClonePt (zs:List (Int × List (List Int))) (hsz:zs.length ≤ 1000000):AFn Tryz.prog 149 [[.sl 2 (zs.map ePt)]] (· = [.own 2 (zs.map ePt) false]):=by
 refine ⟨enters_of Tryz.func149 rfl rfl,fun A w vs hA ⟨v1,_,e1,h1,e2⟩ => ?_⟩
 subst e2;subst e1
 have hr:(RS yM).rd A w [v1] zs:=((encS encPt).rdV (x:=zs) rfl).2 h1
 refine (c_ClonePt v1 zs w A hA hr hsz).mono ?_
 rintro e w' ⟨og,cap,ds,rfl,hrow,hnew,hb,hrd⟩
 have hrd':rdL yM (fun b => (A b ∨ w.heap.size ≤ b)∧b ∉ og.toList) w' ds zs:=by
  refine (hrd.frame (fun b hb' _ => hb.block b (hA b hb'))).mono (fun b hb' _ => ⟨.inl hb',fun hm => ?_⟩)
  have h1:=hA b hb'
  have h2:=hnew b (by simpa using hm)
  omega
 obtain ⟨d,hd⟩:=enc_rdL encPt hrd'
 refine ⟨_,_,rfl,rfl,hb,[_],og.toList ++ [],og.toList,rfl,by cases og <;> simp,fun b hb' => hnew b (by simpa using hb'),_,[],og.toList ++ [],[],og.toList,[],rfl,by simp,by simp,by cases og <;> rfl,?_,rfl,rfl,rfl⟩
 exact ⟨og,cap,[],ds,by rw [List.length_map] <;> (cases og <;> rfl),by rw [List.length_map];exact hrow,by decide,rfl,rfl,d,by decide,hd⟩
end Go.Proofs.YtedgfkpfhonlpaaGreat
namespace Go.Proofs.YtedgfkpfhonlpaaGreat
open Go.RowKit
def ePtT (z:(Int × List (List Int)) × List Nat):List D:=[.int z.1.1,.tag z.2 (.sl 1 (z.1.2.map eL))]
theorem tag_mkP:∀ (zs:List ((Int × List (List Int)) × List Nat)),TagL ((zs.map (·.1)).map ePt) (zs.map ePtT) ((zs.map (·.2)).flatten)
 | [] => ⟨rfl,rfl⟩
 | z :: zs => ⟨_,_,z.2,_,rfl,rfl,⟨.int z.1.1,[.tag z.2 (.sl 1 (z.1.2.map eL))],[],z.2,rfl,rfl,.inr ⟨rfl,rfl,rfl⟩,⟨_,[],z.2,[],rfl,(List.append_nil _).symm,.inl rfl,rfl,rfl⟩⟩,tag_mkP zs⟩
theorem tag_rowsP:∀ {L:List (Int × List (List Int))} {xs':List (List D)} {F:List Nat},TagL (L.map ePt) xs' F→PlainL (L.map ePt) xs'→∃ zs:List ((Int × List (List Int)) × List Nat),L = zs.map (·.1)∧xs' = zs.map ePtT∧F = (zs.map (·.2)).flatten
 | [],xs',F,⟨h1,h2⟩,_ => ⟨[],rfl,h1,h2⟩
 | p :: L,xs',F,⟨y,ys,G,H,h1,h2,h3,h4⟩,⟨y',ys',p1,p2,p3⟩ => by
  obtain ⟨e1,e2⟩:y = y'∧ys = ys':=by rw [h1] at p1;simpa using p1
  subst e1;subst e2
  obtain ⟨zs,e1,e2,e3⟩:=tag_rowsP h4 p3
  obtain ⟨y0,ys0,G0,H0,k1,k2,k3,y1,ys1,G1,H1,k4,k5,k6,k7,k8⟩:=h3
  obtain ⟨x0,xs0,p4,p5,_⟩:=p2
  obtain ⟨e4,_⟩:y0 = x0∧ys0 = xs0:=by rw [k1] at p4;simpa using p4
  subst e4
  have hy:=p5 rfl
  subst k7;subst k8
  have hG:G0 = []:=by
   rcases k3 with k3|⟨_,_,k3⟩
   ·rw [k3] at hy;cases hy
   ·exact k3
  subst hG
  subst hy
  rcases k6 with rfl|⟨k6,_⟩
  ·exact ⟨(p,G1) :: zs,by rw [e1];rfl,by rw [h1,k1,k4,e2];rfl,by rw [h2,k2,k5,e3];simp⟩
  ·cases k6
end Go.Proofs.YtedgfkpfhonlpaaGreat
namespace Go.Proofs.YtedgfkpfhonlpaaGreat
open Go.RowKit
def stepM {κ:Type} (c:κ→κ→Int) (out:List (Int × κ)) (a:Int) (x:κ):List (Int × κ):=match out.getLast? with
 | some (b,y) => if c y x = 0 then out.dropLast ++ [(mP (b + a),y)] else out ++ [(mP a,x)]
 | none => [(mP a,x)]
theorem stepM_nil {κ:Type} (c:κ→κ→Int) (a:Int) (x:κ):stepM c [] a x = [(mP a,x)]:=rfl
theorem stepM_eq {κ:Type} (c:κ→κ→Int) (out:List (Int × κ)) (b:Int) (y:κ) (a:Int) (x:κ) (h:c y x = 0):stepM c (out ++ [(b,y)]) a x = out ++ [(mP (b + a),y)]:=by
 unfold stepM;simp [h]
theorem stepM_ne {κ:Type} (c:κ→κ→Int) (out:List (Int × κ)) (b:Int) (y:κ) (a:Int) (x:κ) (h:¬ c y x = 0):stepM c (out ++ [(b,y)]) a x = out ++ [(b,y)] ++ [(mP a,x)]:=by
 unfold stepM;simp [h]
theorem mergeTo_snoc {κ:Type} (c:κ→κ→Int) (a:Int) (x:κ):∀ (M out:List (Int × κ)),jN c out (M ++ [(a,x)]) = stepM c (jN c out M) a x
 | [],out => rfl
 | (b,y) :: M,out => by
  rw [List.cons_append]
  unfold jN
  exact mergeTo_snoc c a x M _
theorem mergeTo_len {κ:Type} (c:κ→κ→Int):∀ (M out:List (Int × κ)),(jN c out M).length ≤ out.length + M.length
 | [],out => by simp [jN]
 | (a,x) :: M,out => by
  have:=mergeTo_len c M (stepM c out a x)
  show (jN c (stepM c out a x) M).length ≤ _
  have h2:(stepM c out a x).length ≤ out.length + 1:=by
   unfold stepM
   split
   ·rename_i b y e
    split
    ·have:out ≠ []:=by rintro rfl;simp at e
     have:=List.length_pos_iff.2 this
     simp <;> omega
    ·simp
   ·simp
  simp only [List.length_cons];omega
theorem mergeTo_mem {κ:Type} (c:κ→κ→Int):∀ (M out:List (Int × κ)) (z:Int × κ),z ∈ jN c out M→((0 ≤ z.1∧z.1 < 10007)∧∃ q ∈ out ++ M,q.2 = z.2) ∨ z ∈ out
 | [],out,z,h => .inr (by simpa [jN] using h)
 | (a,x) :: M,out,z,h => by
  have hs:∀ z ∈ stepM c out a x,((0 ≤ z.1∧z.1 < 10007)∧(z.2 = x ∨ ∃ q ∈ out,q.2 = z.2)) ∨ z ∈ out:=by
   intro z hz
   unfold stepM at hz
   split at hz
   ·rename_i b y e
    split at hz
    ·rcases List.mem_append.1 hz with hz|hz
     ·exact .inr ((List.dropLast_sublist out).subset hz)
     ·simp at hz;subst hz
      exact .inl ⟨jO _,.inr ⟨(b,y),List.mem_of_getLast? e,rfl⟩⟩
    ·rcases List.mem_append.1 hz with hz|hz
     ·exact .inr hz
     ·simp at hz;subst hz
      exact .inl ⟨jO _,.inl rfl⟩
   ·simp at hz;subst hz
    exact .inl ⟨jO _,.inl rfl⟩
  rcases mergeTo_mem c M (stepM c out a x) z h with ⟨h1,q,hq,h2⟩|h1
  ·rcases List.mem_append.1 hq with hq|hq
   ·rcases hs q hq with ⟨_,h3|⟨q',h4,h5⟩⟩|h3
    ·exact .inl ⟨h1,(a,x),by simp,by rw [← h2,h3]⟩
    ·exact .inl ⟨h1,q',by simp [h4],by rw [h5,h2]⟩
    ·exact .inl ⟨h1,q,by simp [h3],h2⟩
   ·exact .inl ⟨h1,q,by simp [hq],h2⟩
  ·rcases hs z h1 with ⟨h2,h3|⟨q',h4,h5⟩⟩|h3
   ·exact .inl ⟨h2,(a,x),by simp,by rw [h3]⟩
   ·exact .inl ⟨h2,q',by simp [h4],h5⟩
   ·exact .inr h3
theorem a_cloneRows (f:List (List Int)) (hl:f.length ≤ 1000000) (hs:qX f ≤ 1000000):AFn Tryz.prog 152 [eLL f] (· = [.own 1 (f.map eL) true]) :=
 afn_LLL_oo (enters_of Tryz.func152 rfl rfl) (fun u w h => yJ0 u f w h (by omega) (fun b hb => Nat.le_trans (xV hb) (by omega)))
noncomputable def TSm:Tab Tryz.prog :=
 (Tab.none.add 92 (tab1 codI fun n => some [.val (.int (mP n))]) (yJ fun n rs h => by cases h;exact a_num n)).add
  152 (tab1 codLL fun f => if f.length ≤ 1000000∧qX f ≤ 1000000 then some [.own 1 (f.map eL) true] else none) (yJ fun f rs h => by split at h;cases h;rename_i hs;exact a_cloneRows f hs.1 hs.2;cases h)
noncomputable def TCf:Tab Tryz.prog :=
 Tab.none.add 87 (tab2 codLL codLL fun f g => if qX f ≤ 1000000∧qX g ≤ 1000000 then some [.val (.int (cmpF f g))] else none) (xF fun f g rs h => by split at h;cases h;rename_i hs;exact yX0 f g (by omega) (by omega);cases h)
theorem a_summed2 (n:Int) (f:List (List Int)):AFn Tryz.prog 154 [[.int n,.sl 1 (f.map eL)]] (· = [.val (.bool (decide (n = 0)))]):=by
 refine AFn.of_runs (qQ 6) Tryz.func154 rfl rfl rfl gz ?_
 have hres:Tryz.f154.results.toList = [.tmp 2]:=rfl
 have hrts:Tryz.f154.resultTypes.toList = [4]:=rfl
 simp only [qV,qU,eL,eI,eLL,eB,Nat.zero_add,Nat.reduceAdd]
 intro M
 refine qJ.of ?_
 by_cases h:n = 0
 ·subst h
  rw [decide_eq_true rfl]
  refine gw96 Y0 ?_
  exact gw2
 ·have hb:(n == 0) = false:=beq_eq_false_iff_ne.2 h
  rw [decide_eq_false h]
  refine gw96 hb ?_
  exact gw2
theorem sub_flat3 {α:Type} {l1 l2:List (List α)} (h:l1.Sublist l2):l1.flatten.Sublist l2.flatten:=by
 induction h with
 | slnil => exact .slnil
 | cons a _ ih => rw [List.flatten_cons];exact ih.trans (List.sublist_append_right _ _)
 | cons_cons a _ ih => rw [List.flatten_cons,List.flatten_cons];exact List.Sublist.append (List.Sublist.refl _) ih
theorem a_summed (L:List (Int × List (List Int))) (hl:L.length ≤ 100000) (hz:∀ z ∈ L,(0 ≤ z.1∧z.1 < 10007)∧z.2.length ≤ 1000000∧qX z.2 ≤ 1000000):AFn Tryz.prog 89 [[.sl 2 (L.map ePt)]] (· = [.own 2 ((sumS cmpF L).map ePt) true]):=by
 have hcl:=a_ClonePt L (by omega)
 have hso:=a_sortPt L (fun z hz' => (hz z hz').2.2) (by omega)
 refine AFn.of_runs (qQ 62) Tryz.func89 rfl rfl rfl gz ?_
 have hres:Tryz.f89.results.toList = [.tmp 2]:=rfl
 have hrts:Tryz.f89.resultTypes.toList = [50]:=rfl
 simp only [qV,qU,eL,eI,eLL,eB,Nat.zero_add,Nat.reduceAdd]
 intro M
 refine qJ.of ?_
 refine gw97 ?_
 refine qJ.regCut (qQ 62) Tab.none 1 (s1:=?_) ?_ ?_
 rotate_left 1
 focus (refine Work.mk ?_;simp only [Zg,Zi,seval,reduceCtorEq,Nat.reduceEqDiff];with_reducible rfl)
 simp only [List.toList_toArray,List.drop_succ_cons,List.drop_zero]
 refine qZ.callEf (qQ 62) rfl rfl (by decide) rfl rfl (x:=.tmp 9) (xpost:=[.func 151]) rfl rfl (post:=[[.raw (.func (.func 151) #[] #[])]]) ?_ ?_ rfl rfl ?_ hso (R:=fun ys => ∃ zs:List (Int × List (List Int)),ys = zs.map ePt∧zs.Perm L∧zs.Pairwise (fun a b => cmpF a.2 b.2 ≤ 0)) ?_ ?_
 ·simp only [Zg,Zi,seval,reduceCtorEq,Nat.reduceEqDiff]
 ·rfl
 ·intro q u hq hu
  rw [look,if_neg (fun e => hq e.symm)] at hu
  cases hu
 ·rintro rs oc ⟨rfl,zs,rfl,h1,h2⟩
  exact ⟨rfl,_,rfl,zs,rfl,h1,h2⟩
 rintro _ ⟨zs,rfl,hperm,hsort⟩
 have hzl:zs.length ≤ 100000:=by rw [hperm.length_eq];exact hl
 have hzz:∀ z ∈ zs,(0 ≤ z.1∧z.1 < 10007)∧z.2.length ≤ 1000000∧qX z.2 ≤ 1000000:=fun z hz' => hz z (hperm.mem_iff.1 hz')
 refine qZ.opsT (qQ 62) (T:=Tab.none) (s':=?_) ?_ ?_
 rotate_left 1
 focus (simp only [Zg,Zi,seval,reduceCtorEq,Nat.reduceEqDiff,List.length_map];with_reducible rfl)
 refine gw98 ?_
 obtain ⟨R,hR⟩:∃ R,R = fun i => jN cmpF [] (zs.take i):=⟨_,rfl⟩
 have hRb:∀ i,i ≤ zs.length→(R i).length ≤ 100000∧∀ z ∈ R i,(0 ≤ z.1∧z.1 < 10007)∧z.2.length ≤ 1000000∧qX z.2 ≤ 1000000:=fun i hi => by
  rw [hR]
  refine ⟨?_,fun z hz' => ?_⟩
  ·have:=mergeTo_len cmpF (zs.take i) []
   simp only [List.length_nil,List.length_take] at this
   show (jN cmpF [] (zs.take i)).length ≤ 100000
   omega
  ·rcases mergeTo_mem cmpF (zs.take i) [] z hz' with ⟨h1,q,hq,h2⟩|h1
   ·have:=hzz q (List.mem_of_mem_take (by simpa using hq))
    rw [← h2]
    exact ⟨h1,this.2⟩
   ·cases h1
 refine qJ.loop (β:=Nat) (γ:=Unit) (fun i => ⟨[(3,.c (.own 3 (R i).length)),(12,.c (.own 0 zs.length)),(13,.c (.val (.int zs.length))),(14,.c (.val (.int i)))],[(0,.row 2 (zs.map ePt) false),(3,.row 2 ((R i).map ePt) true)]⟩) (fun i => i ≤ zs.length) (fun i => zs.length - i)
  (fun _ => ⟨[(3,.c (.own 3 (R zs.length).length))],[(3,.row 2 ((R zs.length).map ePt) true)]⟩) (fun _ => True) 0 (Nat.zero_le _) ?_ ?_ ?_
 ·have e0:R 0 = []:=by rw [hR];rfl
  rw [e0,← hperm.length_eq]
  exact gw99
 ·intro i hi
  have hi:i ≤ zs.length:=hi
  have hw:=jW (n:=i) (by omega)
  obtain ⟨hb1,hb2⟩:=hRb i hi
  by_cases h:i < zs.length
  ·have i1:((i:Int) < (zs.length:Int)) = True:=eq_true (by omega)
   have i2:((0:Int) ≤ (i:Int)) = True:=eq_true (by omega)
   obtain ⟨p,hp⟩:∃ p,p = zs[i]:=⟨_,rfl⟩
   have hg:(zs.map ePt)[i]? = some [.int p.1,.sl 1 (p.2.map eL)]:=by rw [qN h,hp];rfl
   obtain ⟨hp1,hp2,hp3⟩:=hzz zs[i] (List.getElem_mem _)
   rw [← hp] at hp1 hp2 hp3
   have hst:R (i + 1) = stepM cmpF (R i) p.1 p.2:=by
    rw [hR]
    show jN cmpF [] (zs.take (i + 1)) = stepM cmpF (jN cmpF [] (zs.take i)) p.1 p.2
    rw [List.take_succ_eq_append_getElem h,← hp]
    exact mergeTo_snoc cmpF p.1 p.2 _ _
   have q1:=jI (n:=(R i).length + 1) (by omega)
   have q2:=jH (n:=(R i).length + 1) (c:=32) (by omega) (by omega)
   have hk1:=eq_true (show p.2.length ≤ 1000000∧qX p.2 ≤ 1000000 from ⟨hp2,hp3⟩)
   have hpm:=mP_small hp1.1 hp1.2
   by_cases h0:R i = []
   ·rw [h0,stepM_nil] at hst
    have j1:(((0:Nat):Int) > 0) = False:=eq_false (by omega)
    rw [h0] at q1 q2 ⊢
    simp only [List.length_nil] at q1 q2
    refine gw100 (Y8 i1 i2 hg hw j1 q1 q2 hk1) ?_
    refine qW.on (i + 1) ⟨h,by omega⟩ ?_
    rw [hst]
    exact gw101
   ·refine qJ.tag' 3 (k:=2) (xs:=(R i).map ePt) rfl ?_
    intro xs' F ht hpl hnd hF
    obtain ⟨qs,e1,e2,e3⟩:=tag_rowsP ht hpl
    have hqn:qs ≠ []:=by rintro rfl;exact h0 (by rw [e1];rfl)
    obtain ⟨qo,q,eq⟩:=(vE qs).resolve_left hqn
    have hlq:(R i).length = qo.length + 1:=by rw [e1,List.length_map,eq];simp
    have hRq:R i = qo.map (·.1) ++ [q.1]:=by rw [e1,eq];simp
    obtain ⟨hz1,hz2,hz3⟩:=hb2 q.1 (by rw [hRq];simp)
    have j1:((((qo.length + 1:Nat)):Int) > 0) = True:=eq_true (by omega)
    have hw1:w64 (((qo.length + 1:Nat):Int) - 1) = ((qo.length:Nat):Int):=by rw [qG (by omega)];omega
    have i3:((0:Int) ≤ ((qo.length:Nat):Int)) = True:=eq_true (by omega)
    have i4:(((qo.length:Nat):Int) < ((qo.length + 1:Nat):Int)) = True:=eq_true (by omega)
    have hgz:xs'[qo.length]? = some [.int q.1.1,.tag q.2 (.sl 1 (q.1.2.map eL))]:=by
     rw [e2,eq,List.map_append,List.getElem?_append_right (by simp)];simp [ePtT]
    have hxl:xs'.length = qo.length + 1:=by rw [e2,eq];simp
    have hgR:((R i).map ePt)[qo.length]? = some [.int q.1.1,.sl 1 (q.1.2.map eL)]:=by
     rw [hRq,List.map_append,List.getElem?_append_right (by simp)];simp [ePt]
    have hlR:((R i).map ePt).length = qo.length + 1:=by rw [List.length_map,hlq]
    have hk2:=eq_true (show qX q.1.2 ≤ 1000000∧qX p.2 ≤ 1000000 from ⟨hz3,hp3⟩)
    rw [hlq] at hb1 q1 q2 ⊢
    refine qJ.fits (s0:=⟨[(3,.c (.own 3 (qo.length + 1))),(12,.c (.own 0 zs.length)),(13,.c (.val (.int zs.length))),(14,.c (.val (.int i)))],[(0,.row 2 (zs.map ePt) false),(3,.row 2 xs' false)]⟩) ?_ ?_
    ·exact gw7 Y0
    by_cases he:cmpF q.1.2 p.2 = 0
    ·have hd:(cmpF q.1.2 p.2 == 0) = true:=beq_iff_eq.2 he
     refine gw102 (Y11 i1 i2 i3 i4 hg hgz hxl hw1 hd j1 hk2) ?_
     refine qJ.untag 3 (xs:=(R i).map ePt) rfl ht hnd hF rfl ?_
     refine qJ.fits (s0:=⟨[(3,.c (.own 3 (qo.length + 1))),(5,.optr 5 0 0),(6,.c (.val (.int ((qo.length + 1:Nat):Int)))),(12,.c (.own 0 zs.length)),(13,.c (.val (.int zs.length))),(14,.c (.val (.int i)))],[(0,.row 2 (zs.map ePt) false),(3,.row 2 ((R i).map ePt) true),(5,.row 2 [[.int p.1,.sl 1 (p.2.map eL)]] false)]⟩) ?_ ?_
     ·exact gw7 Y0
     have hwz:=qG (n:=q.1.1 + p.1) (by omega)
     refine gw103 (Y10 i1 i2 i3 i4 hgR hlR hw hw1 hwz hlq) ?_
     have hse:((R i).map ePt).set qo.length [.int (mP (q.1.1 + p.1)),.sl 1 (q.1.2.map eL)] = (R (i + 1)).map ePt:=by
      rw [hst,hRq,stepM_eq cmpF (qo.map (·.1)) q.1.1 q.1.2 p.1 p.2 he,List.map_append,List.set_append_right _ _ (by simp)];simp [ePt]
     refine qW.on (i + 1) ⟨h,by omega⟩ ?_
     have hl2:(R (i + 1)).length = qo.length + 1:=by rw [hst,hRq,stepM_eq cmpF (qo.map (·.1)) q.1.1 q.1.2 p.1 p.2 he];simp
     rw [hl2,← hse]
     exact gw46 Y0
    ·have hd:(cmpF q.1.2 p.2 == 0) = false:=beq_eq_false_iff_ne.2 he
     refine gw102 (Y11 i1 i2 i3 i4 hg hgz hxl hw1 hd j1 hk2) ?_
     refine qJ.untag 3 (xs:=(R i).map ePt) rfl ht hnd hF rfl ?_
     refine qJ.fits (s0:=⟨[(3,.c (.own 3 (qo.length + 1))),(5,.optr 5 0 0),(6,.c (.val (.int ((qo.length + 1:Nat):Int)))),(12,.c (.own 0 zs.length)),(13,.c (.val (.int zs.length))),(14,.c (.val (.int i)))],[(0,.row 2 (zs.map ePt) false),(3,.row 2 ((R i).map ePt) true),(5,.row 2 [[.int p.1,.sl 1 (p.2.map eL)]] false)]⟩) ?_ ?_
     ·exact gw7 Y0
     refine gw103 (Y12 i1 i2 i3 i4 hgR hlR hw hw1 hk1 hlq q1 q2) ?_
     have hR2:R (i + 1) = R i ++ [(mP p.1,p.2)]:=by
      rw [hst,hRq];exact stepM_ne cmpF (qo.map (·.1)) q.1.1 q.1.2 p.1 p.2 he
     refine qW.on (i + 1) ⟨h,by omega⟩ ?_
     rw [hR2,List.length_append,hlq]
     exact gw46 Y0
  ·have i1:((i:Int) < (zs.length:Int)) = False:=eq_false (by omega)
   obtain rfl:i = zs.length:=by omega
   refine gw104 i1 ?_
   refine qW.out () trivial ?_
   exact gw7 Y0
 ·rintro _ _
  refine gw104 Y0 ?_
  refine qJ.tag' 3 (k:=2) (xs:=(R zs.length).map ePt) rfl ?_
  intro xs' F ht hpl hnd hF
  obtain ⟨qs,e1,e2,e3⟩:=tag_rowsP ht hpl
  subst e2
  have hql:(R zs.length).length = qs.length:=by rw [e1,List.length_map]
  have hqb:qs.length ≤ 1000000000:=by rw [← hql];have:=(hRb zs.length (Nat.le_refl _)).1;omega
  have hdel:=a_DeleteFuncPt ePtT (fun z => .tag z.2 (.sl 1 (z.1.2.map eL))) (·.1.1) (·.1.2) (fun z => decide (z.1.1 = 0)) 154 (fun _ => rfl) (fun _ => rfl) (fun z => a_summed2 z.1.1 z.1.2) qs hqb
  rw [hql]
  refine qJ.fits (s0:=⟨[(3,.c (.own 3 qs.length))],[(3,.row 2 (qs.map ePtT) false)]⟩) ?_ ?_
  ·exact gw7 Y0
  refine gw105 ?_
  refine Ends.un (by simp) hres hrts (r:=?_) (r':=.own 2 ((sumS cmpF L).map ePt) true) (l:=[]) (ks:=?_) ?_ ?_ (by simp) ?_ rfl
  rotate_left 2
  focus (simp only [jF,ares,Zg,Zi,seval,reduceCtorEq,Nat.reduceEqDiff];with_reducible rfl)
  focus simp
  have hx:(sumS cmpF L).map ePt = ((keepF (fun z:(Int × List (List Int)) × List Nat => decide (z.1.1 = 0)) qs).map (·.1)).map ePt:=by
   rw [← merge_sum jK hperm hsort (fun q hq => (hz q hq).1)]
   have h1:jN cmpF [] zs = qs.map (·.1):=by rw [← e1,hR];show _ = jN cmpF [] (zs.take zs.length);rw [List.take_length]
   rw [h1,List.filter_map]
   rfl
  rw [hx]
  have hsub:(keepF (fun z:(Int × List (List Int)) × List Nat => decide (z.1.1 = 0)) qs).Sublist qs:=List.filter_sublist
  refine ⟨((keepF (fun z:(Int × List (List Int)) × List Nat => decide (z.1.1 = 0)) qs).map (·.2)).flatten,?_,fun b hb => hF b ?_,.inl ⟨2,_,_,rfl,rfl,tag_mkP _⟩⟩
  ·rw [e3] at hnd
   exact hnd.sublist (sub_flat3 (hsub.map _))
  ·rw [e3]
   exact (sub_flat3 (hsub.map _)).subset hb
end Go.Proofs.YtedgfkpfhonlpaaGreat
namespace Go.Proofs.YtedgfkpfhonlpaaGreat
open Go.RowKit
def RetOC {α:Type} (R:Rep α) (w:World) (x:α) (code:Int):Ending→World→Prop :=
 fun e w' => ∃ u,e = .returned (.tuple #[u,.int .i64 code])∧Own R w.heap.size w'.heap.size w' [u] x∧Below w.heap.size w w'
end Go.Proofs.YtedgfkpfhonlpaaGreat
namespace Go.Proofs.YtedgfkpfhonlpaaGreat
open Go.RowKit
theorem yN {e:Elt} (h:elB e = true):OkE e∧e.length ≤ 300∧∀ p ∈ e,p.2.length ≤ 8∧qX p.2 ≤ 8:=by
 obtain ⟨h1,h2,_,h4⟩:=yF h
 have h5:∀ p ∈ e,p.2.length ≤ 8∧qX p.2 ≤ 8:=fun p hp => ⟨forB_short (h4 p hp),(kD (h4 p hp)).1⟩
 exact ⟨fun q hq => ⟨h2.2 q hq,by have:=h5 q hq;exact ⟨by omega,by omega⟩⟩,h1,h5⟩
theorem a_multiples (e:Elt) (k:Int) (he:∀ q ∈ e,0 ≤ q.1∧q.1 < 10007) (hk:0 ≤ k∧k < 10007) (hl:e.length ≤ 1000000):AFn Tryz.prog 75 [[.sl 2 (e.map ePt)],eI k] (· = [.own 2 ((e.map fun p => (mP (p.1 * k),p.2)).map ePt) false]):=by
 have hmk:=mP_small hk.1 hk.2
 refine AFn.of_runs (qQ 29) Tryz.func75 rfl rfl rfl gz ?_
 have hres:Tryz.f75.results.toList = [.tmp 4]:=rfl
 have hrts:Tryz.f75.resultTypes.toList = [50]:=rfl
 simp only [qV,qU,eL,eI,eLL,eB,Nat.zero_add,Nat.reduceAdd]
 intro M
 refine qJ.of ?_
 refine gw106 ?_
 refine qJ.loop (β:=Nat) (γ:=Unit) (fun i => ⟨[(1,.c (.val (.int k))),(5,.c (.own 5 i)),(9,.c (.val (.sl 2 (e.map ePt)))),(10,.c (.val (.int e.length))),(11,.c (.val (.int i)))],[(5,.row 2 (((e.take i).map fun p => (mP (p.1 * k),p.2)).map ePt) false)]⟩) (fun i => i ≤ e.length) (fun i => e.length - i)
  (fun _ => ⟨[(5,.c (.own 5 e.length))],[(5,.row 2 ((e.map fun p => (mP (p.1 * k),p.2)).map ePt) false)]⟩) (fun _ => True) 0 (Nat.zero_le _) ?_ ?_ ?_
 ·exact gw107 Y0
 ·intro i hi
  have hi:i ≤ e.length:=hi
  have hw:=jW (n:=i) (by omega)
  by_cases h:i < e.length
  ·have i1:((i:Int) < (e.length:Int)) = True:=eq_true (by omega)
   have i2:((0:Int) ≤ (i:Int)) = True:=eq_true (by omega)
   obtain ⟨z,hz⟩:∃ z,z = e[i]:=⟨_,rfl⟩
   have hz1:=he e[i] (List.getElem_mem _)
   have hg:(e.map ePt)[i]? = some [.int z.1,.sl 1 (z.2.map eL)]:=by rw [qN h,hz];rfl
   rw [← hz] at hz1
   have hlt:(((e.take i).map fun p => (mP (p.1 * k),p.2)).map ePt).length = i:=by rw [List.length_map,List.length_map,List.length_take];omega
   have hle:(e.map ePt).length = e.length:=List.length_map _
   have hb:=vN hz1 hk
   have hwm:=qG (n:=z.1 * k) (by omega)
   have q1:=jI (n:=i + 1) (by omega)
   have q2:=jH (n:=i + 1) (c:=32) (by omega) (by omega)
   have htk:(e.take (i + 1)).map (fun p => (mP (p.1 * k),p.2)) = (e.take i).map (fun p => (mP (p.1 * k),p.2)) ++ [(mP (z.1 * k),z.2)]:=by rw [hz,List.take_succ_eq_append_getElem h,List.map_append];rfl
   refine gw108 (Y10 hmk i1 i2 hg hw hwm q1 q2 hlt hle) ?_
   refine qW.on (i + 1) ⟨h,by omega⟩ ?_
   rw [htk]
   exact gw46 Y0
  ·have i1:((i:Int) < (e.length:Int)) = False:=eq_false (by omega)
   obtain rfl:i = e.length:=by omega
   rw [List.take_length]
   refine gw109 i1 ?_
   refine qW.out () trivial ?_
   exact gw7 Y0
 ·rintro _ _
  refine gw106 ?_
  exact gw2
theorem yC0 (e:Elt) (k:Int) (hz:szP e):AFn Tryz.prog 36 [[.sl 2 (e.map ePt)],eI k] (· = [.own 2 ((sclOf e k).1.map ePt) true,.val (.int (sclOf e k).2)]):=by
 have h1:=vI e hz
 have h2:=jV0 k
 unfold sclOf
 refine AFn.of_runs (qQ 18) Tryz.func36 rfl rfl rfl gz ?_
 have hres:Tryz.f36.results.toList = [.tmp 4,.tmp 5]:=rfl
 have hrts:Tryz.f36.resultTypes.toList = [50,2]:=rfl
 simp only [qV,qU,eL,eI,eLL,eB,Nat.zero_add,Nat.reduceAdd]
 intro M
 refine qJ.of ?_
 by_cases hE:elB e = true
 rotate_left
 ·have hE':elB e = false:=by simpa using hE
  rw [if_neg hE]
  rw [hE'] at h1
  refine gw110 ?_
  exact gw2
 rw [hE] at h1
 rw [if_pos hE]
 by_cases hK:inR k 0 10006 = true
 rotate_left
 ·have hK':isNum k = false:=by simpa [isNum] using hK
  rw [if_neg hK]
  rw [hK'] at h2
  simp only [eI] at h2
  refine gw111 ?_
  exact gw2
 rw [if_pos hK]
 rw [show isNum k = true from hK] at h2
 obtain ⟨ho,hl,hsm⟩:=yN hE
 have hkb:0 ≤ k∧k < 10007:=by
  unfold inR at hK
  simp at hK
  omega
 have h3:=a_multiples e k (fun q hq => by have:=(ho q hq).1;omega) hkb (by omega)
 have h4:=a_summed (e.map fun p => (mP (p.1 * k),p.2)) (by rw [List.length_map];omega) (fun z hz' => by
  obtain ⟨p,hp,rfl⟩:=List.mem_map.1 hz'
  have:=hsm p hp
  exact ⟨jO _,by simp only;omega,by simp only;omega⟩)
 simp only [eI] at h2 h3
 refine gw112 ?_
 exact gw2
end Go.Proofs.YtedgfkpfhonlpaaGreat
namespace Go.Proofs.YtedgfkpfhonlpaaGreat
open Go.RowKit
def drawAd (code:List Int):Elt × Elt :=
 let d:=qR code (src0 code) 4 4
 let e:=qR code d.2 4 4
 let k:=nxtF code e.2 4
 (d.1,if k.1 = 0∧elB d.1 = true then addX e.1 (mulE 10006 d.1) else e.1)
theorem EAOk.okX {n m:Nat} (hm:m ≤ 19) {e:Elt} (h:EAOk n m e):OkX e:=fun q hq => by
 obtain ⟨h1,h2⟩:=h.ok q hq
 have h3:=h2.sum
 have h4:=h2.len
 exact ⟨by omega,⟨by omega,by omega⟩⟩
theorem szN_ok:∀ {e:Elt},OkX e→szN e ≤ 119 * e.length
 | [],_ => by simp [szN]
 | q :: e,h => by
  have h1:=szN_ok (e:=e) fun z hz => h z (by simp [hz])
  have h2:=(h q (by simp)).2
  have h3:=h2.1
  have h4:=h2.2
  show (q.2.length + qX q.2) + szN e ≤ 119 * (e.length + 1)
  omega
theorem OkX.sz {e:Elt} (h:OkX e) (hl:e.length ≤ 1000):szP e:=by
 have:=szN_ok h
 unfold szP
 omega
theorem drawAd_ok {code:List Int} (hc:qP code):szP (drawAd code).1∧szP (drawAd code).2:=by
 obtain ⟨h1,h2⟩:=kF hc (s:=src0 code) (parts:=4) (most:=4) (Nat.zero_le _) (by decide)
 obtain ⟨h3,h4⟩:=kF hc (parts:=4) (most:=4) h2 (by decide)
 have l1:=h1.len
 have l3:=h3.len
 have k3:=h3.okX (by decide)
 refine ⟨(h1.okX (by decide)).sz (by omega),?_⟩
 show szP (if _ then _ else _)
 split
 ·rename_i h
  have k1:=(yN h.2).1
  refine OkX.sz (addX_ok k3 (mulE_ok k1)) ?_
  have:=addX_len (mulE 10006 (qR code (src0 code) 4 4).1) (qR code (qR code (src0 code) 4 4).2 4 4).1
  have e1:(mulE 10006 (qR code (src0 code) 4 4).1).length = (qR code (src0 code) 4 4).1.length:=by unfold mulE;simp
  omega
 ·exact k3.sz (by omega)
theorem a_DrawAddElements {code:List Int} (hc:qP code) (hl:code.length ≤ 1000000000):AFn Tryz.prog 37 [eCode code] (· = [.val (.sl 2 ((drawAd code).1.map ePt)),.val (.sl 2 ((drawAd code).2.map ePt))]):=by
 have hfrom:=p_l01From hc hl
 have hs:(src0 code).1 ≤ code.length:=Nat.zero_le _
 obtain ⟨o1,h2⟩:=kF hc (s:=src0 code) (parts:=4) (most:=4) hs (by decide)
 have hd1:=drw2_eq (G:=xA code) hs (a:=4) (m:=4) (by decide)
 have hd2:=drw2_eq (G:=xA code) h2 (a:=4) (m:=4) (by decide)
 obtain ⟨o2,h3⟩:=kF hc (parts:=4) (most:=4) h2 (by decide)
 have hd3:=yQ code (qR code (qR code (src0 code) 4 4).2 4 4).2 4 h3
 unfold drawAd
 have e1:xA code (src0 code) 4 4 = ([.own 2 ((qR code (src0 code) 4 4).1.map ePt) false],(qR code (src0 code) 4 4).2):=rfl
 rw [e1] at hd1
 obtain ⟨⟨d,s1⟩,hp⟩:∃ p,p = qR code (src0 code) 4 4:=⟨_,rfl⟩
 rw [← hp] at hd1 hd2 hd3 h2 h3 o1 o2 ⊢
 simp only at hd1 hd2 hd3 h2 h3 o1 o2 ⊢
 have e2:xA code s1 4 4 = ([.own 2 ((qR code s1 4 4).1.map ePt) false],(qR code s1 4 4).2):=rfl
 rw [e2] at hd2
 obtain ⟨⟨e,s2⟩,hq⟩:∃ p,p = qR code s1 4 4:=⟨_,rfl⟩
 rw [← hq] at hd2 hd3 h3 o2 ⊢
 simp only at hd2 hd3 h3 o2 ⊢
 obtain ⟨⟨k,s3⟩,hk⟩:∃ p,p = nxtF code s2 4:=⟨_,rfl⟩
 rw [← hk] at hd3 ⊢
 simp only [eI] at hd3 ⊢
 have hzd:=o1.okX (by decide)
 have hze:=o2.okX (by decide)
 have l1:=o1.len
 have l2:=o2.len
 have his:=a_l06Is d (hzd.sz (by omega))
 simp only [eCode,dCode] at hfrom ⊢
 refine AFn.of_runs (qQ 25) Tryz.func37 rfl rfl rfl gz ?_
 have hres:Tryz.f37.results.toList = [.tmp 2,.tmp 3]:=rfl
 have hrts:Tryz.f37.resultTypes.toList = [50,50]:=rfl
 simp only [qV,qU,eL,eI,eLL,eB,Nat.zero_add,Nat.reduceAdd,eCode,dCode]
 intro M
 refine qJ.of ?_
 ((refine gw113 ?_);with_reducible (apply QS (qQ 25) Tab.none;refine QW ?_;simp only [Zg,Zi,seval,reduceCtorEq,Nat.reduceEqDiff];rfl);(refine gw113 ?_))
 ((refine gw113 ?_);(with_reducible refine qJ.regCut (qQ 25) Tab.none 1 (s1:=?_) ?_ ?_);rotate_left 1;(focus ((with_reducible refine QW ?_);simp only [Zg,Zi,seval,reduceCtorEq,Nat.reduceEqDiff];with_reducible rfl));simp only [List.toList_toArray,List.drop_succ_cons,List.drop_zero])
 refine qZ.callR (qQ 25) rfl (d:=8) rfl (by decide) rfl rfl rfl rfl hfrom rfl ?_
 intro b
 (refine qZ.opsT (qQ 25) (T:=Tab.none) (s':=?_) ?_ ?_;rotate_left 1;focus (simp only [Zg,Zi,seval,reduceCtorEq,Nat.reduceEqDiff];with_reducible rfl))
 refine gw114 (Yp hd1 hd2) ?_
 refine qJ.frz 5 ?_
 refine qJ.frz 6 ?_
 by_cases hk0:k = 0
 rotate_left
 ·have kb:(k == 0) = false:=beq_eq_false_iff_ne.2 hk0
  rw [if_neg (fun h => hk0 h.1)]
  refine gw114 (Yp hd3 kb) ?_
  exact gw2
 subst hk0
 have kb:((0:Int) == 0) = true:=by decide
 by_cases hE:elB d = true
 rotate_left
 ·rw [if_neg (fun h => hE h.2)]
  have hE':elB d = false:=by simpa using hE
  rw [hE'] at his
  refine gw115 (Yp hd3 kb) ?_
  exact gw2
 rw [if_pos ⟨rfl,hE⟩]
 rw [hE] at his
 have hadd:=a_l06AddX e d 10006 hze (yN hE).1 (by decide) (by omega)
 simp only [eI] at hadd
 refine gw116 (Yp hd3 kb) ?_
 exact gw2
end Go.Proofs.YtedgfkpfhonlpaaGreat
namespace Go.Proofs.YtedgfkpfhonlpaaGreat
def lastBig (t:List Int):Nat→Nat
 | 0 => 0
 | p + 1 => if t.getD p 0 ≤ 1 then lastBig t p else p + 1
def lastEq (t:List Int) (l:Int):Nat→Nat
 | 0 => 0
 | q + 1 => if t.getD q 0 = l then q else lastEq t l q
def copyFrom (p q:Nat):Nat→List Int→List Int
 | 0,t => t
 | k + 1,t => (copyFrom p q k t).set (p + k) ((copyFrom p q k t).getD (p + k - (p - q)) 0)
def nextT (t:List Int):Option (List Int) :=
 match lastBig t t.length with
 | 0 => none
 | p + 1 => some (copyFrom p (lastEq t (t.getD p 0 - 1) p) (t.length - p) t)
def treesF:Nat→List Int→List (List Int)
 | 0,_ => []
 | f + 1,t => t :: match nextT t with
  | none => []
  | some s => treesF f s
def treesN (n:Nat):List (List Int):=treesF 120 ((List.range n).map fun (i:Nat) => (i:Int))
end Go.Proofs.YtedgfkpfhonlpaaGreat
namespace Go.Proofs.YtedgfkpfhonlpaaGreat
open Go.RowKit
end Go.Proofs.YtedgfkpfhonlpaaGreat
namespace Go.Proofs.YtedgfkpfhonlpaaGreat
open Go.RowKit
theorem Rd.two {α:Type} {R:Rep α} {w W:World} {u1 u2:Value} {x y:List α} {E:TypeId} (h1:Rd (RS R) w [u1] x) (h2:Rd (RS R) w [u2] y) (e:W.heap = (w.alloc (.cells #[u1,u2] E)).heap) :
  Rd (RS (RS R)) W [.slice (some ⟨w.heap.size,0,none⟩) 2 2] [x,y]:=by
 refine Rd.of_heap (w:=w.alloc (.cells #[u1,u2] E)) ?_ e
 have hb:Below w.heap.size w (w.alloc (.cells #[u1,u2] E)):=(Below.refl _ _).alloc (Nat.le_refl _) _
 refine ⟨some ⟨w.heap.size,0,none⟩,2,[u1,u2],rfl,Nat.le_refl _,by decide,by simp,⟨[u1],[u2],rfl,h1.below hb (Nat.le_refl _),⟨[u2],[],rfl,h2.below hb (Nat.le_refl _),rfl⟩⟩,.inr ⟨w.heap.size,0,rfl,by simp,fun j u hj => ?_⟩⟩
 rw [Nat.zero_add,World.cell?_alloc_at _ _ _ _ rfl]
 simpa using hj
end Go.Proofs.YtedgfkpfhonlpaaGreat
namespace Go.Proofs.YtedgfkpfhonlpaaGreat
open Go.RowKit
theorem getD_ltn {l:List Int} {i:Nat} (h:i < l.length):l.getD i 0 = l[i]:=by rw [List.getD_eq_getElem?_getD,List.getElem?_eq_getElem h];rfl
theorem mapI_get {l:List Int} {i:Nat} (h:i < l.length):(l.map eI)[i]? = some [.int (l.getD i 0)]:=by rw [List.getElem?_map,List.getElem?_eq_getElem h,getD_ltn h];rfl
theorem a_likeInts (xs ys:List Int) (hsz:xs.length ≤ 1000000000):AFn Tryz.prog 101 [eL xs,eL ys] (· = [.val (.bool (decide (xs = ys)))]):=by
 have hx:(xs.map eI).length = xs.length:=List.length_map _
 have hy:(ys.map eI).length = ys.length:=List.length_map _
 by_cases hl:xs.length = ys.length
 rotate_left
 ·have hne:xs ≠ ys:=fun e => hl (by rw [e])
  have b:(((xs.length:Nat):Int) != ((ys.length:Nat):Int)) = true:=bne_iff_ne.2 (by omega)
  rw [decide_eq_false hne]
  refine AFn.of_runs (qQ 26) Tryz.func101 rfl rfl rfl gz ?_
  have hres:Tryz.f101.results.toList = [.tmp 4]:=rfl
  have hrts:Tryz.f101.resultTypes.toList = [4]:=rfl
  simp only [qV,qU,eL,eI,eLL,eB,Nat.zero_add,Nat.reduceAdd]
  intro M
  refine qJ.of ?_
  refine gw117 (Y3 b hx hy) ?_
  exact gw2
 have b:(((ys.length:Nat):Int) != ((ys.length:Nat):Int)) = false:=by simp
 refine AFn.of_runs (qQ 26) Tryz.func101 rfl rfl rfl gz ?_
 have hres:Tryz.f101.results.toList = [.tmp 4]:=rfl
 have hrts:Tryz.f101.resultTypes.toList = [4]:=rfl
 simp only [qV,qU,eL,eI,eLL,eB,Nat.zero_add,Nat.reduceAdd]
 intro M
 refine qJ.of ?_
 refine gw117 (Y4 b hx hy hl) ?_
 refine qJ.loop (β:=Nat) (γ:=Unit) (fun i => ⟨[(0,.c (.val (.sl 1 (xs.map eI)))),(1,.c (.val (.sl 1 (ys.map eI)))),(5,.c (.val (.int i)))],[]⟩) (fun i => i ≤ xs.length∧xs.take i = ys.take i) (fun i => xs.length - i)
  (fun _ => ⟨[],[]⟩) (fun _ => xs = ys) 0 ⟨Nat.zero_le _,rfl⟩ ?_ ?_ ?_
 ·exact gw118
 ·rintro i ⟨hi,ht⟩
  have hw:=jW (n:=i) (by omega)
  by_cases h:i < xs.length
  ·have i1:((i:Int) < (ys.length:Int)) = True:=eq_true (by omega)
   have i2:((0:Int) ≤ (i:Int)) = True:=eq_true (by omega)
   have g1:=mapI_get h
   have g2:=mapI_get (l:=ys) (i:=i) (by omega)
   by_cases he:xs.getD i 0 = ys.getD i 0
   ·have e0:(xs.getD i 0 != ys.getD i 0) = false:=by rw [he];simp only [bne_self_eq_false]
    refine gw119 (Y9 i1 i2 g1 g2 hx hy hl hw e0) ?_
    refine qW.on (i + 1) ⟨⟨h,?_⟩,by omega⟩ ?_
    ·rw [getD_ltn h,getD_ltn (by omega)] at he
     rw [List.take_succ_eq_append_getElem h,List.take_succ_eq_append_getElem (by omega),ht,he]
    exact gw7 Y0
   ·have e0:(xs.getD i 0 != ys.getD i 0) = true:=bne_iff_ne.2 he
    have hne:xs ≠ ys:=fun e => he (by rw [e])
    rw [decide_eq_false hne]
    refine gw119 (Y9 i1 i2 g1 g2 hx hy hl hw e0) ?_
    refine qW.ret ?_
    refine gw117 Y0 ?_
    exact gw2
  ·have i1:((i:Int) < (ys.length:Int)) = False:=eq_false (by omega)
   refine gw117 (Y3 i1 hx hl) ?_
   refine qW.out () ?_ ?_
   ·rw [List.take_of_length_le (by omega),List.take_of_length_le (by omega)] at ht
    exact ht
   exact gw7 Y0
 ·intro _ he
  rw [decide_eq_true he]
  refine gw117 Y0 ?_
  exact gw2
end Go.Proofs.YtedgfkpfhonlpaaGreat
namespace Go.Proofs.YtedgfkpfhonlpaaGreat
open Go.RowKit
theorem a_same9 (f g:List (List Int)) (hf:f.length ≤ 1000000000) (hg:g.length ≤ 1000000000) (hsz:∀ t ∈ f,t.length ≤ 1000000000):AFn Tryz.prog 45 [eLL f,eLL g] (· = [.val (.bool (decide (f = g)))]):=by
 have hfm:(f.map eL).length = f.length:=List.length_map _
 have hgm:(g.map eL).length = g.length:=List.length_map _
 refine AFn.of_runs (qQ 27) Tryz.func45 rfl rfl rfl gz ?_
 have hres:Tryz.f45.results.toList = [.tmp 4]:=rfl
 have hrts:Tryz.f45.resultTypes.toList = [4]:=rfl
 simp only [qV,qU,eL,eI,eLL,eB,Nat.zero_add,Nat.reduceAdd]
 intro M
 refine qJ.of ?_
 by_cases hl:f.length = g.length
 ·have hb:((f.length:Int) != (g.length:Int)) = false:=by simp [hl]
  refine gw120 (Y3 hfm hgm hb) ?_
  refine qJ.loop (β:=Nat) (γ:=Unit) (fun i => ⟨[(0,.c (.val (.sl 1 (f.map eL)))),(1,.c (.val (.sl 1 (g.map eL)))),(5,.c (.val (.int i)))],[]⟩) (fun i => i ≤ f.length∧f.take i = g.take i) (fun i => f.length - i)
   (fun _ => ⟨[],[]⟩) (fun _ => f = g) 0 ⟨Nat.zero_le _,rfl⟩ ?_ ?_ ?_
  ·exact gw118
  ·rintro i ⟨hi,ht⟩
   have hw:=jW (n:=i) (by omega)
   by_cases h:i < f.length
   ·have h2:i < g.length:=by omega
    have i1:((i:Int) < (f.length:Int)) = True:=eq_true (by omega)
    have i1':((i:Int) < (g.length:Int)) = True:=eq_true (by omega)
    have i2:((0:Int) ≤ (i:Int)) = True:=eq_true (by omega)
    obtain ⟨s,hs⟩:∃ s,s = f[i]:=⟨_,rfl⟩
    obtain ⟨t,htt⟩:∃ t,t = g[i]:=⟨_,rfl⟩
    have hgs:(f.map eL)[i]? = some [.sl 1 (s.map eI)]:=by rw [qN h,hs];rfl
    have hgt:(g.map eL)[i]? = some [.sl 1 (t.map eI)]:=by rw [qN h2,htt];rfl
    have hsm:=a_likeInts s t (by rw [hs];exact hsz _ (List.getElem_mem _))
    simp only [eL] at hsm
    by_cases hst:s = t
    ·rw [decide_eq_true hst] at hsm
     refine gw121 (Y8 hfm hgm i1 i1' i2 hgs hgt hw) ?_
     refine qW.on (i + 1) ⟨⟨h,?_⟩,by omega⟩ ?_
     ·rw [List.take_succ_eq_append_getElem h,List.take_succ_eq_append_getElem h2,ht,← hs,← htt,hst]
     ·exact gw7 Y0
    ·rw [decide_eq_false hst] at hsm
     have hne:f ≠ g:=fun e => hst (by rw [hs,htt];subst e;rfl)
     rw [decide_eq_false hne]
     refine gw121 (Y8 hfm hgm i1 i1' i2 hgs hgt hw) ?_
     refine qW.ret ?_
     refine gw120 Y0 ?_
     exact gw2
   ·have i1:((i:Int) < (f.length:Int)) = False:=eq_false (by omega)
    obtain rfl:i = f.length:=by omega
    refine gw120 (Yp hfm i1) ?_
    refine qW.out () ?_ ?_
    ·rw [List.take_length,hl,List.take_length] at ht;exact ht
    ·exact gw7 Y0
  ·rintro _ hfg
   rw [decide_eq_true hfg]
   refine gw120 Y0 ?_
   exact gw2
 ·have hb:((f.length:Int) != (g.length:Int)) = true:=by simp;omega
  have hne:f ≠ g:=fun e => hl (by rw [e])
  rw [decide_eq_false hne]
  refine gw120 (Y3 hfm hgm hb) ?_
  exact gw2
def SzE (d:Elt):Prop:=d.length ≤ 1000000∧∀ q ∈ d,q.2.length ≤ 1000000∧∀ t ∈ q.2,t.length ≤ 1000000
theorem a_likeParts9 (d e:Elt) (hd:SzE d) (he:SzE e):AFn Tryz.prog 35 [[.sl 2 (d.map ePt)],[.sl 2 (e.map ePt)]] (· = [.val (.bool (decide (d = e)))]):=by
 have hdm:(d.map ePt).length = d.length:=List.length_map _
 have hem:(e.map ePt).length = e.length:=List.length_map _
 obtain ⟨hd1,hd2⟩:=hd
 obtain ⟨he1,he2⟩:=he
 refine AFn.of_runs (qQ 42) Tryz.func35 rfl rfl rfl gz ?_
 have hres:Tryz.f35.results.toList = [.tmp 4]:=rfl
 have hrts:Tryz.f35.resultTypes.toList = [4]:=rfl
 simp only [qV,qU,eL,eI,eLL,eB,Nat.zero_add,Nat.reduceAdd]
 intro M
 refine qJ.of ?_
 by_cases hl:d.length = e.length
 rotate_left
 ·have hb:((d.length:Int) != (e.length:Int)) = true:=by simp;omega
  have hne:d ≠ e:=fun h => hl (by rw [h])
  rw [decide_eq_false hne]
  refine gw122 (Y3 hdm hem hb) ?_
  exact gw2
 have hb:((d.length:Int) != (e.length:Int)) = false:=by simp [hl]
 refine gw122 (Y3 hdm hem hb) ?_
 refine qJ.loop (β:=Nat) (γ:=Unit) (fun i => ⟨[(0,.c (.val (.sl 2 (d.map ePt)))),(1,.c (.val (.sl 2 (e.map ePt)))),(5,.c (.val (.int i)))],[]⟩) (fun i => i ≤ d.length∧d.take i = e.take i) (fun i => d.length - i)
  (fun _ => ⟨[],[]⟩) (fun _ => d = e) 0 ⟨Nat.zero_le _,rfl⟩ ?_ ?_ ?_
 ·exact gw118
 ·rintro i ⟨hi,ht⟩
  have hw:=jW (n:=i) (by omega)
  by_cases h:i < d.length
  ·have h2:i < e.length:=by omega
   have i1:((i:Int) < (d.length:Int)) = True:=eq_true (by omega)
   have i1':((i:Int) < (e.length:Int)) = True:=eq_true (by omega)
   have i2:((0:Int) ≤ (i:Int)) = True:=eq_true (by omega)
   obtain ⟨⟨a,f⟩,hs⟩:∃ s,s = d[i]:=⟨_,rfl⟩
   obtain ⟨⟨b,g⟩,htt⟩:∃ t,t = e[i]:=⟨_,rfl⟩
   have hgs:(d.map ePt)[i]? = some [.int a,.sl 1 (f.map eL)]:=by rw [qN h,← hs];rfl
   have hgt:(e.map ePt)[i]? = some [.int b,.sl 1 (g.map eL)]:=by rw [qN h2,← htt];rfl
   obtain ⟨f1,f2⟩:=hd2 (a,f) (by rw [hs];exact List.getElem_mem _)
   obtain ⟨g1,_⟩:=he2 (b,g) (by rw [htt];exact List.getElem_mem _)
   have hsm:=a_same9 f g (by simp only at f1;omega) (by simp only at g1;omega) (fun t ht => by have:=f2 t ht;omega)
   simp only [eLL] at hsm
   have hret:(a,f) ≠ (b,g)→d ≠ e:=fun hn he => hn (by rw [hs,htt];subst he;rfl)
   by_cases hab:a = b
   ·subst hab
    have haa:(a != a) = false:=by simp
    by_cases hst:f = g
    ·rw [decide_eq_true hst] at hsm
     refine gw123 (Y9 hdm hem i1 i1' i2 hgs hgt haa hw) ?_
     refine qW.on (i + 1) ⟨⟨h,?_⟩,by omega⟩ ?_
     ·rw [List.take_succ_eq_append_getElem h,List.take_succ_eq_append_getElem h2,ht,← hs,← htt,hst]
     ·exact gw7 Y0
    ·rw [decide_eq_false hst] at hsm
     rw [decide_eq_false (hret fun h => hst (Prod.ext_iff.1 h).2)]
     refine gw123 (Y9 hdm hem i1 i1' i2 hgs hgt haa hw) ?_
     refine qW.ret ?_
     refine gw122 Y0 ?_
     exact gw2
   ·have haa:(a != b) = true:=bne_iff_ne.2 hab
    rw [decide_eq_false (hret fun h => hab (Prod.ext_iff.1 h).1)]
    refine gw123 (Y9 hdm hem i1 i1' i2 hgs hgt haa hw) ?_
    refine qW.ret ?_
    refine gw122 Y0 ?_
    exact gw2
  ·have i1:((i:Int) < (d.length:Int)) = False:=eq_false (by omega)
   obtain rfl:i = d.length:=by omega
   refine gw122 (Yp hdm i1) ?_
   refine qW.out () ?_ ?_
   ·rw [List.take_length,hl,List.take_length] at ht;exact ht
   ·exact gw7 Y0
 ·rintro _ hfg
  rw [decide_eq_true hfg]
  refine gw122 Y0 ?_
  exact gw2
end Go.Proofs.YtedgfkpfhonlpaaGreat
namespace Go.Proofs.YtedgfkpfhonlpaaGreat
open Go.RowKit
theorem a_ContainsFuncPt {α:Type} (e:α→List D) (d:α→D) (c0:α→Int) (f:α→List (List Int)) (p:α→Bool) (g:FuncId) (he:∀ x,e x = [.int (c0 x),d x]) (hun:∀ x,(d x).un = .sl 1 ((f x).map eL)) (hp:∀ x,AFn Tryz.prog g [[.int (c0 x),.sl 1 ((f x).map eL)]] (· = [.val (.bool (p x))])) (xs:List α) (hl:xs.length ≤ 1000000000) :
  AFn Tryz.prog 141 [[.sl 2 (xs.map e)],[.raw (.func (.func g) #[] #[])]] (· = [.val (.bool (xs.any p))]):=by
 have hidx:=jT0 e d c0 f p g he hun hp xs hl
 rcases hfi:fIdx p xs with _|i0
 ·rw [hfi] at hidx
  have hk:xs.any p = false:=List.any_eq_false.2 (fun x hx => by rw [qT0.1 hfi x hx];decide)
  rw [hk]
  refine AFn.of_runs (qQ 9) Tryz.func141 rfl rfl rfl gz ?_
  have hres:Tryz.f141.results.toList = [.tmp 4]:=rfl
  have hrts:Tryz.f141.resultTypes.toList = [4]:=rfl
  simp only [qV,qU,eL,eI,eLL,eB,Nat.zero_add,Nat.reduceAdd]
  intro M
  refine qJ.of ?_
  refine gw124 (show ((-1:Int) ≥ 0) = False from eq_false (by decide)) ?_
  exact gw2
 ·rw [hfi] at hidx
  obtain ⟨hi0,hpi,_⟩:=fIdx_some hfi
  have hk:xs.any p = true:=List.any_eq_true.2 ⟨_,List.getElem_mem hi0,hpi⟩
  have i1:((i0:Int) ≥ 0) = True:=eq_true (by omega)
  rw [hk]
  refine AFn.of_runs (qQ 9) Tryz.func141 rfl rfl rfl gz ?_
  have hres:Tryz.f141.results.toList = [.tmp 4]:=rfl
  have hrts:Tryz.f141.resultTypes.toList = [4]:=rfl
  simp only [qV,qU,eL,eI,eLL,eB,Nat.zero_add,Nat.reduceAdd]
  intro M
  refine qJ.of ?_
  refine gw124 i1 ?_
  exact gw2
theorem a_limited1 (n:Int) (f:List (List Int)):AFn Tryz.prog 142 [[.int n,.sl 1 (f.map eL)]] (· = [.val (.bool (decide (jV f > 8)))]):=by
 have hn:=a_nodesIn f
 simp only [eLL] at hn
 refine AFn.of_runs (qQ 7) Tryz.func142 rfl rfl rfl gz ?_
 have hres:Tryz.f142.results.toList = [.tmp 2]:=rfl
 have hrts:Tryz.f142.resultTypes.toList = [4]:=rfl
 simp only [qV,qU,eL,eI,eLL,eB,Nat.zero_add,Nat.reduceAdd]
 intro M
 refine qJ.of ?_
 by_cases h:jV f > 8
 ·have i1:(jV f > 8) = True:=eq_true h
  rw [decide_eq_true h]
  refine gw125 i1 ?_
  exact gw2
 ·have i1:(jV f > 8) = False:=eq_false h
  rw [decide_eq_false h]
  refine gw125 i1 ?_
  exact gw2
theorem a_limited (L:Elt) (hl:L.length ≤ 100000) (hz:∀ z ∈ L,(0 ≤ z.1∧z.1 < 10007)∧SmF z.2):AFn Tryz.prog 77 [[.sl 2 (L.map ePt)]] (· = [.own 2 ((limS (sumS cmpF L)).1.map ePt) true,.val (.int (limS (sumS cmpF L)).2)]):=by
 have h1:=a_summed L hl (fun z hz' => ⟨(hz z hz').1,by have:=(hz z hz').2.1;omega,by have:=(hz z hz').2.2;omega⟩)
 have hok:OkE (sumS cmpF L):=kE OkE.nil hz
 have hsl:=kC L []
 simp only [List.length_nil] at hsl
 obtain ⟨S,hS⟩:∃ S,S = sumS cmpF L:=⟨_,rfl⟩
 have hsl:S.length ≤ 1000000000:=by rw [hS];show (addS cmpF [] L).length ≤ _;omega
 rw [← hS] at h1 hok ⊢
 have h2:=a_ContainsFuncPt ePt (fun z => .sl 1 (z.2.map eL)) (·.1) (·.2) (fun z => decide (jV z.2 > 8)) 142 (fun _ => rfl) (fun _ => rfl) (fun z => a_limited1 z.1 z.2) S hsl
 have hany:S.any (fun z => decide (jV z.2 > 8)) = !decide (∀ p ∈ S,qX p.2 ≤ 8):=by
  by_cases h:∀ p ∈ S,qX p.2 ≤ 8
  ·rw [decide_eq_true h]
   refine List.any_eq_false.2 (fun x hx => ?_)
   have:=h x hx
   rw [xE x.2 (by omega)]
   simp;omega
  ·rw [decide_eq_false h]
   have h':∃ p ∈ S,8 < qX p.2:=by
    refine Classical.byContradiction fun hn => h fun p hp => ?_
    refine Classical.byContradiction fun hq => hn ⟨p,hp,by omega⟩
   obtain ⟨p,hp,hq⟩:=h'
   refine List.any_eq_true.2 ⟨p,hp,?_⟩
   rw [xE p.2 (by have:=(hok p hp).2.2;omega)]
   exact decide_eq_true (by omega)
 rw [hany] at h2
 unfold limS
 refine AFn.of_runs (qQ 15) Tryz.func77 rfl rfl rfl gz ?_
 have hres:Tryz.f77.results.toList = [.tmp 2,.tmp 3]:=rfl
 have hrts:Tryz.f77.resultTypes.toList = [50,2]:=rfl
 simp only [qV,qU,eL,eI,eLL,eB,Nat.zero_add,Nat.reduceAdd]
 intro M
 refine qJ.of ?_
 by_cases hn:S.length ≤ 300
 ·have i1:((S.length:Int) > 300) = False:=eq_false (by omega)
  by_cases h8:∀ p ∈ S,qX p.2 ≤ 8
  ·rw [if_pos ⟨hn,h8⟩]
   rw [decide_eq_true h8] at h2
   refine gw126 i1 ?_
   exact gw2
  ·rw [if_neg (fun h => h8 h.2)]
   rw [decide_eq_false h8] at h2
   refine gw127 i1 ?_
   exact gw2
 ·have i1:((S.length:Int) > 300) = True:=eq_true (by omega)
  rw [if_neg (fun h => hn h.1)]
  refine gw128 i1 ?_
  exact gw2
end Go.Proofs.YtedgfkpfhonlpaaGreat
namespace Go.Proofs.YtedgfkpfhonlpaaGreat
open Go.RowKit
end Go.Proofs.YtedgfkpfhonlpaaGreat

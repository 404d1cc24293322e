/- Lemmas (15). -/
import Derived.Test.YtgngidchldajhaaGreatZC6
import Derived.Test.YtgngidchldajhaaGreatZC7
import Derived.Test.YtgngidchldajhaaGreatZC11
import Derived.Test.YtgngidchldajhaaGreatZC12
import Derived.Test.YtgngidchldajhaaGreatZC13
import Derived.Test.YtgngidchldajhaaGreatZC14
set_option linter.unusedSimpArgs false
set_option linter.unusedVariables false
namespace Go.Proofs
open Go.Shelf
def Tryz.sortTe_ren:Go.Shelf.Ren:=⟨fun|6 => 105|15 => 175|14 => 174|28 => 235|29 => 236|20 => 227|21 => 228|22 => 229|23 => 230|24 => 231|25 => 232|26 => 233|27 => 234|46 => 266|47 => 267|48 => 268|49 => 269|50 => 270|57 => 293|n => n,fun|22 => 61|24 => 82|25 => 126|3 => 3|39 => 157|0 => 0|53 => 234|55 => 48|4 => 4|46 => 228|45 => 227|50 => 206|5 => 5|9 => 9|66 => 253|70 => 257|76 => 272|77 => 273|n => n,fun|n => n⟩
theorem Tryz.sortTe:Go.Proofs.SlLaysF0.n6 Tryz.prog Tryz.sortTe_ren:={
 mixed:=by kernel_rfl
 f6:=⟨Tryz.f105.name,by decide,Tryz.func105.trans (congrArg some (by kernel_rfl))⟩
 f14:=⟨Tryz.f174.name,by decide,Tryz.func174.trans (congrArg some (by kernel_rfl))⟩
 f15:=Tryz.func175.trans (congrArg some (by kernel_rfl))
 f20:=⟨Tryz.f227.name,by decide,Tryz.func227.trans (congrArg some (by kernel_rfl))⟩
 f21:=⟨Tryz.f228.name,by decide,Tryz.func228.trans (congrArg some (by kernel_rfl))⟩
 f22:=⟨Tryz.f229.name,by decide,Tryz.func229.trans (congrArg some (by kernel_rfl))⟩
 f23:=⟨Tryz.f230.name,by decide,Tryz.func230.trans (congrArg some (by kernel_rfl))⟩
 f24:=⟨Tryz.f231.name,by decide,Tryz.func231.trans (congrArg some (by kernel_rfl))⟩
 f25:=⟨Tryz.f232.name,by decide,Tryz.func232.trans (congrArg some (by kernel_rfl))⟩
 f26:=⟨Tryz.f233.name,by decide,Tryz.func233.trans (congrArg some (by kernel_rfl))⟩
 f27:=⟨Tryz.f234.name,by decide,Tryz.func234.trans (congrArg some (by kernel_rfl))⟩
 f28:=Tryz.func235.trans (congrArg some (by kernel_rfl))
 f29:=Tryz.func236.trans (congrArg some (by kernel_rfl))
 f46:=⟨Tryz.f266.name,by decide,Tryz.func266.trans (congrArg some (by kernel_rfl))⟩
 f47:=Tryz.func267.trans (congrArg some (by kernel_rfl))
 f48:=Tryz.func268.trans (congrArg some (by kernel_rfl))
 f49:=⟨Tryz.f269.name,by decide,Tryz.func269.trans (congrArg some (by kernel_rfl))⟩
 f50:=⟨Tryz.f270.name,by decide,Tryz.func270.trans (congrArg some (by kernel_rfl))⟩
 f57:=⟨Tryz.f293.name,by decide,Tryz.func293.trans (congrArg some (by kernel_rfl))⟩
 t0:=Tryz.underlying0
 a0:=Tryz.isAgg0
 z0:=Tryz.sizeOf0
 v0:=Tryz.zeroValue0
 t3:=Tryz.underlying3
 a3:=Tryz.isAgg3
 z3:=Tryz.sizeOf3
 v3:=Tryz.zeroValue3
 t4:=Tryz.underlying4
 a4:=Tryz.isAgg4
 z4:=Tryz.sizeOf4
 v4:=Tryz.zeroValue4
 t5:=Tryz.underlying5
 a5:=Tryz.isAgg5
 z5:=Tryz.sizeOf5
 v5:=Tryz.zeroValue5
 t9:=Tryz.underlying9
 a9:=Tryz.isAgg9
 z9:=Tryz.sizeOf9
 v9:=Tryz.zeroValue9
 t22:=Tryz.underlying61
 a22:=Tryz.isAgg61
 z22:=Tryz.sizeOf61
 v22:=Tryz.zeroValue61
 t25:=Tryz.underlying126
 a25:=Tryz.isAgg126
 z25:=Tryz.sizeOf126
 v25:=Tryz.zeroValue126
 t39:=Tryz.underlying157
 a39:=Tryz.isAgg157
 z39:=Tryz.sizeOf157
 v39:=Tryz.zeroValue157
 t45:=Tryz.underlying227
 a45:=Tryz.isAgg227
 z45:=Tryz.sizeOf227
 v45:=Tryz.zeroValue227
 t46:=Tryz.underlying228
 a46:=Tryz.isAgg228
 z46:=Tryz.sizeOf228
 v46:=Tryz.zeroValue228
 t50:=Tryz.underlying206
 a50:=Tryz.isAgg206
 z50:=Tryz.sizeOf206
 v50:=Tryz.zeroValue206
 t53:=Tryz.underlying234
 a53:=Tryz.isAgg234
 z53:=Tryz.sizeOf234
 v53:=Tryz.zeroValue234
 t55:=Tryz.underlying48
 a55:=Tryz.isAgg48
 z55:=Tryz.sizeOf48
 v55:=Tryz.zeroValue48
 t66:=Tryz.underlying253
 a66:=Tryz.isAgg253
 z66:=Tryz.sizeOf253
 v66:=Tryz.zeroValue253
 t70:=Tryz.underlying257
 a70:=Tryz.isAgg257
 z70:=Tryz.sizeOf257
 v70:=Tryz.zeroValue257
 t76:=Tryz.underlying272
 a76:=Tryz.isAgg272
 z76:=Tryz.sizeOf272
 v76:=Tryz.zeroValue272
 t77:=Tryz.underlying273
 a77:=Tryz.isAgg273
 z77:=Tryz.sizeOf273
 v77:=Tryz.zeroValue273 }
end Go.Proofs
namespace Go.Proofs.YtgngidchldajhaaGreat
open Go.RowKit
abbrev TeT:=(Int × Spl) × (List Nat × List Nat)
def eTeT (q:TeT):List D:=[.int q.1.1,.tag q.2.1 (.sl 1 (q.1.2.1.map eL)),.tag q.2.2 (.sl 1 (q.1.2.2.map eL))]
def blT (q:TeT):List Nat:=q.2.1 ++ q.2.2
theorem tag_mkT:∀ (qs:List TeT),TagL ((qs.map (·.1)).map eTe) (qs.map eTeT) ((qs.map blT).flatten)
 | [] => ⟨rfl,rfl⟩
 | q :: qs => ⟨_,_,blT q,_,rfl,rfl,⟨_,_,[],q.2.1 ++ q.2.2,rfl,rfl,.inr ⟨rfl,rfl,rfl⟩,⟨_,_,q.2.1,q.2.2,rfl,rfl,.inl rfl,⟨_,[],q.2.2,[],rfl,(List.append_nil _).symm,.inl rfl,rfl,rfl⟩⟩⟩,tag_mkT qs⟩
theorem marks_eTeT:∀ (qs:List TeT),rowMarks (qs.map eTeT) = (qs.map blT).flatten
 | [] => rfl
 | q :: qs => by
  have ih:=marks_eTeT qs
  unfold rowMarks at ih ⊢
  rw [List.map_cons,List.flatMap_cons,ih,List.map_cons,List.flatten_cons]
  congr 1
  simp [eTeT,D.marks,blT]
def stepW (out:List TeT) (q:TeT):List TeT:=match out.getLast? with
 | some p => if cmpTe p.1.2 q.1.2 = 0 then out.dropLast ++ [((mP (p.1.1 + q.1.1),p.1.2),p.2)] else out ++ [q]
 | none => [q]
def runW (zs:List TeT):List TeT:=zs.foldl stepW []
theorem stepW_nil (q:TeT):stepW [] q = [q]:=rfl
theorem stepW_eq (out:List TeT) (p q:TeT) (h:cmpTe p.1.2 q.1.2 = 0):stepW (out ++ [p]) q = out ++ [((mP (p.1.1 + q.1.1),p.1.2),p.2)]:=by simp [stepW,h]
theorem stepW_ne (out:List TeT) (p q:TeT) (h:¬ cmpTe p.1.2 q.1.2 = 0):stepW (out ++ [p]) q = out ++ [p] ++ [q]:=by simp [stepW,h]
theorem runW_snoc (zs:List TeT) (q:TeT):runW (zs ++ [q]) = stepW (runW zs) q:=by unfold runW;rw [List.foldl_append];rfl
theorem runW_spec:∀ (n:Nat) (zs:List TeT),zs.length = n→(∀ q ∈ zs,(0 ≤ q.1.1∧q.1.1 < 10007)∧SmS q.1.2) →
  (runW zs).map (·.1) = mergeTo cmpTe [] (zs.map (·.1))∧((runW zs).map blT).Sublist (zs.map blT)∧(runW zs).length ≤ zs.length∧∀ q ∈ runW zs,(0 ≤ q.1.1∧q.1.1 < 10007)∧SmS q.1.2
 | 0,zs,hn,_ => by
  obtain rfl:=List.eq_nil_of_length_eq_zero hn
  exact ⟨rfl,List.Sublist.refl _,Nat.le_refl _,fun q hq => nomatch hq⟩
 | n + 1,zs,hn,h1 => by
  obtain ⟨zs,q,rfl⟩:=(nil_or_snoc zs).resolve_left (by rintro rfl;cases hn)
  have hn':zs.length = n:=by simpa using hn
  obtain ⟨i1,i2,i3,i4⟩:=runW_spec n zs hn' (fun q hq => h1 q (by simp [hq]))
  obtain ⟨hq1,hq2⟩:=h1 q (by simp)
  have hms:mergeTo cmpTe [] ((zs ++ [q]).map (·.1)) = stepM cmpTe (mergeTo cmpTe [] (zs.map (·.1))) q.1.1 q.1.2:=by
   rw [List.map_append]
   exact mergeTo_snoc cmpTe q.1.1 q.1.2 _ _
  rw [runW_snoc,hms,← i1]
  by_cases h0:runW zs = []
  ·rw [h0]
   refine ⟨?_,?_,by simp [stepW],fun z hz => ?_⟩
   ·show [q.1] = stepM cmpTe [] q.1.1 q.1.2
    rw [stepM_nil,mP_small hq1.1 hq1.2]
   ·rw [List.map_append];exact List.sublist_append_right _ _
   ·have hz:z = q:=by simpa [stepW] using hz
    subst hz
    exact ⟨hq1,hq2⟩
  ·obtain ⟨out,p,e⟩:=(nil_or_snoc (runW zs)).resolve_left h0
   rw [e] at i2 i3 i4 ⊢
   have hp:=i4 p (by simp)
   by_cases hc:cmpTe p.1.2 q.1.2 = 0
   ·rw [stepW_eq _ _ _ hc,List.map_append,List.map_append,List.map_cons,List.map_nil,List.map_cons,List.map_nil]
    have e3:=stepM_eq cmpTe (out.map (·.1)) p.1.1 p.1.2 q.1.1 q.1.2 hc
    refine ⟨e3.symm,?_,by simp at i3 ⊢;omega,fun z hz => ?_⟩
    ·have e2:(out ++ [p]).map blT = out.map blT ++ [blT ((mP (p.1.1 + q.1.1),p.1.2),p.2)]:=by rw [List.map_append];rfl
     rw [List.map_append,List.map_append,List.map_cons,List.map_nil,← e2]
     exact i2.trans (List.sublist_append_left _ _)
    ·rcases List.mem_append.1 hz with hz|hz
     ·exact i4 z (by simp [hz])
     ·obtain rfl:=List.mem_singleton.1 hz
      exact ⟨mP_range _,hp.2⟩
   ·rw [stepW_ne _ _ _ hc]
    have e3:=stepM_ne cmpTe (out.map (·.1)) p.1.1 p.1.2 q.1.1 q.1.2 hc
    rw [mP_small hq1.1 hq1.2] at e3
    refine ⟨?_,?_,by simp at i3 ⊢;omega,fun z hz => ?_⟩
    ·simp only [List.map_append,List.map_cons,List.map_nil]
     exact e3.symm
    ·have e5:(out ++ [p] ++ [q]).map blT = (out ++ [p]).map blT ++ [blT q]:=by rw [List.map_append];rfl
     have e6:(zs ++ [q]).map blT = zs.map blT ++ [blT q]:=by rw [List.map_append];rfl
     rw [e5,e6]
     exact List.Sublist.append i2 (List.Sublist.refl _)
    ·rcases List.mem_append.1 hz with hz|hz
     ·exact i4 z hz
     ·obtain rfl:=List.mem_singleton.1 hz
      exact ⟨hq1,hq2⟩
set_option maxRecDepth 100000 in
set_option maxHeartbeats 1000000 in
theorem c_copro1 (W:World) (n m:Int) (u1 u2 v1 v2:Value) (f g h k:List (List Int)) (h1:Rd (RS (RS RI)) W [u1] f) (h2:Rd (RS (RS RI)) W [u2] g) (h3:Rd (RS (RS RI)) W [v1] h) (h4:Rd (RS (RS RI)) W [v2] k) (s1:sumLen f ≤ 1000000) (s2:sumLen h ≤ 1000000) (s3:sumLen g ≤ 1000000) (s4:sumLen k ≤ 1000000) :
  Calls Tryz.prog 104 #[.agg #[.int .i64 n,u1,u2],.agg #[.int .i64 m,v1,v2]] W fun e w' => e = .returned (.int .i64 (cmpTe (f,g) (h,k)))∧∃ q os',w' = Sort.grow (W.drewN q) os':=by
 obtain ⟨o1,c1,rfl,_,_⟩:=h1.val
 obtain ⟨o2,c2,rfl,_,_⟩:=h2.val
 obtain ⟨o3,c3,rfl,_,_⟩:=h3.val
 obtain ⟨o4,c4,rfl,_,_⟩:=h4.val
 have b1:Below W.heap.size W (W.alloc (.cells #[.int .i64 n,.slice o1 f.length c1,.slice o2 g.length c2] 82)):=(Below.refl _ _).alloc (Nat.le_refl _) _
 have b2:Below W.heap.size W ((W.alloc (.cells #[.int .i64 n,.slice o1 f.length c1,.slice o2 g.length c2] 82)).alloc (.cells #[.int .i64 m,.slice o3 h.length c3,.slice o4 k.length c4] 82)):=b1.alloc (by simp) _
 have hc:=c_compareForests _ _ f h _ (h1.below b2 (Nat.le_refl _)) (h3.below b2 (Nat.le_refl _)) (by omega) (by omega)
 have hd:=c_compareForests _ _ g k _ (h2.below b2 (Nat.le_refl _)) (h4.below b2 (Nat.le_refl _)) (by omega) (by omega)
 have HC:=Lib.hid hc
 have HD:=Lib.hid hd
 have hcs:cmpTe (f,g) (h,k) = if cmpF f h = 0 then cmpF g k else cmpF f h:=rfl
 by_cases hz:cmpF f h = 0
 ·have hb:(cmpF f h != 0) = false:=by simp [hz]
  rw [if_pos hz] at hcs
  have HS:=Lib.hid hcs
  clear hc hd b1 b2 h1 h2 h3 h4 hcs
  go_enter Tryz.func104,Tryz.ntmps104
  go_wp2_with (first|(go_at_call 86;refine HC.out.mono ?_;rintro e w' ⟨rfl,rfl⟩;clear HC)|(go_at_call 86;refine HD.out.mono ?_;rintro e w' ⟨rfl,rfl⟩;clear HD))
  go_ret
  exact ⟨by rw [HS.out] <;> rfl,0,_,by rw [Sort.alloc_eq_grow,Sort.alloc_eq_grow,Sort.grow_grow];rfl⟩
 ·have hb:(cmpF f h != 0) = true:=bne_iff_ne.2 hz
  rw [if_neg hz] at hcs
  have HS:=Lib.hid hcs
  clear hc hd b1 b2 h1 h2 h3 h4 hcs
  go_enter Tryz.func104,Tryz.ntmps104
  go_wp2_with (first|(go_at_call 86;refine HC.out.mono ?_;rintro e w' ⟨rfl,rfl⟩;clear HC)|(go_at_call 86;refine HD.out.mono ?_;rintro e w' ⟨rfl,rfl⟩;clear HD))
  go_ret
  exact ⟨by rw [HS.out] <;> rfl,0,_,by rw [Sort.alloc_eq_grow,Sort.alloc_eq_grow,Sort.grow_grow];rfl⟩
noncomputable def TCp1:Tab Tryz.prog :=
 Tab.none.add 86 (tab2 codLL codLL fun f g => if SmF f∧SmF g then some [.val (.int (cmpF f g))] else none) (tab2_ok fun f g rs h => by split at h;cases h;rename_i hs;exact a_compareForests f g (by have:=hs.1.2;omega) (by have:=hs.2.2;omega);cases h)
theorem a_copro1 (z y:Int × Spl) (hz:SmS z.2) (hy:SmS y.2):AFn Tryz.prog 104 [eTe z,eTe y] (· = [.val (.int (cmpTe z.2 y.2))]):=by
 obtain ⟨n,⟨f,g⟩⟩:=z
 obtain ⟨n',⟨f',g'⟩⟩:=y
 have e1:=eq_true (And.intro hz.1 hy.1)
 have e2:=eq_true (And.intro hz.2 hy.2)
 simp only at e1 e2
 have hcs:cmpTe (f,g) (f',g') = if cmpF f f' = 0 then cmpF g g' else cmpF f f':=rfl
 simp only
 rw [hcs]
 refine AFn.of_runs (cfg_ok 19) Tryz.func104 rfl rfl rfl (by simp only [List.length_cons,List.length_nil];decide) ?_
 have hres:Tryz.f104.results.toList = [.tmp 4]:=rfl
 have hrts:Tryz.f104.resultTypes.toList = [3]:=rfl
 simp only [argRegs,argAV1,Nat.zero_add,eTe]
 intro M
 refine RunK.of ?_
 by_cases h0:cmpF f f' = 0
 ·have hb:(cmpF f f' != 0) = false:=by simp [h0]
  rw [if_pos h0]
  repeat' (first|with_reducible (first|refine Q1 ?_|refine Q2 ?_|refine Q3 ?_|refine Q4 ?_|refine Q5 ?_|refine Q6 ?_|refine Q7 ?_|refine Q8 ?_|refine Q9 ?_|refine Qa ?_|refine Qb ?_|refine Qc ?_|refine Qd ?_|refine Qe ?_|refine Qf ?_)|((with_reducible refine Qo ?_ ?_);focus rfl)|((with_reducible first|refine QT 6 (l:=?_) ?_ ?_|refine QF 6 (l:=?_) ?_ ?_);rotate_left 1;focus (simp only [Zu,Nat.reduceSub,Nat.reduceBEq];with_reducible rfl))|((with_reducible first|refine QS (cfg_ok 19) TCp1 (s':=?_) ?_ ?_|refine QC (b:=?_) ?_ ?_);rotate_left 1;focus ((with_reducible refine QW ?_);simp only [Zg,seval,Nat.reduceEqDiff,TCp1,TCp1,e1,e2,hb];with_reducible rfl)))
  (refine Ends.mk (by simp) (rs:=?_) (ks:=?_) hres hrts ?_ ?_ ?_;rotate_left 2;(focus (simp only [Ze,Zg,seval,Nat.reduceEqDiff];with_reducible rfl));(focus simp);focus (first|with_reducible rfl|(simp only [Zv];done)))
 ·have hb:(cmpF f f' != 0) = true:=bne_iff_ne.2 h0
  rw [if_neg h0]
  repeat' (first|with_reducible (first|refine Q1 ?_|refine Q2 ?_|refine Q3 ?_|refine Q4 ?_|refine Q5 ?_|refine Q6 ?_|refine Q7 ?_|refine Q8 ?_|refine Q9 ?_|refine Qa ?_|refine Qb ?_|refine Qc ?_|refine Qd ?_|refine Qe ?_|refine Qf ?_)|((with_reducible refine Qo ?_ ?_);focus rfl)|((with_reducible first|refine QT 6 (l:=?_) ?_ ?_|refine QF 6 (l:=?_) ?_ ?_);rotate_left 1;focus (simp only [Zu,Nat.reduceSub,Nat.reduceBEq];with_reducible rfl))|((with_reducible first|refine QS (cfg_ok 19) TCp1 (s':=?_) ?_ ?_|refine QC (b:=?_) ?_ ?_);rotate_left 1;focus ((with_reducible refine QW ?_);simp only [Zg,seval,Nat.reduceEqDiff,TCp1,TCp1,e1,hb];with_reducible rfl)))
  (refine Ends.mk (by simp) (rs:=?_) (ks:=?_) hres hrts ?_ ?_ ?_;rotate_left 2;(focus (simp only [Ze,Zg,seval,Nat.reduceEqDiff];with_reducible rfl));(focus simp);focus (first|with_reducible rfl|(simp only [Zv];done)))
theorem a_copro2 (n:Int) (f g:List (List Int)):AFn Tryz.prog 107 [[.int n,.sl 1 (f.map eL),.sl 1 (g.map eL)]] (· = [.val (.bool (decide (n = 0)))]):=by
 refine AFn.of_runs (cfg_ok 6) Tryz.func107 rfl rfl rfl (by simp only [List.length_cons,List.length_nil];decide) ?_
 have hres:Tryz.f107.results.toList = [.tmp 2]:=rfl
 have hrts:Tryz.f107.resultTypes.toList = [4]:=rfl
 simp only [argRegs,argAV1]
 intro M
 refine RunK.of ?_
 by_cases h:n = 0
 ·subst h
  rw [decide_eq_true rfl]
  repeat' (first|with_reducible (first|refine Q1 ?_|refine Q2 ?_|refine Q3 ?_|refine Q4 ?_|refine Q5 ?_|refine Q6 ?_|refine Q7 ?_|refine Q8 ?_|refine Q9 ?_|refine Qa ?_|refine Qb ?_|refine Qc ?_|refine Qd ?_|refine Qe ?_|refine Qf ?_)|((with_reducible refine Qo ?_ ?_);focus rfl)|((with_reducible first|refine QT 3 (l:=?_) ?_ ?_|refine QF 3 (l:=?_) ?_ ?_);rotate_left 1;focus (simp only [Zu,Nat.reduceSub,Nat.reduceBEq];with_reducible rfl))|((with_reducible first|refine QS (cfg_ok 6) Tab.none (s':=?_) ?_ ?_|refine QC (b:=?_) ?_ ?_);rotate_left 1;focus ((with_reducible refine QW ?_);simp only [Zg,seval,Nat.reduceEqDiff];with_reducible rfl)))
  (refine Ends.mk (by simp) (rs:=?_) (ks:=?_) hres hrts ?_ ?_ ?_;rotate_left 2;(focus (simp only [Ze,Zg,seval,Nat.reduceEqDiff];with_reducible rfl));(focus simp);focus (first|with_reducible rfl|(simp only [Zv];done)))
 ·have hb:(n == 0) = false:=beq_eq_false_iff_ne.2 h
  rw [decide_eq_false h]
  repeat' (first|with_reducible (first|refine Q1 ?_|refine Q2 ?_|refine Q3 ?_|refine Q4 ?_|refine Q5 ?_|refine Q6 ?_|refine Q7 ?_|refine Q8 ?_|refine Q9 ?_|refine Qa ?_|refine Qb ?_|refine Qc ?_|refine Qd ?_|refine Qe ?_|refine Qf ?_)|((with_reducible refine Qo ?_ ?_);focus rfl)|((with_reducible first|refine QT 3 (l:=?_) ?_ ?_|refine QF 3 (l:=?_) ?_ ?_);rotate_left 1;focus (simp only [Zu,Nat.reduceSub,Nat.reduceBEq];with_reducible rfl))|((with_reducible first|refine QS (cfg_ok 6) Tab.none (s':=?_) ?_ ?_|refine QC (b:=?_) ?_ ?_);rotate_left 1;focus ((with_reducible refine QW ?_);simp only [Zg,seval,Nat.reduceEqDiff,hb];with_reducible rfl)))
  (refine Ends.mk (by simp) (rs:=?_) (ks:=?_) hres hrts ?_ ?_ ?_;rotate_left 2;(focus (simp only [Ze,Zg,seval,Nat.reduceEqDiff];with_reducible rfl));(focus simp);focus (first|with_reducible rfl|(simp only [Zv];done)))
theorem aggTe (w:World):(isAgg 82).run Tryz.prog w = .ok true w:=by
 simp [isAgg,run_underlying Tryz.underlying82]
theorem tTensor:ST Tryz.prog 61 82 (.agg #[.int .i64 0,.slice none 0 0,.slice none 0 0]) 3 56:=ST.mk' (by kernel_rfl) (by kernel_rfl) rfl (by decide)
theorem sizeTe (w:World):(Go.sizeOf 82).run Tryz.prog w = .ok 3 w:=by
 obtain ⟨_,⟨i,hi,_,hs,_⟩,_,_⟩:=tTensor
 simp [Go.sizeOf,typeInfo,hi,hs]
theorem rd_eTeT {A:Nat→Prop} {W:World} {us:List Value} {x:TeT} (h:rdCs A W us (eTeT x)):∃ u1 u2,us = [.int .i64 x.1.1,u1,u2]∧Rd (RS (RS RI)) W [u1] x.1.2.1∧Rd (RS (RS RI)) W [u2] x.1.2.2:=by
 have hl:=h.len
 match us,hl with
 | [u1,u2,u3],_ =>
  obtain ⟨v1,e1,h1⟩:=h.get 0 (by show 0 < 3;decide)
  obtain ⟨v2,e2,h2⟩:=h.get 1 (by show 1 < 3;decide)
  obtain ⟨v3,e3,h3⟩:=h.get 2 (by show 2 < 3;decide)
  obtain rfl:u1 = v1:=by simpa using e1
  obtain rfl:u2 = v2:=by simpa using e2
  obtain rfl:u3 = v3:=by simpa using e3
  have h1:rdV A W u1 (.int x.1.1):=h1
  have h2:rdV A W u2 (.tag x.2.1 (.sl 1 (x.1.2.1.map eL))):=h2
  have h3:rdV A W u3 (.tag x.2.2 (.sl 1 (x.1.2.2.map eL))):=h3
  have r1:=rdLL (xs:=x.1.2.1) h2.un
  have r2:=rdLL (xs:=x.1.2.2) h3.un
  refine ⟨u2,u3,?_,Rd.of r1,Rd.of r2⟩
  rw [(rdV_int.1 h1).1]
theorem a_sortTe (zs:List TeT) (hok:∀ z ∈ zs,SmS z.1.2) (hn:zs.length ≤ 1000000000) :
  AEf Tryz.prog 105 false [] 3 (zs.map eTeT) [[.raw (.func (.func 104) #[] #[])]] (fun rs oc => rs = []∧∃ zs':List TeT,oc = some (zs'.map eTeT)∧zs'.Perm zs∧zs'.Pairwise (fun a b => cmpTe a.1.2 b.1.2 ≤ 0)):=by
 refine a_SortG Tryz.sortTe (k:=3) eTeT (by decide) (fun _ => rfl) aggTe sizeTe cmpTe_cmp (·.1.2) (fun z => SmS z.1.2) ((0,([],[])),([],[])) [.int .i64 0,.slice none 0 0,.slice none 0 0] (fun A w => ?_) (by decide) 104 (enters_of Tryz.func104 rfl rfl)
  (fun W A x y us vs hA hx hy hu hv => ?_) (enters_of Tryz.func105 rfl rfl) zs hok hn
 ·have hnil:rdV A w (.slice none 0 0) (.tag [] (.sl 1 [])):=rdV_tag.2 ⟨by simp,ownV_sl.2 ⟨none,[],[],Row.nil _ 1,ownR.nil (by decide),rfl⟩⟩
  exact rdCs.cons (rdV_int.2 ⟨rfl,by show In64 0;unfold In64;omega⟩) (rdCs.cons hnil (rdCs.cons hnil rdCs.nil))
 ·obtain ⟨u1,u2,rfl,r1,r2⟩:=rd_eTeT hu
  obtain ⟨v1,v2,rfl,r3,r4⟩:=rd_eTeT hv
  exact c_copro1 W _ _ _ _ _ _ _ _ _ _ r1 r2 r3 r4 (Nat.le_trans hx.1.2 (by decide)) (Nat.le_trans hy.1.2 (by decide)) (Nat.le_trans hx.2.2 (by decide)) (Nat.le_trans hy.2.2 (by decide))
structure CpI (M:Nat→Prop) (L:List (Int × Spl)) (qs:List TeT):Prop where
 eq:qs.map (·.1) = L
 nd:((qs.map blT).flatten).Nodup
 mi:∀ b ∈ (qs.map blT).flatten,M b
noncomputable def TNmC:Tab Tryz.prog:=Tab.none.add 103 (tab1 codI fun n => some [.val (.int (mP n))]) (tab1_ok fun n rs h => by cases h;exact a_num n)
set_option maxRecDepth 20000 in
set_option maxHeartbeats 16000000 in
theorem a_impl_CoproductOf (e:Elt) (hz:szP e):AFn Tryz.prog 35 [[.sl 2 (e.map ePt)]] (· = [.own 3 ((copOf e).1.map eTe) true,.val (.int (copOf e).2)]):=by
 have h1:=a_impl_IsElement e hz
 by_cases hE:elB e = true
 rotate_left
 ·have hE':elB e = false:=by simpa using hE
  have hco:copOf e = ([],1):=by unfold copOf;rw [if_neg hE]
  rw [hE'] at h1
  rw [hco]
  refine AFn.of_runs (cfg_ok 100) Tryz.func35 rfl rfl rfl (by simp only [List.length_cons,List.length_nil];decide) ?_
  have hres:Tryz.f35.results.toList = [.tmp 2,.tmp 3]:=rfl
  have hrts:Tryz.f35.resultTypes.toList = [61,2]:=rfl
  simp only [argRegs,argAV1]
  intro M
  refine RunK.of ?_
  repeat' (first|with_reducible (first|refine Q1 ?_|refine Q2 ?_|refine Q3 ?_|refine Q4 ?_|refine Q5 ?_|refine Q6 ?_|refine Q7 ?_|refine Q8 ?_|refine Q9 ?_|refine Qa ?_|refine Qb ?_|refine Qc ?_|refine Qd ?_|refine Qe ?_|refine Qf ?_)|((with_reducible refine Qo ?_ ?_);focus rfl)|((with_reducible first|refine QT 56 (l:=?_) ?_ ?_|refine QF 56 (l:=?_) ?_ ?_);rotate_left 1;focus (simp only [Zu,Nat.reduceSub,Nat.reduceBEq];with_reducible rfl))|((with_reducible first|refine QS (cfg_ok 100) (Tab.none.at' 47 h1) (s':=?_) ?_ ?_|refine QC (b:=?_) ?_ ?_);rotate_left 1;focus ((with_reducible refine QW ?_);simp only [Zg,seval,Nat.reduceEqDiff];with_reducible rfl))|((with_reducible refine QD (cfg_ok 100) (Tab.none.at' 47 h1) mixed_ok (tr:=?_) (s':=?_) ?_ ?_ ?_);rotate_left 2;(focus ((with_reducible refine QW ?_);simp only [Zg,Zd,seval,if_true,if_false,reduceCtorEq,Nat.reduceEqDiff];with_reducible rfl));focus ((with_reducible refine QK ?_);simp only [Zk];kernel_rfl)))
  (refine Ends.mk (by simp) (rs:=?_) (ks:=?_) hres hrts ?_ ?_ ?_;rotate_left 2;(focus (simp only [Ze,Zg,seval,Nat.reduceEqDiff];with_reducible rfl));(focus simp);focus (first|with_reducible rfl|(simp only [Zv];done)))
 rw [hE] at h1
 obtain ⟨hl,hnf,_,hfo⟩:=elB_spec hE
 have hbd:=hnf.2
 have hML:=copM_len e hfo
 have hMok:=copM_ok hfo
 have htl:∀ i,(copM (e.take i)).length ≤ 256 * i:=fun i => by
  have:=copM_len (e.take i) (mem_take hfo)
  rw [List.length_take] at this
  exact Nat.le_trans this (Nat.mul_le_mul_left _ (Nat.min_le_left _ _))
 have hle:(e.map ePt).length = e.length:=List.length_map _
 refine AFn.of_runs (cfg_ok 100) Tryz.func35 rfl rfl rfl (by simp only [List.length_cons,List.length_nil];decide) ?_
 have hres:Tryz.f35.results.toList = [.tmp 2,.tmp 3]:=rfl
 have hrts:Tryz.f35.resultTypes.toList = [61,2]:=rfl
 simp only [argRegs,argAV1]
 intro M
 refine RunK.of ?_
 repeat' (first|with_reducible (first|refine Q1 ?_|refine Q2 ?_|refine Q3 ?_|refine Q4 ?_|refine Q5 ?_|refine Q6 ?_|refine Q7 ?_|refine Q8 ?_|refine Q9 ?_|refine Qa ?_|refine Qb ?_|refine Qc ?_|refine Qd ?_|refine Qe ?_|refine Qf ?_)|((with_reducible refine Qo ?_ ?_);focus rfl)|((with_reducible first|refine QT 56 (l:=?_) ?_ ?_|refine QF 56 (l:=?_) ?_ ?_);rotate_left 1;focus (simp only [Zu,Nat.reduceSub,Nat.reduceBEq];with_reducible rfl))|((with_reducible first|refine QS (cfg_ok 100) (Tab.none.at' 47 h1) (s':=?_) ?_ ?_|refine QC (b:=?_) ?_ ?_);rotate_left 1;focus ((with_reducible refine QW ?_);simp only [Zg,seval,Nat.reduceEqDiff,hle];with_reducible rfl))|((with_reducible refine QD (cfg_ok 100) (Tab.none.at' 47 h1) mixed_ok (tr:=?_) (s':=?_) ?_ ?_ ?_);rotate_left 2;(focus ((with_reducible refine QW ?_);simp only [Zg,Zd,seval,if_true,if_false,reduceCtorEq,Nat.reduceEqDiff,hle];with_reducible rfl));focus ((with_reducible refine QK ?_);simp only [Zk];kernel_rfl)))
 refine RunK.loop (β:=Nat × List TeT) (γ:=List TeT) (fun x => ⟨[(4,.c (.own 4 x.2.length)),(18,.c (.val (.sl 2 (e.map ePt)))),(19,.c (.val (.int e.length))),(20,.c (.val (.int x.1)))],[(4,.row 3 (x.2.map eTeT) false)]⟩) (fun x => x.1 ≤ e.length∧CpI M (copM (e.take x.1)) x.2) (fun x => e.length - x.1)
  (fun qs => ⟨[(4,.c (.own 4 qs.length))],[(4,.row 3 (qs.map eTeT) false)]⟩) (fun qs => CpI M (copM e) qs) (0,[]) ⟨Nat.zero_le _,⟨rfl,List.nodup_nil,fun b hb => nomatch hb⟩⟩ ?_ ?_ ?_
 ·(repeat' (first|with_reducible refine Qn|((with_reducible refine Qr ?_ ?_);focus (first|with_reducible rfl|(simp only [Zz,Nat.reduceBEq,Int.natCast_zero];done)|rfl))|((with_reducible refine Qj (o':=?_) ?_ ?_ ?_);rotate_left 1;focus rfl)|((with_reducible refine Qw ?_ ?_);(focus (first|with_reducible rfl|(simp only [Zv];done)));focus (first|exact id|exact (fun h => nomatch h)|exact (fun _ => rfl)))))
 ·rintro ⟨i,qs⟩ ⟨hi,hI⟩
  simp only at hi hI ⊢
  have hw:=w64_succ (n:=i) (by omega)
  have hqn:qs.length ≤ 256 * i:=by
   have:=congrArg List.length hI.eq
   rw [List.length_map] at this
   have:=htl i
   omega
  by_cases h:i < e.length
  rotate_left
  ·have i1:((i:Int) < (e.length:Int)) = False:=eq_false (by omega)
   obtain rfl:i = e.length:=by omega
   rw [List.take_length] at hI
   repeat' (first|with_reducible (first|refine Q1 ?_|refine Q2 ?_|refine Q3 ?_|refine Q4 ?_|refine Q5 ?_|refine Q6 ?_|refine Q7 ?_|refine Q8 ?_|refine Q9 ?_|refine Qa ?_|refine Qb ?_|refine Qc ?_|refine Qd ?_|refine Qe ?_|refine Qf ?_)|((with_reducible refine Qo ?_ ?_);focus rfl)|((with_reducible first|refine QT 56 (l:=?_) ?_ ?_|refine QF 56 (l:=?_) ?_ ?_);rotate_left 1;focus (simp only [Zu,Nat.reduceSub,Nat.reduceBEq];with_reducible rfl))|((with_reducible first|refine QS (cfg_ok 100) Tab.none (s':=?_) ?_ ?_|refine QC (b:=?_) ?_ ?_);rotate_left 1;focus ((with_reducible refine QW ?_);simp only [Zg,seval,i1];with_reducible rfl))|((with_reducible refine QD (cfg_ok 100) Tab.none mixed_ok (tr:=?_) (s':=?_) ?_ ?_ ?_);rotate_left 2;(focus ((with_reducible refine QW ?_);simp only [Zg,Zd,seval,if_true,if_false,reduceCtorEq,Nat.reduceEqDiff,i1];with_reducible rfl));focus ((with_reducible refine QK ?_);simp only [Zk];kernel_rfl)))
   refine roundK.out qs hI ?_
   (repeat' (first|with_reducible refine Qn|((with_reducible refine Qr ?_ ?_);focus (first|with_reducible rfl|(simp only [Zz,Nat.reduceBEq];done)|rfl))|((with_reducible refine Qj (o':=?_) ?_ ?_ ?_);rotate_left 1;focus rfl)|((with_reducible refine Qw ?_ ?_);(focus (first|with_reducible rfl|(simp only [Zv];done)));focus (first|exact id|exact (fun h => nomatch h)|exact (fun _ => rfl)))))
  have i1:((i:Int) < (e.length:Int)) = True:=eq_true (by omega)
  have i2:((0:Int) ≤ (i:Int)) = True:=eq_true (by omega)
  refine RunK.fresh rfl ?_
  intro M' hM' hold
  have hold:=hold 4 3 (qs.map eTeT) rfl
  rw [marks_eTeT] at hold
  obtain ⟨p,hp⟩:∃ p,p = e[i]:=⟨_,rfl⟩
  have hpf:=hfo e[i] (List.getElem_mem _)
  have hpb:=hbd e[i] (List.getElem_mem _)
  have hg:(e.map ePt)[i]? = some [.int p.1,.sl 1 (p.2.map eL)]:=by rw [map_get h,hp];rfl
  have htk:copM (e.take (i + 1)) = copM (e.take i) ++ copP p:=by rw [copM_take h,← hp]
  rw [← hp] at hpf hpb
  have hsm8:=(forB_spec hpf).1
  have hsp:=a_splitForest p.2 (forB_lev hpf) hsm8
  have hpl:=prod_len (forB_lev hpf) hsm8
  have hga:=a_gathered (prodS (p.2.map split)) (by omega) (fun s hs => ((prod_good (forB_lev hpf) s hs).ha (by omega)).sm)
  have hgood:=gath_good (prod_good (forB_lev hpf))
  have hcd:copP p = (gathS (prodS (p.2.map split))).map fun z => (mP (p.1 * z.2),z.1):=rfl
  have hGl:=copP_len hpf
  obtain ⟨G,hG⟩:∃ G,G = gathS (prodS (p.2.map split)):=⟨_,rfl⟩
  rw [← hG] at hga hgood hcd
  have hGn:G.length ≤ 256:=by rw [hcd,List.length_map] at hGl;exact hGl
  have hspl:((prodS (p.2.map split)).map eS0).length = (prodS (p.2.map split)).length:=List.length_map _
  simp only [eLL] at hsp
  repeat' (first|with_reducible (first|refine Q1 ?_|refine Q2 ?_|refine Q3 ?_|refine Q4 ?_|refine Q5 ?_|refine Q6 ?_|refine Q7 ?_|refine Q8 ?_|refine Q9 ?_|refine Qa ?_|refine Qb ?_|refine Qc ?_|refine Qd ?_|refine Qe ?_|refine Qf ?_)|((with_reducible refine Qo ?_ ?_);focus rfl)|((with_reducible first|refine QT 56 (l:=?_) ?_ ?_|refine QF 56 (l:=?_) ?_ ?_);rotate_left 1;focus (simp only [Zu,Nat.reduceSub,Nat.reduceBEq];with_reducible rfl))|((with_reducible first|refine QS (cfg_ok 100) ((Tab.none.at' 91 hsp).own' 90 0 hga) (s':=?_) ?_ ?_|refine QC (b:=?_) ?_ ?_);rotate_left 1;focus ((with_reducible refine QW ?_);simp only [Zg,seval,Nat.reduceEqDiff,Tab.own',atOwn_eq,i1,i2,hg,hle,hspl,List.length_map,Int.toNat_natCast];with_reducible rfl))|((with_reducible refine QD (cfg_ok 100) ((Tab.none.at' 91 hsp).own' 90 0 hga) mixed_ok (tr:=?_) (s':=?_) ?_ ?_ ?_);rotate_left 2;(focus ((with_reducible refine QW ?_);simp only [Zg,Zd,seval,if_true,if_false,reduceCtorEq,Nat.reduceEqDiff,Tab.own',atOwn_eq,i1,i2,hg,hle,hspl,List.length_map,Int.toNat_natCast];with_reducible rfl));focus ((with_reducible refine QK ?_);simp only [Zk];kernel_rfl)))
  refine RunK.tag' 27 (k:=3) (xs:=G.map eSp) rfl ?_
  intro xs' F ht htp hnd hF
  obtain ⟨zs,e1,e2,e3⟩:=tag_rows3 _ _ _ ht htp
  subst e2;subst e3
  have hzl:zs.length = G.length:=by rw [e1,List.length_map]
  refine RunK.loop (β:=Nat × List TeT) (γ:=List TeT) (fun x => ⟨[(4,.c (.own 4 x.2.length)),(6,.optr 6 0 0),(18,.c (.val (.sl 2 (e.map ePt)))),(19,.c (.val (.int e.length))),(20,.c (.val (.int i))),(27,.c (.own 27 G.length)),(28,.c (.val (.int G.length))),(29,.c (.val (.int x.1)))],[(4,.row 3 (x.2.map eTeT) false),(6,.row 2 [[.int p.1,.sl 1 (p.2.map eL)]] false),(27,.row 3 (zs.map (e3T (fun z:Spl × Int => z.1.1.map eL) (fun z => z.1.2.map eL) (·.2))) false)]⟩)
   (fun x => x.1 ≤ G.length∧x.2.map (·.1) = copM (e.take i) ++ (copP p).take x.1∧(x.2.map blT).flatten = (qs.map blT).flatten ++ ((zs.take x.1).map bl3).flatten) (fun x => G.length - x.1)
   (fun rs => ⟨[(4,.c (.own 4 rs.length)),(18,.c (.val (.sl 2 (e.map ePt)))),(19,.c (.val (.int e.length))),(20,.c (.val (.int i)))],[(4,.row 3 (rs.map eTeT) false)]⟩) (fun rs => rs.map (·.1) = copM (e.take i) ++ copP p∧(rs.map blT).flatten = (qs.map blT).flatten ++ (zs.map bl3).flatten) (0,qs) ⟨Nat.zero_le _,by rw [List.take_zero,List.append_nil];exact hI.eq,by rw [List.take_zero];simp⟩ ?_ ?_ ?_
  ·(repeat' (first|with_reducible refine Qn|((with_reducible refine Qr ?_ ?_);focus (first|with_reducible rfl|(simp only [Zz,Nat.reduceBEq,Int.natCast_zero];done)|rfl))|((with_reducible refine Qj (o':=?_) ?_ ?_ ?_);rotate_left 1;focus rfl)|((with_reducible refine Qw ?_ ?_);(focus (first|with_reducible rfl|(simp only [Zv,List.length_map,Int.natCast_zero];done)));focus (first|exact id|exact (fun h => nomatch h)|exact (fun _ => rfl)))))
  ·rintro ⟨j,rs⟩ ⟨hj,hr1,hr2⟩
   simp only at hj hr1 hr2 ⊢
   have hwj:=w64_succ (n:=j) (by omega)
   have hzm:(zs.map (e3T (fun z:Spl × Int => z.1.1.map eL) (fun z => z.1.2.map eL) (·.2))).length = G.length:=by rw [List.length_map,hzl]
   have hcl:(copP p).length = G.length:=by rw [hcd,List.length_map]
   have hrn:rs.length ≤ 256 * i + 256:=by
    have:=congrArg List.length hr1
    rw [List.length_map,List.length_append,List.length_take] at this
    have:=htl i
    omega
   by_cases hjG:j < G.length
   ·have hjz:j < zs.length:=by omega
    have j1:((j:Int) < (G.length:Int)) = True:=eq_true (by omega)
    have j2:((0:Int) ≤ (j:Int)) = True:=eq_true (by omega)
    obtain ⟨z,hz⟩:∃ z,z = zs[j]:=⟨_,rfl⟩
    have hLi:G[j] = z.1:=by simp only [e1,List.getElem_map,hz]
    have hgz:(zs.map (e3T (fun z:Spl × Int => z.1.1.map eL) (fun z => z.1.2.map eL) (·.2)))[j]? = some (e3T (fun z:Spl × Int => z.1.1.map eL) (fun z => z.1.2.map eL) (·.2) z):=by rw [map_get hjz,hz]
    obtain ⟨z1,z2,z3⟩:=hgood G[j] (List.getElem_mem _)
    have htkz:(zs.take (j + 1)).map bl3 = (zs.take j).map bl3 ++ [bl3 z]:=by rw [List.take_succ_eq_append_getElem hjz,List.map_append,← hz];rfl
    have htkc:(copP p).take (j + 1) = (copP p).take j ++ [(mP (p.1 * z.1.2),z.1.1)]:=by
     rw [List.take_succ_eq_append_getElem (by omega)]
     congr 2
     simp only [hcd,List.getElem_map,hLi]
    rw [hLi] at z1 z2
    obtain ⟨⟨⟨f,g⟩,n⟩,⟨Fz,Gz⟩⟩:=z
    simp only [e3T] at hgz
    simp only at z1 z2 htkc
    have hb0:0 ≤ p.1 * n∧p.1 * n ≤ 100140049:=by
     refine ⟨Int.mul_nonneg (by omega) (by omega),?_⟩
     have h5:=Int.mul_le_mul (show p.1 ≤ 10007 by omega) (show n ≤ 10007 by omega) (by omega) (by decide)
     omega
    have hwm:w64 (p.1 * n) = p.1 * n:=w64_eq (by omega)
    have q1:=big_le (n:=rs.length + 1) (by omega)
    have q2:=big_mul (n:=rs.length + 1) (c:=56) (by omega) (by omega)
    repeat' (first|with_reducible (first|refine Q1 ?_|refine Q2 ?_|refine Q3 ?_|refine Q4 ?_|refine Q5 ?_|refine Q6 ?_|refine Q7 ?_|refine Q8 ?_|refine Q9 ?_|refine Qa ?_|refine Qb ?_|refine Qc ?_|refine Qd ?_|refine Qe ?_|refine Qf ?_)|((with_reducible refine Qo ?_ ?_);focus rfl)|((with_reducible first|refine QT 56 (l:=?_) ?_ ?_|refine QF 56 (l:=?_) ?_ ?_);rotate_left 1;focus (simp only [Zu,Nat.reduceSub,Nat.reduceBEq];with_reducible rfl))|((with_reducible first|refine QS (cfg_ok 100) TNmC (s':=?_) ?_ ?_|refine QC (b:=?_) ?_ ?_);rotate_left 1;focus ((with_reducible refine QW ?_);simp only [Zg,seval,Nat.reduceEqDiff,TNmC,TNmC,j1,j2,hgz,hwj,Int.toNat_natCast];with_reducible rfl))|((with_reducible refine QD (cfg_ok 100) TNmC mixed_ok (tr:=?_) (s':=?_) ?_ ?_ ?_);rotate_left 2;(focus ((with_reducible refine QW ?_);simp only [Zg,Zd,seval,Nat.reduceEqDiff,TNmC,TNmC,hwm,q1,q2,List.length_map];with_reducible rfl));focus ((with_reducible refine QK ?_);simp only [Zk];kernel_rfl)))
    refine roundK.on (j + 1,rs ++ [((mP (p.1 * n),(f,g)),(Fz,Gz))]) ⟨⟨hjG,?_,?_⟩,by show G.length - (j + 1) < G.length - j;omega⟩ ?_
    ·show List.map (fun q:TeT => q.1) (rs ++ [((mP (p.1 * n),(f,g)),(Fz,Gz))]) = _
     rw [List.map_append,hr1,htkc,List.append_assoc];rfl
    ·show ((rs ++ [((mP (p.1 * n),(f,g)),(Fz,Gz))]).map blT).flatten = _
     rw [htkz,List.map_append,List.flatten_append,hr2,List.flatten_append,List.append_assoc]
     rfl
    ·(repeat' (first|with_reducible refine Qn|((with_reducible refine Qr ?_ ?_);focus (first|with_reducible rfl|(simp only [Zz,Nat.reduceBEq];done)|rfl))|((with_reducible refine Qj (o':=?_) ?_ ?_ ?_);rotate_left 1;focus rfl)|((with_reducible refine Qw ?_ ?_);(focus (first|with_reducible rfl|(simp only [Zv,eTeT];done)));focus (first|exact id|exact (fun h => nomatch h)|exact (fun _ => rfl)))))
   ·have j1:((j:Int) < (G.length:Int)) = False:=eq_false (by omega)
    obtain rfl:j = G.length:=by omega
    have hall:(copP p).take G.length = copP p:=List.take_of_length_le (by omega)
    rw [hall] at hr1
    rw [← hzl,List.take_length] at hr2
    repeat' (first|with_reducible (first|refine Q1 ?_|refine Q2 ?_|refine Q3 ?_|refine Q4 ?_|refine Q5 ?_|refine Q6 ?_|refine Q7 ?_|refine Q8 ?_|refine Q9 ?_|refine Qa ?_|refine Qb ?_|refine Qc ?_|refine Qd ?_|refine Qe ?_|refine Qf ?_)|((with_reducible refine Qo ?_ ?_);focus rfl)|((with_reducible first|refine QT 56 (l:=?_) ?_ ?_|refine QF 56 (l:=?_) ?_ ?_);rotate_left 1;focus (simp only [Zu,Nat.reduceSub,Nat.reduceBEq];with_reducible rfl))|((with_reducible first|refine QS (cfg_ok 100) Tab.none (s':=?_) ?_ ?_|refine QC (b:=?_) ?_ ?_);rotate_left 1;focus ((with_reducible refine QW ?_);simp only [Zg,seval,j1];with_reducible rfl))|((with_reducible refine QD (cfg_ok 100) Tab.none mixed_ok (tr:=?_) (s':=?_) ?_ ?_ ?_);rotate_left 2;(focus ((with_reducible refine QW ?_);simp only [Zg,Zd,seval,if_true,if_false,reduceCtorEq,Nat.reduceEqDiff,j1];with_reducible rfl));focus ((with_reducible refine QK ?_);simp only [Zk];kernel_rfl)))
    refine roundK.out rs ⟨hr1,hr2⟩ ?_
    (repeat' (first|with_reducible refine Qn|((with_reducible refine Qr ?_ ?_);focus (first|with_reducible rfl|(simp only [Zz,Nat.reduceBEq];done)|rfl))|((with_reducible refine Qj (o':=?_) ?_ ?_ ?_);rotate_left 1;focus rfl)|((with_reducible refine Qw ?_ ?_);(focus (first|with_reducible rfl|(simp only [Zv];done)));focus (first|exact id|exact (fun h => nomatch h)|exact (fun _ => rfl)))))
  ·rintro rs ⟨hr1,hr2⟩
   repeat' (first|with_reducible (first|refine Q1 ?_|refine Q2 ?_|refine Q3 ?_|refine Q4 ?_|refine Q5 ?_|refine Q6 ?_|refine Q7 ?_|refine Q8 ?_|refine Q9 ?_|refine Qa ?_|refine Qb ?_|refine Qc ?_|refine Qd ?_|refine Qe ?_|refine Qf ?_)|((with_reducible refine Qo ?_ ?_);focus rfl)|((with_reducible first|refine QT 56 (l:=?_) ?_ ?_|refine QF 56 (l:=?_) ?_ ?_);rotate_left 1;focus (simp only [Zu,Nat.reduceSub,Nat.reduceBEq];with_reducible rfl))|((with_reducible first|refine QS (cfg_ok 100) Tab.none (s':=?_) ?_ ?_|refine QC (b:=?_) ?_ ?_);rotate_left 1;focus ((with_reducible refine QW ?_);simp only [Zg,seval,hw];with_reducible rfl))|((with_reducible refine QD (cfg_ok 100) Tab.none mixed_ok (tr:=?_) (s':=?_) ?_ ?_ ?_);rotate_left 2;(focus ((with_reducible refine QW ?_);simp only [Zg,Zd,seval,if_true,if_false,reduceCtorEq,Nat.reduceEqDiff,hw];with_reducible rfl));focus ((with_reducible refine QK ?_);simp only [Zk];kernel_rfl)))
   refine roundK.on (i + 1,rs) ⟨⟨h,?_⟩,by show e.length - (i + 1) < e.length - i;omega⟩ ?_
   ·refine ⟨by rw [htk];exact hr1,?_,fun b hb => ?_⟩
    ·show ((rs.map blT).flatten).Nodup
     rw [hr2]
     refine List.nodup_append.2 ⟨hI.nd,hnd,fun b hb c hc e => ?_⟩
     subst e
     exact hold b hb (hF b hc)
    ·have hb:b ∈ (rs.map blT).flatten:=hb
     rw [hr2] at hb
     rcases List.mem_append.1 hb with hb|hb
     ·exact hI.mi b hb
     ·exact hM' b (hF b hb)
   ·(repeat' (first|with_reducible refine Qn|((with_reducible refine Qr ?_ ?_);focus (first|with_reducible rfl|(simp only [Zz,Nat.reduceBEq];done)|rfl))|((with_reducible refine Qj (o':=?_) ?_ ?_ ?_);rotate_left 1;focus rfl)|((with_reducible refine Qw ?_ ?_);(focus (first|with_reducible rfl|(simp only [Zv];done)));focus (first|exact id|exact (fun h => nomatch h)|exact (fun _ => rfl)))))
 ·intro qs hJ
  have hqn:qs.length = (copM e).length:=by
   have:=congrArg List.length hJ.eq
   rwa [List.length_map] at this
  have hqs:∀ q ∈ qs,(0 ≤ q.1.1∧q.1.1 < 10007)∧SmS q.1.2:=fun q hq => hMok q.1 (by rw [← hJ.eq];exact List.mem_map.2 ⟨q,hq,rfl⟩)
  have hso:=a_sortTe qs (fun q hq => (hqs q hq).2) (by omega)
  repeat' (first|with_reducible (first|refine Q1 ?_|refine Q2 ?_|refine Q3 ?_|refine Q4 ?_|refine Q5 ?_|refine Q6 ?_|refine Q7 ?_|refine Q8 ?_|refine Q9 ?_|refine Qa ?_|refine Qb ?_|refine Qc ?_|refine Qd ?_|refine Qe ?_|refine Qf ?_)|((with_reducible refine Qo ?_ ?_);focus rfl)|((with_reducible first|refine QT 56 (l:=?_) ?_ ?_|refine QF 56 (l:=?_) ?_ ?_);rotate_left 1;focus (simp only [Zu,Nat.reduceSub,Nat.reduceBEq];with_reducible rfl))|((with_reducible first|refine QS (cfg_ok 100) Tab.none (s':=?_) ?_ ?_|refine QC (b:=?_) ?_ ?_);rotate_left 1;focus ((with_reducible refine QW ?_);simp only [Zg,seval,Nat.reduceEqDiff];with_reducible rfl))|((with_reducible refine QD (cfg_ok 100) Tab.none mixed_ok (tr:=?_) (s':=?_) ?_ ?_ ?_);rotate_left 2;(focus ((with_reducible refine QW ?_);simp only [Zg,Zd,seval,if_true,if_false,reduceCtorEq,Nat.reduceEqDiff];with_reducible rfl));focus ((with_reducible refine QK ?_);simp only [Zk];kernel_rfl)))
  refine RunK.regCut (cfg_ok 100) Tab.none 2 (s1:=?_) ?_ ?_
  rotate_left 1
  focus (refine Work.mk ?_;simp only [Zg,seval];with_reducible rfl)
  simp only [List.drop_succ_cons,List.drop_zero]
  refine ROps.callEf (cfg_ok 100) rfl rfl (by decide) rfl rfl (x:=.tmp 49) (xpost:=[.tmp 50]) rfl rfl (post:=[[.raw (.func (.func 104) #[] #[])]]) ?_ ?_ rfl rfl ?_ hso (R:=fun ys => ∃ zs:List TeT,ys = zs.map eTeT∧zs.Perm qs∧zs.Pairwise (fun a b => cmpTe a.1.2 b.1.2 ≤ 0)) ?_ ?_
  ·simp only [Zg,seval]
  ·rfl
  ·intro q u hq hu
   rw [look,if_neg (fun e => hq e.symm)] at hu
   cases hu
  ·rintro rs oc ⟨rfl,zs,rfl,h1,h2⟩
   exact ⟨rfl,_,rfl,zs,rfl,h1,h2⟩
  rintro _ ⟨zs,rfl,hperm,hsort⟩
  have hzl:zs.length = qs.length:=hperm.length_eq
  have hzz:∀ z ∈ zs,(0 ≤ z.1.1∧z.1.1 < 10007)∧SmS z.1.2:=fun z hz => hqs z (hperm.mem_iff.1 hz)
  refine ROps.opsT (cfg_ok 100) (T:=Tab.none) (s':=?_) ?_ ?_
  rotate_left 1
  focus (simp only [Zg,seval];with_reducible rfl)
  repeat' (first|with_reducible (first|refine Q1 ?_|refine Q2 ?_|refine Q3 ?_|refine Q4 ?_|refine Q5 ?_|refine Q6 ?_|refine Q7 ?_|refine Q8 ?_|refine Q9 ?_|refine Qa ?_|refine Qb ?_|refine Qc ?_|refine Qd ?_|refine Qe ?_|refine Qf ?_)|((with_reducible refine Qo ?_ ?_);focus rfl)|((with_reducible first|refine QT 56 (l:=?_) ?_ ?_|refine QF 56 (l:=?_) ?_ ?_);rotate_left 1;focus (simp only [Zu,Nat.reduceSub,Nat.reduceBEq];with_reducible rfl))|((with_reducible first|refine QS (cfg_ok 100) Tab.none (s':=?_) ?_ ?_|refine QC (b:=?_) ?_ ?_);rotate_left 1;focus ((with_reducible refine QW ?_);simp only [Zg,seval,Nat.reduceEqDiff];with_reducible rfl))|((with_reducible refine QD (cfg_ok 100) Tab.none mixed_ok (tr:=?_) (s':=?_) ?_ ?_ ?_);rotate_left 2;(focus ((with_reducible refine QW ?_);simp only [Zg,Zd,seval,if_true,if_false,reduceCtorEq,Nat.reduceEqDiff,List.length_map];with_reducible rfl));focus ((with_reducible refine QK ?_);simp only [Zk];kernel_rfl)))
  obtain ⟨R,hR⟩:∃ R,R = fun i => runW (zs.take i):=⟨_,rfl⟩
  have hRi:∀ i,i ≤ zs.length→(R i).length ≤ 100000∧∀ q ∈ R i,(0 ≤ q.1.1∧q.1.1 < 10007)∧SmS q.1.2:=fun i hi => by
   rw [hR]
   obtain ⟨_,_,h3,h4⟩:=runW_spec _ (zs.take i) rfl (fun q hq => hzz q (List.mem_of_mem_take hq))
   rw [List.length_take] at h3
   exact ⟨by show (runW (zs.take i)).length ≤ 100000;omega,h4⟩
  refine RunK.loop (β:=Nat) (γ:=Unit) (fun i => ⟨[(9,.c (.val (.raw (.func (.func 104) #[] #[])))),(10,.c (.own 10 (R i).length)),(53,.c (.own 4 qs.length)),(54,.c (.val (.int qs.length))),(55,.c (.val (.int i)))],[(4,.row 3 (zs.map eTeT) false),(10,.row 3 ((R i).map eTeT) false)]⟩) (fun i => i ≤ qs.length) (fun i => qs.length - i)
   (fun _ => ⟨[(10,.c (.own 10 (R qs.length).length))],[(10,.row 3 ((R qs.length).map eTeT) false)]⟩) (fun _ => True) 0 (Nat.zero_le _) ?_ ?_ ?_
  ·have e0:R 0 = []:=by rw [hR];rfl
   rw [e0]
   (repeat' (first|with_reducible refine Qn|((with_reducible refine Qr ?_ ?_);focus (first|with_reducible rfl|(simp only [Zz,Nat.reduceBEq,Int.natCast_zero];done)|rfl))|((with_reducible refine Qj (o':=?_) ?_ ?_ ?_);rotate_left 1;focus rfl)|((with_reducible refine Qw ?_ ?_);(focus (first|with_reducible rfl|(simp only [Zv];done)));focus (first|exact id|exact (fun h => nomatch h)|exact (fun _ => rfl)))))
  ·intro i hi
   have hi:i ≤ qs.length:=hi
   have hw:=w64_succ (n:=i) (by omega)
   obtain ⟨hb1,hb2⟩:=hRi i (by omega)
   have hzml:(zs.map eTeT).length = qs.length:=by rw [List.length_map,hzl]
   by_cases h:i < qs.length
   ·have hz':i < zs.length:=by omega
    have i1:((i:Int) < (qs.length:Int)) = True:=eq_true (by omega)
    have i2:((0:Int) ≤ (i:Int)) = True:=eq_true (by omega)
    obtain ⟨p,hp⟩:∃ p,p = zs[i]:=⟨_,rfl⟩
    have hpz:=hzz zs[i] (List.getElem_mem _)
    have hst:R (i + 1) = stepW (R i) p:=by
     rw [hR]
     show runW (zs.take (i + 1)) = stepW (runW (zs.take i)) p
     rw [List.take_succ_eq_append_getElem hz',← hp,runW_snoc]
    have hg:(zs.map eTeT)[i]? = some (eTeT p):=by rw [map_get hz',hp]
    rw [← hp] at hpz
    obtain ⟨⟨pn,⟨pf,pg⟩⟩,⟨pF,pG⟩⟩:=p
    simp only [eTeT] at hg
    simp only at hpz
    obtain ⟨hpz1,hpz2⟩:=hpz
    have q1:=big_le (n:=(R i).length + 1) (by omega)
    have q2:=big_mul (n:=(R i).length + 1) (c:=56) (by omega) (by omega)
    by_cases h0:R i = []
    ·rw [h0,stepW_nil] at hst
     have j1:(((0:Nat):Int) > 0) = False:=eq_false (by omega)
     rw [h0] at q1 q2 ⊢
     simp only [List.length_nil] at q1 q2
     repeat' (first|with_reducible (first|refine Q1 ?_|refine Q2 ?_|refine Q3 ?_|refine Q4 ?_|refine Q5 ?_|refine Q6 ?_|refine Q7 ?_|refine Q8 ?_|refine Q9 ?_|refine Qa ?_|refine Qb ?_|refine Qc ?_|refine Qd ?_|refine Qe ?_|refine Qf ?_)|((with_reducible refine Qo ?_ ?_);focus rfl)|((with_reducible first|refine QT 56 (l:=?_) ?_ ?_|refine QF 56 (l:=?_) ?_ ?_);rotate_left 1;focus (simp only [Zu,Nat.reduceSub,Nat.reduceBEq];with_reducible rfl))|((with_reducible first|refine QS (cfg_ok 100) TNmC (s':=?_) ?_ ?_|refine QC (b:=?_) ?_ ?_);rotate_left 1;focus ((with_reducible refine QW ?_);simp only [Zg,seval,Nat.reduceEqDiff,TNmC,TNmC,i1,i2,hg,hw,q1,q2,Int.toNat_natCast];with_reducible rfl))|((with_reducible refine QD (cfg_ok 100) TNmC mixed_ok (tr:=?_) (s':=?_) ?_ ?_ ?_);rotate_left 2;(focus ((with_reducible refine QW ?_);simp only [Zg,Zd,seval,Nat.reduceEqDiff,TNmC,TNmC];with_reducible rfl));focus ((with_reducible refine QK ?_);simp only [Zk];kernel_rfl)))
     refine roundK.on (i + 1) ⟨h,by omega⟩ ?_
     rw [hst]
     (repeat' (first|with_reducible refine Qn|((with_reducible refine Qr ?_ ?_);focus (first|with_reducible rfl|(simp only [Zz,Nat.reduceBEq];done)|rfl))|((with_reducible refine Qj (o':=?_) ?_ ?_ ?_);rotate_left 1;focus rfl)|((with_reducible refine Qw ?_ ?_);(focus (first|with_reducible rfl|(simp only [Zv,eTeT];done)));focus (first|exact id|exact (fun h => nomatch h)|exact (fun _ => rfl)))))
    ·obtain ⟨qo,q,eq⟩:=(nil_or_snoc (R i)).resolve_left h0
     have hlq:(R i).length = qo.length + 1:=by rw [eq];simp
     obtain ⟨hz1,hz3⟩:=hb2 q (by rw [eq];simp)
     obtain ⟨⟨qn,⟨qf,qg⟩⟩,⟨qF,qG⟩⟩:=q
     simp only at hz1 hz3
     have j1:((((qo.length + 1:Nat)):Int) > 0) = True:=eq_true (by omega)
     have hw1:w64 (((qo.length + 1:Nat):Int) - 1) = ((qo.length:Nat):Int):=by rw [w64_eq (by omega)];omega
     have i3:((0:Int) ≤ ((qo.length:Nat):Int)) = True:=eq_true (by omega)
     have i4:(((qo.length:Nat):Int) < ((qo.length + 1:Nat):Int)) = True:=eq_true (by omega)
     have hgz:((R i).map eTeT)[qo.length]? = some [.int qn,.tag qF (.sl 1 (qf.map eL)),.tag qG (.sl 1 (qg.map eL))]:=by
      rw [eq,List.map_append,List.getElem?_append_right (by simp)];simp [eTeT]
     have hxl:((R i).map eTeT).length = qo.length + 1:=by rw [List.length_map,hlq]
     have hcm:=a_copro1 (qn,(qf,qg)) (pn,(pf,pg)) hz3 hpz2
     simp only [eTe] at hcm
     rw [hlq] at hb1 q1 q2 ⊢
     by_cases he:cmpTe (qf,qg) (pf,pg) = 0
     ·have hd:(cmpTe (qf,qg) (pf,pg) == 0) = true:=beq_iff_eq.2 he
      have hwz:=w64_eq (n:=qn + pn) (by omega)
      repeat' (first|with_reducible (first|refine Q1 ?_|refine Q2 ?_|refine Q3 ?_|refine Q4 ?_|refine Q5 ?_|refine Q6 ?_|refine Q7 ?_|refine Q8 ?_|refine Q9 ?_|refine Qa ?_|refine Qb ?_|refine Qc ?_|refine Qd ?_|refine Qe ?_|refine Qf ?_)|((with_reducible refine Qo ?_ ?_);focus rfl)|((with_reducible first|refine QT 56 (l:=?_) ?_ ?_|refine QF 56 (l:=?_) ?_ ?_);rotate_left 1;focus (simp only [Zu,Nat.reduceSub,Nat.reduceBEq];with_reducible rfl))|((with_reducible first|refine QS (cfg_ok 100) (TNmC.at' 104 hcm) (s':=?_) ?_ ?_|refine QC (b:=?_) ?_ ?_);rotate_left 1;focus ((with_reducible refine QW ?_);simp only [Zg,seval,Nat.reduceEqDiff,TNmC,i1,i2,hg,hw,Int.toNat_natCast];with_reducible rfl))|((with_reducible refine QD (cfg_ok 100) (TNmC.at' 104 hcm) mixed_ok (tr:=?_) (s':=?_) ?_ ?_ ?_);rotate_left 2;(focus ((with_reducible refine QW ?_);simp only [Zg,Zd,seval,Nat.reduceEqDiff,TNmC,i3,i4,hgz,hw1,hd,hwz,j1,Int.toNat_natCast];with_reducible rfl));focus ((with_reducible refine QK ?_);simp only [Zk];kernel_rfl)))
      have hR2:R (i + 1) = qo ++ [((mP (qn + pn),(qf,qg)),(qF,qG))]:=by rw [hst,eq];exact stepW_eq qo _ _ he
      have hse:((R i).map eTeT).set qo.length [.int (mP (qn + pn)),.tag qF (.sl 1 (qf.map eL)),.tag qG (.sl 1 (qg.map eL))] = (R (i + 1)).map eTeT:=by
       rw [hR2,eq,List.map_append,List.set_append_right _ _ (by simp)];simp [eTeT]
      refine roundK.on (i + 1) ⟨h,by omega⟩ ?_
      have hl2:(R (i + 1)).length = qo.length + 1:=by rw [hR2];simp
      rw [hl2,← hse]
      (repeat' (first|with_reducible refine Qn|((with_reducible refine Qr ?_ ?_);focus (first|with_reducible rfl|(simp only [Zz,Nat.reduceBEq];done)|rfl))|((with_reducible refine Qj (o':=?_) ?_ ?_ ?_);rotate_left 1;focus rfl)|((with_reducible refine Qw ?_ ?_);(focus (first|with_reducible rfl|(simp only [Zv];done)));focus (first|exact id|exact (fun h => nomatch h)|exact (fun _ => rfl)))))
     ·have hd:(cmpTe (qf,qg) (pf,pg) == 0) = false:=beq_eq_false_iff_ne.2 he
      repeat' (first|with_reducible (first|refine Q1 ?_|refine Q2 ?_|refine Q3 ?_|refine Q4 ?_|refine Q5 ?_|refine Q6 ?_|refine Q7 ?_|refine Q8 ?_|refine Q9 ?_|refine Qa ?_|refine Qb ?_|refine Qc ?_|refine Qd ?_|refine Qe ?_|refine Qf ?_)|((with_reducible refine Qo ?_ ?_);focus rfl)|((with_reducible first|refine QT 56 (l:=?_) ?_ ?_|refine QF 56 (l:=?_) ?_ ?_);rotate_left 1;focus (simp only [Zu,Nat.reduceSub,Nat.reduceBEq];with_reducible rfl))|((with_reducible first|refine QS (cfg_ok 100) (TNmC.at' 104 hcm) (s':=?_) ?_ ?_|refine QC (b:=?_) ?_ ?_);rotate_left 1;focus ((with_reducible refine QW ?_);simp only [Zg,seval,Nat.reduceEqDiff,TNmC,i1,i2,hg,hxl,hw,q1,q2,Int.toNat_natCast];with_reducible rfl))|((with_reducible refine QD (cfg_ok 100) (TNmC.at' 104 hcm) mixed_ok (tr:=?_) (s':=?_) ?_ ?_ ?_);rotate_left 2;(focus ((with_reducible refine QW ?_);simp only [Zg,Zd,seval,Nat.reduceEqDiff,TNmC,i3,i4,hgz,hw1,hd,j1,Int.toNat_natCast];with_reducible rfl));focus ((with_reducible refine QK ?_);simp only [Zk];kernel_rfl)))
      have hR2:R (i + 1) = R i ++ [((pn,(pf,pg)),(pF,pG))]:=by rw [hst,eq];exact stepW_ne qo _ _ he
      refine roundK.on (i + 1) ⟨h,by omega⟩ ?_
      rw [hR2,List.length_append,hlq]
      (repeat' (first|with_reducible refine Qn|((with_reducible refine Qr ?_ ?_);focus (first|with_reducible rfl|(simp only [Zz,Nat.reduceBEq];done)|rfl))|((with_reducible refine Qj (o':=?_) ?_ ?_ ?_);rotate_left 1;focus rfl)|((with_reducible refine Qw ?_ ?_);(focus (first|with_reducible rfl|(simp only [Zv,eTeT];done)));focus (first|exact id|exact (fun h => nomatch h)|exact (fun _ => rfl)))))
   ·have i1:((i:Int) < (qs.length:Int)) = False:=eq_false (by omega)
    obtain rfl:i = qs.length:=by omega
    repeat' (first|with_reducible (first|refine Q1 ?_|refine Q2 ?_|refine Q3 ?_|refine Q4 ?_|refine Q5 ?_|refine Q6 ?_|refine Q7 ?_|refine Q8 ?_|refine Q9 ?_|refine Qa ?_|refine Qb ?_|refine Qc ?_|refine Qd ?_|refine Qe ?_|refine Qf ?_)|((with_reducible refine Qo ?_ ?_);focus rfl)|((with_reducible first|refine QT 56 (l:=?_) ?_ ?_|refine QF 56 (l:=?_) ?_ ?_);rotate_left 1;focus (simp only [Zu,Nat.reduceSub,Nat.reduceBEq];with_reducible rfl))|((with_reducible first|refine QS (cfg_ok 100) Tab.none (s':=?_) ?_ ?_|refine QC (b:=?_) ?_ ?_);rotate_left 1;focus ((with_reducible refine QW ?_);simp only [Zg,seval,i1];with_reducible rfl))|((with_reducible refine QD (cfg_ok 100) Tab.none mixed_ok (tr:=?_) (s':=?_) ?_ ?_ ?_);rotate_left 2;(focus ((with_reducible refine QW ?_);simp only [Zg,Zd,seval,if_true,if_false,reduceCtorEq,Nat.reduceEqDiff,i1];with_reducible rfl));focus ((with_reducible refine QK ?_);simp only [Zk];kernel_rfl)))
    refine roundK.out () trivial ?_
    (repeat' (first|with_reducible refine Qn|((with_reducible refine Qr ?_ ?_);focus (first|with_reducible rfl|(simp only [Zz,Nat.reduceBEq];done)|rfl))|((with_reducible refine Qj (o':=?_) ?_ ?_ ?_);rotate_left 1;focus rfl)|((with_reducible refine Qw ?_ ?_);(focus (first|with_reducible rfl|(simp only [Zv];done)));focus (first|exact id|exact (fun h => nomatch h)|exact (fun _ => rfl)))))
  ·rintro _ _
   have hRL:R qs.length = runW zs:=by rw [hR];show runW (zs.take qs.length) = _;rw [← hzl,List.take_length]
   obtain ⟨k1,k2,k3,_⟩:=runW_spec _ zs rfl hzz
   rw [hRL]
   obtain ⟨W,hW⟩:∃ W,W = runW zs:=⟨_,rfl⟩
   rw [← hW] at k1 k2 k3 ⊢
   have hdel:=a_DeleteFuncTe eTeT (fun z => .tag z.2.1 (.sl 1 (z.1.2.1.map eL))) (fun z => .tag z.2.2 (.sl 1 (z.1.2.2.map eL))) (·.1.1) (·.1.2.1) (·.1.2.2) (fun z => decide (z.1.1 = 0)) 107 (fun _ => rfl) (fun _ => rfl) (fun _ => rfl) (fun z => a_copro2 z.1.1 z.1.2.1 z.1.2.2) W (by omega)
   have hx:sumS cmpTe (copM e) = (keepF (fun z:TeT => decide (z.1.1 = 0)) W).map (·.1):=by
    have hperm2:(zs.map (·.1)).Perm (copM e):=by rw [← hJ.eq];exact hperm.map _
    rw [← merge_sum cmpTe_cmp hperm2 (List.pairwise_map.2 hsort) (fun q hq => (hMok q hq).1),← k1,List.filter_map]
    rfl
   have hsub:(keepF (fun z:TeT => decide (z.1.1 = 0)) W).Sublist W:=List.filter_sublist
   have hbl:((keepF (fun z:TeT => decide (z.1.1 = 0)) W).map blT).flatten.Sublist ((zs.map blT).flatten):=sub_flat3 ((hsub.map _).trans k2)
   have hp2:=(hperm.map blT).flatten
   obtain ⟨K,hK⟩:∃ K,K = keepF (fun z:TeT => decide (z.1.1 = 0)) W:=⟨_,rfl⟩
   rw [← hK] at hdel hx hbl
   have hlen:(sumS cmpTe (copM e)).length = K.length:=by rw [hx,List.length_map]
   by_cases h6:K.length ≤ 600
   ·have hco:copOf e = (sumS cmpTe (copM e),0):=by unfold copOf;rw [if_pos hE,if_pos (by omega)]
    have j1:((K.length:Int) > 600) = False:=eq_false (by omega)
    rw [hco]
    repeat' (first|with_reducible (first|refine Q1 ?_|refine Q2 ?_|refine Q3 ?_|refine Q4 ?_|refine Q5 ?_|refine Q6 ?_|refine Q7 ?_|refine Q8 ?_|refine Q9 ?_|refine Qa ?_|refine Qb ?_|refine Qc ?_|refine Qd ?_|refine Qe ?_|refine Qf ?_)|((with_reducible refine Qo ?_ ?_);focus rfl)|((with_reducible first|refine QT 56 (l:=?_) ?_ ?_|refine QF 56 (l:=?_) ?_ ?_);rotate_left 1;focus (simp only [Zu,Nat.reduceSub,Nat.reduceBEq];with_reducible rfl))|((with_reducible first|refine QS (cfg_ok 100) (Tab.none.own' 106 0 hdel) (s':=?_) ?_ ?_|refine QC (b:=?_) ?_ ?_);rotate_left 1;focus ((with_reducible refine QW ?_);simp only [Zg,seval,Nat.reduceEqDiff,Tab.own',atOwn_eq,List.length_map,j1];with_reducible rfl))|((with_reducible refine QD (cfg_ok 100) (Tab.none.own' 106 0 hdel) mixed_ok (tr:=?_) (s':=?_) ?_ ?_ ?_);rotate_left 2;(focus ((with_reducible refine QW ?_);simp only [Zg,Zd,seval,if_true,if_false,reduceCtorEq,Nat.reduceEqDiff,Tab.own',atOwn_eq,List.length_map,j1];with_reducible rfl));focus ((with_reducible refine QK ?_);simp only [Zk];kernel_rfl)))
    refine Ends.un (by simp) hres hrts (r:=?_) (r':=.own 3 ((sumS cmpTe (copM e)).map eTe) true) (l:=[.val (.int 0)]) (ks:=?_) ?_ ?_ (by simp [isSl]) ?_ rfl
    rotate_left 2
    focus (simp only [aresults,ares,Zg,seval,Nat.reduceEqDiff];with_reducible rfl)
    focus simp
    rw [hx]
    refine ⟨(K.map blT).flatten,?_,fun b hb => hJ.mi b ?_,.inl ⟨3,_,_,rfl,rfl,tag_mkT _⟩⟩
    ·exact (hp2.nodup_iff.2 hJ.nd).sublist hbl
    ·exact hp2.mem_iff.1 (hbl.subset hb)
   ·have hco:copOf e = ([],3):=by unfold copOf;rw [if_pos hE,if_neg (by omega)]
    have j1:((K.length:Int) > 600) = True:=eq_true (by omega)
    rw [hco]
    repeat' (first|with_reducible (first|refine Q1 ?_|refine Q2 ?_|refine Q3 ?_|refine Q4 ?_|refine Q5 ?_|refine Q6 ?_|refine Q7 ?_|refine Q8 ?_|refine Q9 ?_|refine Qa ?_|refine Qb ?_|refine Qc ?_|refine Qd ?_|refine Qe ?_|refine Qf ?_)|((with_reducible refine Qo ?_ ?_);focus rfl)|((with_reducible first|refine QT 56 (l:=?_) ?_ ?_|refine QF 56 (l:=?_) ?_ ?_);rotate_left 1;focus (simp only [Zu,Nat.reduceSub,Nat.reduceBEq];with_reducible rfl))|((with_reducible first|refine QS (cfg_ok 100) (Tab.none.own' 106 0 hdel) (s':=?_) ?_ ?_|refine QC (b:=?_) ?_ ?_);rotate_left 1;focus ((with_reducible refine QW ?_);simp only [Zg,seval,Nat.reduceEqDiff,Tab.own',atOwn_eq,List.length_map,j1];with_reducible rfl))|((with_reducible refine QD (cfg_ok 100) (Tab.none.own' 106 0 hdel) mixed_ok (tr:=?_) (s':=?_) ?_ ?_ ?_);rotate_left 2;(focus ((with_reducible refine QW ?_);simp only [Zg,Zd,seval,if_true,if_false,reduceCtorEq,Nat.reduceEqDiff,Tab.own',atOwn_eq,List.length_map,j1];with_reducible rfl));focus ((with_reducible refine QK ?_);simp only [Zk];kernel_rfl)))
    (refine Ends.mk (by simp) (rs:=?_) (ks:=?_) hres hrts ?_ ?_ ?_;rotate_left 2;(focus (simp only [Ze,Zg,seval,Nat.reduceEqDiff];with_reducible rfl));(focus simp);focus (first|with_reducible rfl|(simp only [Zv];done)))
end Go.Proofs.YtgngidchldajhaaGreat
namespace Go.Proofs.YtgngidchldajhaaGreat
open Go.RowKit
theorem AFn.of_v {P:Program} {f:FuncId} {ds:List (List D)} {d:D} {v:Value} (eg:∀ args w,(callFunc f args).run P w = .ok (.enter f args) w) (hd:∀ A w,rdV A w v d)
  (h:∀ (w:World) (A:Nat→Prop) vs,relArgs A w ds vs→Calls P f vs.toArray w (RetV w v)):AFn P f ds (· = [.val d]):=by
 refine ⟨eg,fun A w vs hA hv => (h w A vs hv).mono ?_⟩
 rintro e w' ⟨rfl,hb⟩
 exact ⟨v,_,rfl,rfl,hb,[v],[],[],rfl,List.nodup_nil,by simp,v,[],[],[],[],[],rfl,rfl,rfl,(hd (fun _ => True) w).one,⟨hd _ _,rfl,rfl⟩,rfl,rfl,rfl⟩
end Go.Proofs.YtgngidchldajhaaGreat
namespace Go.Proofs.YtgngidchldajhaaGreat
open Go.RowKit
theorem ChgF.cell {F:List Nat} {w w':World} (h:ChgF F w w') {g off:Nat} (hg:g < w.heap.size) (hn:g ∉ F):w'.cell? ⟨g,off,none⟩ = w.cell? ⟨g,off,none⟩:=by
 have:=h.block g hg hn
 simp only [World.cell?,this]
section
variable {β γ:Type} {S:Rep β} {T:Rep γ} {w:World}
end
end Go.Proofs.YtgngidchldajhaaGreat
namespace Go.Proofs.YtgngidchldajhaaGreat
open Go.RowKit
section
variable {β γ:Type} {S:Rep β} {T:Rep γ} {w:World}
theorem OwnF.at4 {v:Value} {xs:List (Int × (β × γ))} {F:List Nat} (h:OwnF (RS (RP RI (RP S T))) F w [v] xs) (hS:S.k = 1) (hT:T.k = 1) (i:Nat) (hi:i < xs.length) :
  ∃ g cap s t G1 G2,v = .slice (some ⟨g,0,none⟩) xs.length cap∧xs.length ≤ cap∧cap ≤ 9223372036854775807∧g < w.heap.size∧w.cell? ⟨g,i * 3,none⟩ = some (.int .i64 xs[i].1)∧w.cell? ⟨g,i * 3 + 1,none⟩ = some s∧w.cell? ⟨g,i * 3 + 2,none⟩ = some t∧w.frozen? ⟨g,i * 3,none⟩ = false ∧
   OwnF S G1 w [s] xs[i].2.1∧OwnF T G2 w [t] xs[i].2.2∧(∀ b,b ∈ G1→b ∈ F∧b ≠ g)∧(∀ b,b ∈ G2→b ∈ F∧b ≠ g)∧(∀ b,b ∈ G1→b ∉ G2) ∧
   (∀ (w':World) (y:β) (z:γ),OwnF S G1 w' [s] y→OwnF T G2 w' [t] z→ChgF (G1 ++ G2) w w'→OwnF (RS (RP RI (RP S T))) F w' [v] (xs.set i (xs[i].1,(y,z)))∧ChgF F w w') ∧
   (∀ n,In64 n→OwnF (RS (RP RI (RP S T))) F (w.setCell ⟨g,i * 3,none⟩ (.int .i64 n)) [v] (xs.set i (n,xs[i].2))∧ChgF F w (w.setCell ⟨g,i * 3,none⟩ (.int .i64 n))):=by
 have hlt:=h.lt
 have hnd:=h.2
 have hk3:(RP RI (RP S T)).k = 3:=by show 1 + (S.k + T.k) = 3;omega
 obtain ⟨g,cap,d1,c,d2,F1,G0,F2,hv,hc1,hc2,rfl,hcl,hd1,hx,hrow,hK⟩:=h.lens i hi
 rw [hk3] at hd1 hrow
 have hx0:=hx
 obtain ⟨c3,c12,G3,G12,rfl,rfl,⟨⟨rfl,hb⟩,rfl⟩,c1,c2,G1,G2,rfl,rfl,hs,ht⟩:=hx0
 have hsl:=S.rd_len (S.own_rd hs)
 have htl:=T.rd_len (T.own_rd ht)
 rw [hS] at hsl
 rw [hT] at htl
 match c1,hsl,c2,htl with
 | [s],_,[t],_ =>
 simp only [List.nil_append] at *
 have hn1:=List.nodup_cons.1 hnd
 have hn2:=List.nodup_append.1 hn1.2
 have hn3:=List.nodup_append.1 hn2.2.1
 have hn4:=List.nodup_append.1 hn3.1
 have e1:d1 ++ (([Value.int IntKind.i64 xs[i].1] ++ ([s] ++ [t])) ++ d2) = d1 ++ (Value.int IntKind.i64 xs[i].1 :: s :: t :: d2):=by simp
 have g1:w.cell? ⟨g,i * 3,none⟩ = some (.int .i64 xs[i].1):=hrow.cells (i * 3) _ (by rw [e1,List.getElem?_append_right (by omega),hd1];simp)
 have g2:w.cell? ⟨g,i * 3 + 1,none⟩ = some s:=hrow.cells (i * 3 + 1) _ (by rw [e1,List.getElem?_append_right (by omega),hd1];simp)
 have g3:w.cell? ⟨g,i * 3 + 2,none⟩ = some t:=hrow.cells (i * 3 + 2) _ (by rw [e1,List.getElem?_append_right (by omega),hd1];simp)
 have hG1F:∀ b,b ∈ G1→b ∈ g :: (F1 ++ (G1 ++ G2 ++ F2))∧b ≠ g:=fun b hb => ⟨by simp [hb],fun e => hn1.1 (by subst e;simp [hb])⟩
 have hG2F:∀ b,b ∈ G2→b ∈ g :: (F1 ++ (G1 ++ G2 ++ F2))∧b ≠ g:=fun b hb => ⟨by simp [hb],fun e => hn1.1 (by subst e;simp [hb])⟩
 refine ⟨g,cap,s,t,G1,G2,hv,hc1,hc2,hlt g (by simp),g1,g2,g3,hrow.frozen _,⟨hs,hn4.1⟩,⟨ht,hn4.2.1⟩,hG1F,hG2F,fun b hb hb' => hn4.2.2 b hb b hb' rfl,?_,?_⟩
 ·intro w' y z hy hz hch
  have hfr:∀ b,b ∈ F1 ++ F2→w'.heap[b]? = w.heap[b]?:=by
   intro b hm
   refine hch.block b (hlt b ?_) ?_
   ·rcases List.mem_append.1 hm with hm|hm
    ·simp [hm]
    ·simp [hm]
   ·intro hG
    rcases List.mem_append.1 hm with hm|hm
    ·exact hn2.2.2 b hm b (List.mem_append_left _ hG) rfl
    ·exact hn3.2.2 b hG b hm rfl
  have hgn:g ∉ G1 ++ G2:=fun hg => by
   rcases List.mem_append.1 hg with hg|hg
   ·exact (hG1F g hg).2 rfl
   ·exact (hG2F g hg).2 rfl
  have hrow':Row w' v 3 xs.length (d1 ++ (([Value.int IntKind.i64 xs[i].1] ++ ([s] ++ [t])) ++ d2)) (some g):=hrow.frame (fun g' hg' => by cases hg';exact hch.block g (hlt g (by simp)) hgn)
  refine ⟨hK _ ([.int .i64 xs[i].1] ++ ([s] ++ [t])) (xs[i].1,(y,z)) (G1 ++ G2) (by rw [hk3];rfl) ⟨[.int .i64 xs[i].1],[s] ++ [t],[],G1 ++ G2,rfl,by simp,⟨⟨rfl,hb⟩,rfl⟩,[s],[t],G1,G2,rfl,rfl,hy.1,hz.1⟩ hfr (by rw [hk3];exact hrow') hnd,hch.mono (fun b hb => ?_)⟩
  rcases List.mem_append.1 hb with hb|hb
  ·exact (hG1F b hb).1
  ·exact (hG2F b hb).1
 ·intro n hn
  obtain ⟨hst,hgr⟩:=hrow.store (i * 3) (.int .i64 n)
  have hset:(d1 ++ (([Value.int IntKind.i64 xs[i].1] ++ ([s] ++ [t])) ++ d2)).set (i * 3) (.int .i64 n) = d1 ++ (([Value.int IntKind.i64 n] ++ ([s] ++ [t])) ++ d2):=by
   rw [List.set_append_right _ _ (by omega),hd1,Nat.sub_self];rfl
  rw [hset] at hst
  have hfr:∀ b,b ≠ g→(w.setCell ⟨g,i * 3,none⟩ (.int .i64 n)).heap[b]? = w.heap[b]?:=fun b hb => heap_setCell_other w ⟨g,i * 3,none⟩ b _ hb
  refine ⟨hK _ ([.int .i64 n] ++ ([s] ++ [t])) (n,xs[i].2) (G1 ++ G2) (by rw [hk3];rfl) ⟨[.int .i64 n],[s] ++ [t],[],G1 ++ G2,rfl,by simp,⟨⟨rfl,hn⟩,rfl⟩,[s],[t],G1,G2,rfl,rfl,S.own_frame hs (fun b hb => hfr b (hG1F b hb).2),T.own_frame ht (fun b hb => hfr b (hG2F b hb).2)⟩ (fun b hb => hfr b ?_) (by rw [hk3];exact hst) hnd,(ChgF.of_grown hgr).mono (fun b hb => by simp at hb;simp [hb])⟩
  intro e
  subst e
  rcases List.mem_append.1 hb with h|h
  ·exact hn1.1 (by simp [h])
  ·exact hn1.1 (by simp [h])
end
end Go.Proofs.YtgngidchldajhaaGreat
namespace Go.Proofs.YtgngidchldajhaaGreat
open Go.RowKit
abbrev RTensor:Rep (Int × (List (List Int) × List (List Int))):=RP RI (RP (RS (RS RI)) (RS (RS RI)))
theorem encTe:Enc RTensor eTe:=encP encI (encP (encS (encS encI)) (encS (encS encI)))
theorem arg_T {w:World} {u:Value} {xs:List (Int × (List (List Int) × List (List Int)))} (h:Rd (RS RTensor) w [u] xs):relArg (· < w.heap.size) w [.sl 3 (xs.map eTe)] u:=((encS encTe).rdV (x:=xs) rfl).1 h
def cnt_T:List (Int × (List (List Int) × List (List Int)))→Nat
 | [] => 0
 | p :: ps => cnt_II p.2.1 + cnt_II p.2.2 + 1 + cnt_T ps
def mkd_T:List (Int × (List (List Int) × List (List Int)))→Int→List (Int × (List (List Int) × List (List Int)))
 | [],_ => []
 | p :: ps,k => (k,(mkd_II p.2.1 (k + 1),mkd_II p.2.2 (k + 1 + cnt_II p.2.1))) :: mkd_T ps (k + 1 + cnt_II p.2.1 + cnt_II p.2.2)
theorem mkd_T_len:∀ (ps:List (Int × (List (List Int) × List (List Int)))) (k:Int),(mkd_T ps k).length = ps.length
 | [],_ => rfl
 | p :: ps,k => by simp [mkd_T,mkd_T_len ps]
theorem mkd_T_get:∀ (ps:List (Int × (List (List Int) × List (List Int)))) (k:Int) (i:Nat) (h:i < ps.length),(mkd_T ps k)[i]'(by rw [mkd_T_len];exact h) = (k + cnt_T (ps.take i),(mkd_II ps[i].2.1 (k + cnt_T (ps.take i) + 1),mkd_II ps[i].2.2 (k + cnt_T (ps.take i) + 1 + cnt_II ps[i].2.1)))
 | p :: ps,k,0,h => by simp [mkd_T,cnt_T]
 | p :: ps,k,i + 1,h => by
  simp only [mkd_T,List.getElem_cons_succ,List.take_succ_cons]
  rw [mkd_T_get ps _ i (by simpa using h)]
  simp only [cnt_T]
  have e:k + 1 + (cnt_II p.2.1:Int) + (cnt_II p.2.2:Int) + (cnt_T (ps.take i):Nat) = k + ((cnt_II p.2.1 + cnt_II p.2.2 + 1 + cnt_T (ps.take i):Nat):Int):=by omega
  rw [e]
theorem cnt_T_append:∀ (ps qs:List (Int × (List (List Int) × List (List Int)))),cnt_T (ps ++ qs) = cnt_T ps + cnt_T qs
 | [],qs => by simp [cnt_T]
 | p :: ps,qs => by simp only [List.cons_append,cnt_T,cnt_T_append ps qs];omega
theorem cnt_T_take_succ (ps:List (Int × (List (List Int) × List (List Int)))) (k:Nat) (h:k < ps.length):cnt_T (ps.take (k + 1)) = cnt_T (ps.take k) + (cnt_II ps[k].2.1 + cnt_II ps[k].2.2 + 1):=by
 rw [List.take_succ_eq_append_getElem h,cnt_T_append];simp [cnt_T]
theorem cnt_T_take (ps:List (Int × (List (List Int) × List (List Int)))) (k:Nat):cnt_T (ps.take k) ≤ cnt_T ps:=by
 have:cnt_T (ps.take k ++ ps.drop k) = cnt_T ps:=by rw [List.take_append_drop]
 rw [cnt_T_append] at this
 omega
set_option maxRecDepth 100000 in
set_option maxHeartbeats 2000000 in
theorem markF_T (v:Value) (xs:List (Int × (List (List Int) × List (List Int)))) (F:List Nat) (k0:Int) (w:World) (h:OwnF (RS RTensor) F w [v] xs) (hk0:0 ≤ k0) (hk:k0 + cnt_T xs ≤ 4611686018427387904) :
  Calls Tryz.prog 39 #[v,.int .i64 k0] w fun e w' => e = .returned (.int .i64 (k0 + (cnt_T xs:Nat)))∧OwnF (RS RTensor) F w' [v] (mkd_T xs k0)∧ChgF F w w':=by
 obtain ⟨oa,cap,rfl,m1,m2⟩:=h.rd.val
 unfold maxLen at m2
 have H0:=Lib.hid h
 clear h
 go_enter Tryz.func39,Tryz.ntmps39
 go_wp2_with fail
 go_loopw [1,5] (fun q i wr => ∃ (k:Nat) (z:List (Int × (List (List Int) × List (List Int)))),k ≤ xs.length∧i = .int .i64 k∧q = .int .i64 (k0 + (cnt_T (xs.take k):Nat))∧Hid (z = (mkd_T xs k0).take k ++ xs.drop k)∧Hid (OwnF (RS RTensor) F wr [.slice oa xs.length cap] z∧ChgF F w wr)) (fun _ i _ => xs.length - (intOf i).toNat)
 case atStart => exact ⟨0,xs,Nat.zero_le _,rfl,by simp [cnt_T],Lib.hid (by simp),Lib.hid ⟨H0.out,ChgF.refl _ _⟩⟩
 case round =>
  obtain ⟨k,z,hkl,rfl,rfl,hz,hown⟩:=hrel
  clear H0
  by_cases hlt:k < xs.length
  ·have hml:=mkd_T_len xs k0
   have hzl:z.length = xs.length:=by rw [hz.out];simp [hml];omega
   obtain ⟨g,cap',s0,t0,G10,G20,hv,-,-,-,g1,-,-,hfz,-,-,-,-,-,-,hNUM⟩:=hown.out.1.at4 rfl rfl k (by omega)
   rw [hzl] at hv
   simp only [Value.slice.injEq,true_and] at hv
   obtain ⟨rfl,rfl⟩:=hv
   have hzk:z[k]'(by omega) = xs[k]:=by
    simp only [hz.out]
    rw [List.getElem_append_right (by simp [hml];omega)]
    simp [List.getElem_drop,hml]
    congr 1;omega
   have hst:=cnt_T_take_succ xs k hlt
   have hle:=cnt_T_take xs (k + 1)
   have hmk:=mkd_T_get xs k0 k hlt
   obtain ⟨n,hn⟩:∃ n,n = cnt_T (xs.take k):=⟨_,rfl⟩
   rw [← hn] at hst hmk
   rw [← hn]
   have hset:z.set k (k0 + (n:Int),(mkd_II xs[k].2.1 (k0 + n + 1),mkd_II xs[k].2.2 (k0 + n + 1 + cnt_II xs[k].2.1))) = (mkd_T xs k0).take (k + 1) ++ xs.drop (k + 1):=by
    rw [hz.out,List.set_append_right _ _ (by simp [hml];omega)]
    have e:k - ((mkd_T xs k0).take k).length = 0:=by simp [hml];omega
    rw [e,List.drop_eq_getElem_cons hlt,List.set_cons_zero,List.take_succ_eq_append_getElem (by rw [hml];exact hlt),hmk]
    simp
   obtain ⟨f1,f2⟩:=hNUM (k0 + n) (by unfold In64;omega)
   obtain ⟨W1,hW1⟩:∃ W1,W1 = wr.setCell ⟨g,k * 3,none⟩ (.int .i64 (k0 + n)):=⟨_,rfl⟩
   rw [← hW1] at f1 f2
   have hzl2:(z.set k (k0 + (n:Int),z[k].2)).length = xs.length:=by rw [List.length_set,hzl]
   obtain ⟨g',cap',s,t,G1,G2,hv',-,-,hgl,-,g2,g3,-,hGs,hGt,hG1F,hG2F,hdis,hUP,-⟩:=f1.at4 rfl rfl k (by omega)
   rw [hzl2] at hv'
   simp only [Value.slice.injEq,Option.some.injEq,Addr.mk.injEq,and_true,true_and] at hv'
   obtain ⟨rfl,rfl⟩:=hv'
   have hzk2:z[k].2 = xs[k].2:=by rw [hzk]
   simp only [List.getElem_set_self] at hGs hGt hUP
   rw [hzk2] at hGs hGt hUP
   obtain ⟨pf,hpf⟩:∃ pf,pf = xs[k].2.1:=⟨_,rfl⟩
   obtain ⟨pt,hpt⟩:∃ pt,pt = xs[k].2.2:=⟨_,rfl⟩
   rw [← hpf,← hpt] at hset hst
   rw [← hpf] at hGs
   rw [← hpt] at hGt
   obtain ⟨os,cs,rfl,q1,q2⟩:=hGs.rd.val
   obtain ⟨ot,ct,rfl,q3,q4⟩:=hGt.rd.val
   have hmkF:=markF_II _ pf G1 (k0 + n + 1) W1 hGs (by omega) (by omega)
   have hne1:(⟨g,k * 3,none⟩:Addr) ≠ ⟨g,k * 3 + 1,none⟩:=by intro h;injection h;omega
   have hne2:(⟨g,k * 3,none⟩:Addr) ≠ ⟨g,k * 3 + 2,none⟩:=by intro h;injection h;omega
   have g2r:wr.cell? ⟨g,k * 3 + 1,none⟩ = some (.slice os pf.length cs):=by rw [← g2,hW1,World.cell?_setCell_other _ _ _ _ hne1]
   have g3r:wr.cell? ⟨g,k * 3 + 2,none⟩ = some (.slice ot pt.length ct):=by rw [← g3,hW1,World.cell?_setCell_other _ _ _ _ hne2]
   obtain ⟨cf,hcf⟩:∃ cf,cf = cnt_II pf:=⟨_,rfl⟩
   obtain ⟨cu,hcu⟩:∃ cu,cu = cnt_II pt:=⟨_,rfl⟩
   rw [← hcf] at hmkF
   rw [← hcf,← hcu] at hst
   rw [← hcf] at hset
   have hmkT:∀ W,OwnF (RS (RS RI)) G2 W [.slice ot pt.length ct] pt→Calls Tryz.prog 110 #[.slice ot pt.length ct,.int .i64 (k0 + n + 1 + cf)] W fun e w' => e = .returned (.int .i64 (k0 + n + 1 + cf + (cu:Nat)))∧OwnF (RS (RS RI)) G2 w' [.slice ot pt.length ct] (mkd_II pt (k0 + n + 1 + cf))∧ChgF G2 W w':=fun W hW => by
    rw [hcu];exact markF_II _ pt G2 (k0 + n + 1 + cf) W hW (by omega) (by omega)
   have HMT:=Lib.hid hmkT
   have HUP:=Lib.hid hUP
   have HSET:=Lib.hid hset
   have HST:=Lib.hid hst
   have HGT:=Lib.hid hGt
   have HF2:=Lib.hid f2
   have HD:Hid (∀ b,b ∈ G1→b ∉ G2):=Lib.hid hdis
   have HN1:Hid (g ∉ G1∧g ∉ G2):=Lib.hid ⟨fun hg => (hG1F g hg).2 rfl,fun hg => (hG2F g hg).2 rfl⟩
   have HG2:Hid (∀ b ∈ G2,b < W1.heap.size):=Lib.hid hGt.lt
   have HGL:=Lib.hid hgl
   have HT2:=Lib.hid g3
   have HW1:=Lib.hid hW1
   have i1:(0:Int) ≤ (k:Int):=by omega
   have i2:(k:Int) < (xs.length:Int):=by omega
   have hw1:IntKind.i64.wrap (k0 + (n:Int)) = k0 + n:=IntWalk.i64_in _ (by omega)
   have hw2:IntKind.i64.wrap (k0 + (n:Int) + 1) = k0 + n + 1:=IntWalk.i64_in _ (by omega)
   obtain ⟨p1,hp1⟩:∃ p1,p1 = z[k].1:=⟨_,rfl⟩
   rw [← hp1] at g1
   rw [hW1] at hmkF
   clear hUP hset hst hmk hzk hzk2 hzl hzl2 hn hpf hpt hGs hGt hml hcf hcu hp1 hmkT hdis hG1F hG2F hNUM f1 f2 hW1 g2 g3 hne1 hne2
   go_wp2_with fail
   refine hmkF.mono ?_
   rintro e w2 ⟨rfl,hr2,hc2⟩
   rw [← HW1.out] at hc2
   have hT2:=HGT.out.frame (w':=w2) (fun b hb => hc2.block b (HG2.out b hb) (fun h1 => HD.out b h1 hb))
   have g3':w2.cell? ⟨g,k * 3 + 2,none⟩ = some (.slice ot pt.length ct):=(hc2.cell HGL.out HN1.out.1).trans HT2.out
   have HC2:=Lib.hid hc2
   have HR2:=Lib.hid hr2
   have hmk2:=HMT.out w2 hT2
   clear hmkF hr2 hc2 hT2 g1 g2r g3r
   go_wp2_with fail
   refine hmk2.mono ?_
   rintro e w3 ⟨rfl,hr3,hc3⟩
   have hr2':=HR2.out.frame (w':=w3) (fun b hb => hc3.block b (HR2.out.lt b hb) (HD.out b hb))
   obtain ⟨k1,k2⟩:=HUP.out w3 _ _ hr2' hr3 ((HC2.out.mono (fun b hb => List.mem_append_left _ hb)).trans (hc3.mono (fun b hb => List.mem_append_right _ hb)))
   rw [List.set_set] at k1
   rw [HSET.out] at k1
   have HF:Hid (OwnF (RS RTensor) F w3 [.slice (some ⟨g,0,none⟩) xs.length cap] ((mkd_T xs k0).take (k + 1) ++ xs.drop (k + 1))∧ChgF F w w3):=Lib.hid ⟨k1,hown.out.2.trans (HF2.out.trans k2)⟩
   clear k1 k2 hr2' hr3 hc3 hmk2
   go_wp2_with fail
   go_roundw
   case rel => exact ⟨k + 1,_,by omega,by go_num,by rw [HST.out];congr 1;omega,Lib.hid rfl,HF⟩
   case measure => simp [intOf] <;> omega
  ·have hfin:Hid (z = mkd_T xs k0):=Lib.hid (by rw [hz.out,List.take_of_length_le (by rw [mkd_T_len];omega),List.drop_of_length_le (by omega),List.append_nil])
   have hf2:xs.take k = xs:=List.take_of_length_le (by omega)
   rw [hf2]
   go_wp2_with fail
   go_ret
   exact ⟨rfl,hfin.out ▸ hown.out.1,hown.out.2⟩
theorem mark_T (v:Value) (xs:List (Int × (List (List Int) × List (List Int)))) (lo hi:Nat) (k0:Int) (w:World) (h:Own (RS RTensor) lo hi w [v] xs) (hk0:0 ≤ k0) (hk:k0 + cnt_T xs ≤ 4611686018427387904) :
  Calls Tryz.prog 39 #[v,.int .i64 k0] w fun e w' => e = .returned (.int .i64 (k0 + (cnt_T xs:Nat)))∧Own (RS RTensor) lo hi w' [v] (mkd_T xs k0)∧Chg lo hi w w':=by
 obtain ⟨F,hF,hb⟩:=OwnF.of h
 refine (markF_T v xs F k0 w hF hk0 hk).mono ?_
 rintro e w' ⟨rfl,h1,h2⟩
 exact ⟨rfl,h1.to hb,⟨h2.os,h2.tape,h2.output,h2.size,fun k hk hne => h2.block k hk (fun e => by have:=hb k e;omega)⟩⟩
noncomputable def TEqT:Tab Tryz.prog :=
 (Tab.none.add 177 (tab2 codLL codLL fun f g => if f = g then some [.val (.bool true)] else none) (tab2_ok fun f g rs h => by
  split at h
  ·rename_i e;subst e;cases h
   exact AFn.of_v (v:=.bool true) (enters_of Tryz.func177 rfl rfl) (fun _ _ => rdV_bool.2 rfl) (fun w A vs ⟨v1,_,e1,h1,v2,_,e2,h2,e3⟩ => by subst e3;subst e2;subst e1;exact eqv_II v1 v2 f w (Rd.of (rdLL h1)) (Rd.of (rdLL h2)))
  ·cases h)).add 237 (tab2 codL codL fun f g => if f = g then some [.val (.bool true)] else none) (tab2_ok fun f g rs h => by
  split at h
  ·rename_i e;subst e;cases h
   exact AFn.of_v (v:=.bool true) (enters_of Tryz.func237 rfl rfl) (fun _ _ => rdV_bool.2 rfl) (fun w A vs ⟨v1,_,e1,h1,v2,_,e2,h2,e3⟩ => by subst e3;subst e2;subst e1;exact eqv_I v1 v2 f w (Rd.of (rd1 h1)) (Rd.of (rd1 h2)))
  ·cases h)
theorem a_eqTensor (c:Int × (List (List Int) × List (List Int))):AFn Tryz.prog 108 [eTe c,eTe c] (· = [.val (.bool true)]):=by
 obtain ⟨n,⟨f,g⟩⟩:=c
 have hn:(n != n) = false:=by simp
 refine AFn.of_runs (cfg_ok 22) Tryz.func108 rfl rfl rfl (by simp only [List.length_cons,List.length_nil];decide) ?_
 have hres:Tryz.f108.results.toList = [.tmp 4]:=rfl
 have hrts:Tryz.f108.resultTypes.toList = [4]:=rfl
 simp only [argRegs,argAV1,Nat.zero_add,eTe]
 intro M
 refine RunK.of ?_
 repeat' (first|with_reducible (first|refine Q1 ?_|refine Q2 ?_|refine Q3 ?_|refine Q4 ?_|refine Q5 ?_|refine Q6 ?_|refine Q7 ?_|refine Q8 ?_|refine Q9 ?_|refine Qa ?_|refine Qb ?_|refine Qc ?_|refine Qd ?_|refine Qe ?_|refine Qf ?_)|((with_reducible refine Qo ?_ ?_);focus rfl)|((with_reducible first|refine QT 5 (l:=?_) ?_ ?_|refine QF 5 (l:=?_) ?_ ?_);rotate_left 1;focus (simp only [Zu,Nat.reduceSub,Nat.reduceBEq];with_reducible rfl))|((with_reducible first|refine QS (cfg_ok 22) TEqT (s':=?_) ?_ ?_|refine QC (b:=?_) ?_ ?_);rotate_left 1;focus ((with_reducible refine QW ?_);simp only [Zg,seval,Nat.reduceEqDiff,TEqT,TEqT,eq_self];with_reducible rfl)))
 (refine Ends.mk (by simp) (rs:=?_) (ks:=?_) hres hrts ?_ ?_ ?_;rotate_left 2;(focus (simp only [Ze,Zg,seval,Nat.reduceEqDiff];with_reducible rfl));(focus simp);focus (first|with_reducible rfl|(simp only [Zv];done)))
theorem a_eqTensorS (xs:List (Int × (List (List Int) × List (List Int)))) (hl:xs.length ≤ maxLen):AFn Tryz.prog 36 [[.sl 3 (xs.map eTe)],[.sl 3 (xs.map eTe)]] (· = [.val (.bool true)]):=by
 unfold maxLen at hl
 have hle:(xs.map eTe).length = xs.length:=List.length_map _
 have hne:((xs.length:Int) != (xs.length:Int)) = false:=by simp
 refine AFn.of_runs (cfg_ok 27) Tryz.func36 rfl rfl rfl (by simp only [List.length_cons,List.length_nil];decide) ?_
 have hres:Tryz.f36.results.toList = [.tmp 4]:=rfl
 have hrts:Tryz.f36.resultTypes.toList = [4]:=rfl
 simp only [argRegs,argAV1,Nat.zero_add]
 intro M
 refine RunK.of ?_
 repeat' (first|with_reducible (first|refine Q1 ?_|refine Q2 ?_|refine Q3 ?_|refine Q4 ?_|refine Q5 ?_|refine Q6 ?_|refine Q7 ?_|refine Q8 ?_|refine Q9 ?_|refine Qa ?_|refine Qb ?_|refine Qc ?_|refine Qd ?_|refine Qe ?_|refine Qf ?_)|((with_reducible refine Qo ?_ ?_);focus rfl)|((with_reducible first|refine QT 6 (l:=?_) ?_ ?_|refine QF 6 (l:=?_) ?_ ?_);rotate_left 1;focus (simp only [Zu,Nat.reduceSub,Nat.reduceBEq];with_reducible rfl))|((with_reducible first|refine QS (cfg_ok 27) Tab.none (s':=?_) ?_ ?_|refine QC (b:=?_) ?_ ?_);rotate_left 1;focus ((with_reducible refine QW ?_);simp only [Zg,seval,Nat.reduceEqDiff,hle];with_reducible rfl))|((with_reducible refine QD (cfg_ok 27) Tab.none mixed_ok (tr:=?_) (s':=?_) ?_ ?_ ?_);rotate_left 2;(focus ((with_reducible refine QW ?_);simp only [Zg,Zd,seval,if_true,if_false,reduceCtorEq,Nat.reduceEqDiff,hle,hne];with_reducible rfl));focus ((with_reducible refine QK ?_);simp only [Zk];kernel_rfl)))
 refine RunK.loop (β:=Nat) (γ:=Unit) (fun i => ⟨[(0,.c (.val (.sl 3 (xs.map eTe)))),(1,.c (.val (.sl 3 (xs.map eTe)))),(5,.c (.val (.int i)))],[]⟩) (fun i => i ≤ xs.length) (fun i => xs.length - i)
  (fun _ => ⟨[],[]⟩) (fun _ => True) 0 (Nat.zero_le _) ?_ ?_ ?_
 ·(repeat' (first|with_reducible refine Qn|((with_reducible refine Qr ?_ ?_);focus (first|with_reducible rfl|(simp only [Zz,Nat.reduceBEq,Int.natCast_zero];done)|rfl))|((with_reducible refine Qj (o':=?_) ?_ ?_ ?_);rotate_left 1;focus rfl)|((with_reducible refine Qw ?_ ?_);(focus (first|with_reducible rfl|(simp only [Zv,Int.natCast_zero];done)));focus (first|exact id|exact (fun h => nomatch h)|exact (fun _ => rfl)))))
 ·intro i hi
  have hi:i ≤ xs.length:=hi
  by_cases h:i < xs.length
  ·have hw:=w64_succ (n:=i) (by omega)
   have i1:((i:Int) < (xs.length:Int)) = True:=eq_true (by omega)
   have i2:((0:Int) ≤ (i:Int)) = True:=eq_true (by omega)
   obtain ⟨c,hc⟩:∃ c,c = xs[i]:=⟨_,rfl⟩
   have hg:(xs.map eTe)[i]? = some (eTe c):=by rw [map_get h,hc]
   have hq:=a_eqTensor c
   obtain ⟨n,⟨f,g⟩⟩:=c
   simp only [eTe] at hg hq
   repeat' (first|with_reducible (first|refine Q1 ?_|refine Q2 ?_|refine Q3 ?_|refine Q4 ?_|refine Q5 ?_|refine Q6 ?_|refine Q7 ?_|refine Q8 ?_|refine Q9 ?_|refine Qa ?_|refine Qb ?_|refine Qc ?_|refine Qd ?_|refine Qe ?_|refine Qf ?_)|((with_reducible refine Qo ?_ ?_);focus rfl)|((with_reducible first|refine QT 6 (l:=?_) ?_ ?_|refine QF 6 (l:=?_) ?_ ?_);rotate_left 1;focus (simp only [Zu,Nat.reduceSub,Nat.reduceBEq];with_reducible rfl))|((with_reducible first|refine QS (cfg_ok 27) (Tab.none.at' 108 hq) (s':=?_) ?_ ?_|refine QC (b:=?_) ?_ ?_);rotate_left 1;focus ((with_reducible refine QW ?_);simp only [Zg,seval,Nat.reduceEqDiff,hle,i1,hw];with_reducible rfl))|((with_reducible refine QD (cfg_ok 27) (Tab.none.at' 108 hq) mixed_ok (tr:=?_) (s':=?_) ?_ ?_ ?_);rotate_left 2;(focus ((with_reducible refine QW ?_);simp only [Zg,Zd,seval,Nat.reduceEqDiff,hle,i1,i2,hg,Int.toNat_natCast];with_reducible rfl));focus ((with_reducible refine QK ?_);simp only [Zk];kernel_rfl)))
   refine roundK.on (i + 1) ⟨h,by omega⟩ ?_
   (repeat' (first|with_reducible refine Qn|((with_reducible refine Qr ?_ ?_);focus (first|with_reducible rfl|(simp only [Zz,Nat.reduceBEq];done)|rfl))|((with_reducible refine Qj (o':=?_) ?_ ?_ ?_);rotate_left 1;focus rfl)|((with_reducible refine Qw ?_ ?_);(focus (first|with_reducible rfl|(simp only [Zv];done)));focus (first|exact id|exact (fun h => nomatch h)|exact (fun _ => rfl)))))
  ·have i1:((i:Int) < (xs.length:Int)) = False:=eq_false (by omega)
   repeat' (first|with_reducible (first|refine Q1 ?_|refine Q2 ?_|refine Q3 ?_|refine Q4 ?_|refine Q5 ?_|refine Q6 ?_|refine Q7 ?_|refine Q8 ?_|refine Q9 ?_|refine Qa ?_|refine Qb ?_|refine Qc ?_|refine Qd ?_|refine Qe ?_|refine Qf ?_)|((with_reducible refine Qo ?_ ?_);focus rfl)|((with_reducible first|refine QT 6 (l:=?_) ?_ ?_|refine QF 6 (l:=?_) ?_ ?_);rotate_left 1;focus (simp only [Zu,Nat.reduceSub,Nat.reduceBEq];with_reducible rfl))|((with_reducible first|refine QS (cfg_ok 27) Tab.none (s':=?_) ?_ ?_|refine QC (b:=?_) ?_ ?_);rotate_left 1;focus ((with_reducible refine QW ?_);simp only [Zg,seval,Nat.reduceEqDiff,hle,i1];with_reducible rfl))|((with_reducible refine QD (cfg_ok 27) Tab.none mixed_ok (tr:=?_) (s':=?_) ?_ ?_ ?_);rotate_left 2;(focus ((with_reducible refine QW ?_);simp only [Zg,Zd,seval,if_true,if_false,reduceCtorEq,Nat.reduceEqDiff,hle,i1];with_reducible rfl));focus ((with_reducible refine QK ?_);simp only [Zk];kernel_rfl)))
   refine roundK.out () trivial ?_
   (repeat' (first|with_reducible refine Qn|((with_reducible refine Qr ?_ ?_);focus (first|with_reducible rfl|(simp only [Zz,Nat.reduceBEq];done)|rfl))|((with_reducible refine Qj (o':=?_) ?_ ?_ ?_);rotate_left 1;focus rfl)|((with_reducible refine Qw ?_ ?_);(focus (first|with_reducible rfl|(simp only [Zv];done)));focus (first|exact id|exact (fun h => nomatch h)|exact (fun _ => rfl)))))
 ·rintro _ _
  repeat' (first|with_reducible (first|refine Q1 ?_|refine Q2 ?_|refine Q3 ?_|refine Q4 ?_|refine Q5 ?_|refine Q6 ?_|refine Q7 ?_|refine Q8 ?_|refine Q9 ?_|refine Qa ?_|refine Qb ?_|refine Qc ?_|refine Qd ?_|refine Qe ?_|refine Qf ?_)|((with_reducible refine Qo ?_ ?_);focus rfl)|((with_reducible first|refine QT 6 (l:=?_) ?_ ?_|refine QF 6 (l:=?_) ?_ ?_);rotate_left 1;focus (simp only [Zu,Nat.reduceSub,Nat.reduceBEq];with_reducible rfl))|((with_reducible first|refine QS (cfg_ok 27) Tab.none (s':=?_) ?_ ?_|refine QC (b:=?_) ?_ ?_);rotate_left 1;focus ((with_reducible refine QW ?_);simp only [Zg,seval];with_reducible rfl))|((with_reducible refine QD (cfg_ok 27) Tab.none mixed_ok (tr:=?_) (s':=?_) ?_ ?_ ?_);rotate_left 2;(focus ((with_reducible refine QW ?_);simp only [Zg,Zd,seval,if_true,if_false,reduceCtorEq,Nat.reduceEqDiff];with_reducible rfl));focus ((with_reducible refine QK ?_);simp only [Zk];kernel_rfl)))
  (refine Ends.mk (by simp) (rs:=?_) (ks:=?_) hres hrts ?_ ?_ ?_;rotate_left 2;(focus (simp only [Ze,Zg,seval,Nat.reduceEqDiff];with_reducible rfl));(focus simp);focus (first|with_reducible rfl|(simp only [Zv];done)))
theorem eqv_T (v1 v2:Value) (xs:List (Int × (List (List Int) × List (List Int)))) (w:World) (h1:Rd (RS RTensor) w [v1] xs) (h2:Rd (RS RTensor) w [v2] xs) :
  Calls Tryz.prog 36 #[v1,v2] w (RetV w (.bool true)) :=
 AFn.one (v:=.bool true) (fun A w u hu => rdV_bool.1 hu) (a_eqTensorS xs (by obtain ⟨_,_,_,a,b⟩:=h1.val;omega)) (args2 (arg_T h1) (arg_T h2))
theorem a_heldIIT (f:List (List Int)) (k:Int) (hk0:0 ≤ k) (hk:k + cnt_II f ≤ 4611686018427387904):AFn Tryz.prog 111 [eLL (mkd_II f k),eI k] (· = [.val (.int (k + (cnt_II f:Nat)))]) :=
 AFn.of_s (v:=.int .i64 _) (enters_of Tryz.func111 rfl rfl) (fun _ _ => rdV_int.2 ⟨rfl,by unfold In64;omega⟩) (fun w A vs ⟨v1,_,e1,h1,v2,_,e2,h2,e3⟩ => by subst e3;subst e2;subst e1;rw [arg_int h2];exact held_II v1 f k w (Rd.of (rdLL h1)) hk0 hk)
theorem a_heldTensorS (xs:List (Int × (List (List Int) × List (List Int)))) (k0:Int) (hl:xs.length ≤ maxLen) (hk0:0 ≤ k0) (hk:k0 + cnt_T xs ≤ 4611686018427387904):AFn Tryz.prog 40 [[.sl 3 ((mkd_T xs k0).map eTe)],eI k0] (· = [.val (.int (k0 + (cnt_T xs:Nat)))]):=by
 unfold maxLen at hl
 have hle:((mkd_T xs k0).map eTe).length = xs.length:=by rw [List.length_map,mkd_T_len]
 have hle2:=mkd_T_len xs k0
 refine AFn.of_runs (cfg_ok 40) Tryz.func40 rfl rfl rfl (by simp only [List.length_cons,List.length_nil];decide) ?_
 have hres:Tryz.f40.results.toList = [.tmp 4]:=rfl
 have hrts:Tryz.f40.resultTypes.toList = [3]:=rfl
 simp only [argRegs,argAV1,eI,Nat.zero_add]
 intro M
 refine RunK.of ?_
 repeat' (first|with_reducible (first|refine Q1 ?_|refine Q2 ?_|refine Q3 ?_|refine Q4 ?_|refine Q5 ?_|refine Q6 ?_|refine Q7 ?_|refine Q8 ?_|refine Q9 ?_|refine Qa ?_|refine Qb ?_|refine Qc ?_|refine Qd ?_|refine Qe ?_|refine Qf ?_)|((with_reducible refine Qo ?_ ?_);focus rfl)|((with_reducible first|refine QT 6 (l:=?_) ?_ ?_|refine QF 6 (l:=?_) ?_ ?_);rotate_left 1;focus (simp only [Zu,Nat.reduceSub,Nat.reduceBEq];with_reducible rfl))|((with_reducible first|refine QS (cfg_ok 40) Tab.none (s':=?_) ?_ ?_|refine QC (b:=?_) ?_ ?_);rotate_left 1;focus ((with_reducible refine QW ?_);simp only [Zg,seval];with_reducible rfl)))
 refine RunK.loop (β:=Nat) (γ:=Unit) (fun i => ⟨[(0,.c (.val (.sl 3 ((mkd_T xs k0).map eTe)))),(1,.c (.val (.int (k0 + (cnt_T (xs.take i):Nat))))),(5,.c (.val (.int i)))],[]⟩) (fun i => i ≤ xs.length) (fun i => xs.length - i)
  (fun _ => ⟨[(1,.c (.val (.int (k0 + (cnt_T xs:Nat)))))],[]⟩) (fun _ => True) 0 (Nat.zero_le _) ?_ ?_ ?_
 ·(repeat' (first|with_reducible refine Qn|((with_reducible refine Qr ?_ ?_);focus (first|with_reducible rfl|(simp only [Zz,Nat.reduceBEq,List.take_zero,show cnt_T [] = 0 from rfl,Int.natCast_zero,Int.add_zero];done)|rfl))|((with_reducible refine Qj (o':=?_) ?_ ?_ ?_);rotate_left 1;focus rfl)|((with_reducible refine Qw ?_ ?_);(focus (first|with_reducible rfl|(simp only [Zv,List.take_zero,show cnt_T [] = 0 from rfl,Int.natCast_zero,Int.add_zero];done)));focus (first|exact id|exact (fun h => nomatch h)|exact (fun _ => rfl)))))
 ·intro i hi
  have hi:i ≤ xs.length:=hi
  by_cases h:i < xs.length
  ·have hw:=w64_succ (n:=i) (by omega)
   have i1:((i:Int) < (xs.length:Int)) = True:=eq_true (by omega)
   have i2:((0:Int) ≤ (i:Int)) = True:=eq_true (by omega)
   have hgt:=mkd_T_get xs k0 i h
   have hst:=cnt_T_take_succ xs i h
   have hlt:=cnt_T_take xs (i + 1)
   obtain ⟨n,hn⟩:∃ n,n = cnt_T (xs.take i):=⟨_,rfl⟩
   rw [← hn] at hgt hst ⊢
   obtain ⟨f,hf⟩:∃ f,f = xs[i].2.1:=⟨_,rfl⟩
   obtain ⟨g,hg2⟩:∃ g,g = xs[i].2.2:=⟨_,rfl⟩
   rw [← hf,← hg2] at hgt hst
   have hg:((mkd_T xs k0).map eTe)[i]? = some [.int (k0 + n),.sl 1 ((mkd_II f (k0 + n + 1)).map eL),.sl 1 ((mkd_II g (k0 + n + 1 + cnt_II f)).map eL)]:=by
    rw [map_get (by rw [hle2];exact h),hgt];rfl
   have h1:=a_heldIIT f (k0 + n + 1) (by omega) (by omega)
   have h2:=a_heldIIT g (k0 + n + 1 + cnt_II f) (by omega) (by omega)
   simp only [eLL,eI] at h1 h2
   have c1:(k0 + (n:Int) + 1 + (cnt_II f:Int) < 0) = False:=eq_false (by omega)
   have c2:(k0 + (n:Int) + 1 + (cnt_II f:Int) + (cnt_II g:Int) < 0) = False:=eq_false (by omega)
   have c3:(k0 + (n:Int) != k0 + n) = false:=by simp
   have hw2:=w64_eq (n:=k0 + (n:Int) + 1) (by omega)
   repeat' (first|with_reducible (first|refine Q1 ?_|refine Q2 ?_|refine Q3 ?_|refine Q4 ?_|refine Q5 ?_|refine Q6 ?_|refine Q7 ?_|refine Q8 ?_|refine Q9 ?_|refine Qa ?_|refine Qb ?_|refine Qc ?_|refine Qd ?_|refine Qe ?_|refine Qf ?_)|((with_reducible refine Qo ?_ ?_);focus rfl)|((with_reducible first|refine QT 6 (l:=?_) ?_ ?_|refine QF 6 (l:=?_) ?_ ?_);rotate_left 1;focus (simp only [Zu,Nat.reduceSub,Nat.reduceBEq];with_reducible rfl))|((with_reducible first|refine QS (cfg_ok 40) Tab.none (s':=?_) ?_ ?_|refine QC (b:=?_) ?_ ?_);rotate_left 1;focus ((with_reducible refine QW ?_);simp only [Zg,seval,Nat.reduceEqDiff,hle,i1,i2,hg,hw2,Int.toNat_natCast];with_reducible rfl)))
   ((repeat' (first|with_reducible (first|refine Q1 ?_|refine Q2 ?_|refine Q3 ?_|refine Q4 ?_|refine Q5 ?_|refine Q6 ?_|refine Q7 ?_|refine Q8 ?_|refine Q9 ?_|refine Qa ?_|refine Qb ?_|refine Qc ?_|refine Qd ?_|refine Qe ?_|refine Qf ?_)|((with_reducible refine Qo ?_ ?_);focus rfl)|((with_reducible first|refine QT 6 (l:=?_) ?_ ?_|refine QF 6 (l:=?_) ?_ ?_);rotate_left 1;focus (simp only [Zu,Nat.reduceSub,Nat.reduceBEq];with_reducible rfl))|((with_reducible refine QC (b:=?_) ?_ ?_);rotate_left 1;focus ((with_reducible refine QW ?_);simp only [Zg,seval,if_true,if_false,reduceCtorEq,Nat.reduceEqDiff,hle,i1,i2,hg,hw2,Int.toNat_natCast];with_reducible rfl))));((with_reducible refine QS (cfg_ok 40) (Tab.none.at' 111 h1) (s':=?_) ?_ ?_);rotate_left 1;focus ((with_reducible refine QW ?_);simp only [Zg,seval,Nat.reduceEqDiff,hle,i1,i2,hg,Int.toNat_natCast];with_reducible rfl));(repeat' (first|with_reducible (first|refine Q1 ?_|refine Q2 ?_|refine Q3 ?_|refine Q4 ?_|refine Q5 ?_|refine Q6 ?_|refine Q7 ?_|refine Q8 ?_|refine Q9 ?_|refine Qa ?_|refine Qb ?_|refine Qc ?_|refine Qd ?_|refine Qe ?_|refine Qf ?_)|((with_reducible refine Qo ?_ ?_);focus rfl)|((with_reducible first|refine QT 6 (l:=?_) ?_ ?_|refine QF 6 (l:=?_) ?_ ?_);rotate_left 1;focus (simp only [Zu,Nat.reduceSub,Nat.reduceBEq];with_reducible rfl))|((with_reducible refine QC (b:=?_) ?_ ?_);rotate_left 1;focus ((with_reducible refine QW ?_);simp only [Zg,seval,if_true,if_false,reduceCtorEq,Nat.reduceEqDiff,hle,i1,i2,hg,hw2,Int.toNat_natCast];with_reducible rfl)))))
   repeat' (first|with_reducible (first|refine Q1 ?_|refine Q2 ?_|refine Q3 ?_|refine Q4 ?_|refine Q5 ?_|refine Q6 ?_|refine Q7 ?_|refine Q8 ?_|refine Q9 ?_|refine Qa ?_|refine Qb ?_|refine Qc ?_|refine Qd ?_|refine Qe ?_|refine Qf ?_)|((with_reducible refine Qo ?_ ?_);focus rfl)|((with_reducible first|refine QT 6 (l:=?_) ?_ ?_|refine QF 6 (l:=?_) ?_ ?_);rotate_left 1;focus (simp only [Zu,Nat.reduceSub,Nat.reduceBEq];with_reducible rfl))|((with_reducible first|refine QS (cfg_ok 40) (Tab.none.at' 111 h2) (s':=?_) ?_ ?_|refine QC (b:=?_) ?_ ?_);rotate_left 1;focus ((with_reducible refine QW ?_);simp only [Zg,seval,Nat.reduceEqDiff,hle,i1,i2,hg,hw,c1,c2,Int.toNat_natCast];with_reducible rfl)))
   refine roundK.on (i + 1) ⟨h,by omega⟩ ?_
   have e:k0 + ((cnt_T (xs.take (i + 1)):Nat):Int) = k0 + n + 1 + cnt_II f + cnt_II g:=by rw [hst];omega
   rw [e]
   (repeat' (first|with_reducible refine Qn|((with_reducible refine Qr ?_ ?_);focus (first|with_reducible rfl|(simp only [Zz,Nat.reduceBEq];done)|rfl))|((with_reducible refine Qj (o':=?_) ?_ ?_ ?_);rotate_left 1;focus rfl)|((with_reducible refine Qw ?_ ?_);(focus (first|with_reducible rfl|(simp only [Zv];done)));focus (first|exact id|exact (fun h => nomatch h)|exact (fun _ => rfl)))))
  ·have i1:((i:Int) < (xs.length:Int)) = False:=eq_false (by omega)
   obtain rfl:i = xs.length:=by omega
   rw [List.take_length]
   repeat' (first|with_reducible (first|refine Q1 ?_|refine Q2 ?_|refine Q3 ?_|refine Q4 ?_|refine Q5 ?_|refine Q6 ?_|refine Q7 ?_|refine Q8 ?_|refine Q9 ?_|refine Qa ?_|refine Qb ?_|refine Qc ?_|refine Qd ?_|refine Qe ?_|refine Qf ?_)|((with_reducible refine Qo ?_ ?_);focus rfl)|((with_reducible first|refine QT 6 (l:=?_) ?_ ?_|refine QF 6 (l:=?_) ?_ ?_);rotate_left 1;focus (simp only [Zu,Nat.reduceSub,Nat.reduceBEq];with_reducible rfl))|((with_reducible first|refine QS (cfg_ok 40) Tab.none (s':=?_) ?_ ?_|refine QC (b:=?_) ?_ ?_);rotate_left 1;focus ((with_reducible refine QW ?_);simp only [Zg,seval,Nat.reduceEqDiff,hle,i1];with_reducible rfl)))
   refine roundK.out () trivial ?_
   (repeat' (first|with_reducible refine Qn|((with_reducible refine Qr ?_ ?_);focus (first|with_reducible rfl|(simp only [Zz,Nat.reduceBEq];done)|rfl))|((with_reducible refine Qj (o':=?_) ?_ ?_ ?_);rotate_left 1;focus rfl)|((with_reducible refine Qw ?_ ?_);(focus (first|with_reducible rfl|(simp only [Zv];done)));focus (first|exact id|exact (fun h => nomatch h)|exact (fun _ => rfl)))))
 ·rintro _ _
  repeat' (first|with_reducible (first|refine Q1 ?_|refine Q2 ?_|refine Q3 ?_|refine Q4 ?_|refine Q5 ?_|refine Q6 ?_|refine Q7 ?_|refine Q8 ?_|refine Q9 ?_|refine Qa ?_|refine Qb ?_|refine Qc ?_|refine Qd ?_|refine Qe ?_|refine Qf ?_)|((with_reducible refine Qo ?_ ?_);focus rfl)|((with_reducible first|refine QT 6 (l:=?_) ?_ ?_|refine QF 6 (l:=?_) ?_ ?_);rotate_left 1;focus (simp only [Zu,Nat.reduceSub,Nat.reduceBEq];with_reducible rfl))|((with_reducible first|refine QS (cfg_ok 40) Tab.none (s':=?_) ?_ ?_|refine QC (b:=?_) ?_ ?_);rotate_left 1;focus ((with_reducible refine QW ?_);simp only [Zg,seval];with_reducible rfl)))
  (refine Ends.mk (by simp) (rs:=?_) (ks:=?_) hres hrts ?_ ?_ ?_;rotate_left 2;(focus (simp only [Ze,Zg,seval,Nat.reduceEqDiff];with_reducible rfl));(focus simp);focus (first|with_reducible rfl|(simp only [Zv];done)))
theorem held_T (v:Value) (xs:List (Int × (List (List Int) × List (List Int)))) (k0:Int) (w:World) (h:Rd (RS RTensor) w [v] (mkd_T xs k0)) (hk0:0 ≤ k0) (hk:k0 + cnt_T xs ≤ 4611686018427387904) :
  Calls Tryz.prog 40 #[v,.int .i64 k0] w (RetV w (.int .i64 (k0 + (cnt_T xs:Nat)))) :=
 AFn.one (v:=.int .i64 _) (fun A w u hu => (rdV_int.1 hu).1) (a_heldTensorS xs k0 (by obtain ⟨_,_,_,a,b⟩:=h.val;rw [mkd_T_len] at a;omega) hk0 hk) (args2 (arg_T h) (arg_I (by unfold In64;omega)))
end Go.Proofs.YtgngidchldajhaaGreat

/- Lemmas (13). -/
import Derived.Test.YtedgfkpfhonlpaaGreatZA4
import Derived.Test.YtedgfkpfhonlpaaGreatZA5
import Derived.Test.YtedgfkpfhonlpaaGreatZA7
import Derived.Test.YtedgfkpfhonlpaaGreatZA9
import Derived.Test.YtedgfkpfhonlpaaGreatZA10
import Derived.Test.YtedgfkpfhonlpaaGreatZA11
import Derived.Test.YtedgfkpfhonlpaaGreatZA12
set_option linter.unusedSimpArgs false
set_option linter.unusedVariables false
namespace Go.Proofs
open Go.Shelf
def Tryz.sortTe_ren:Go.Shelf.Ren:=⟨fun|6 => 94|15 => 160|14 => 159|28 => 212|29 => 213|20 => 204|21 => 205|22 => 206|23 => 207|24 => 208|25 => 209|26 => 210|27 => 211|46 => 250|47 => 251|48 => 252|49 => 253|50 => 254|57 => 272|n => n,fun|22 => 65|24 => 69|25 => 118|3 => 3|39 => 137|0 => 0|53 => 214|55 => 28|4 => 4|46 => 208|45 => 207|50 => 185|5 => 5|9 => 9|66 => 236|70 => 240|76 => 252|77 => 253|n => n,fun|n => n⟩
theorem Tryz.sortTe:Go.Proofs.SlLaysF0.n6 Tryz.prog Tryz.sortTe_ren:={
 mixed:=by kernel_rfl
 f6:=⟨Tryz.f94.name,by decide,Tryz.func94.trans (congrArg some (by kernel_rfl))⟩
 f14:=⟨Tryz.f159.name,by decide,Tryz.func159.trans (congrArg some (by kernel_rfl))⟩
 f15:=Tryz.func160.trans (congrArg some (by kernel_rfl))
 f20:=⟨Tryz.f204.name,by decide,Tryz.func204.trans (congrArg some (by kernel_rfl))⟩
 f21:=⟨Tryz.f205.name,by decide,Tryz.func205.trans (congrArg some (by kernel_rfl))⟩
 f22:=⟨Tryz.f206.name,by decide,Tryz.func206.trans (congrArg some (by kernel_rfl))⟩
 f23:=⟨Tryz.f207.name,by decide,Tryz.func207.trans (congrArg some (by kernel_rfl))⟩
 f24:=⟨Tryz.f208.name,by decide,Tryz.func208.trans (congrArg some (by kernel_rfl))⟩
 f25:=⟨Tryz.f209.name,by decide,Tryz.func209.trans (congrArg some (by kernel_rfl))⟩
 f26:=⟨Tryz.f210.name,by decide,Tryz.func210.trans (congrArg some (by kernel_rfl))⟩
 f27:=⟨Tryz.f211.name,by decide,Tryz.func211.trans (congrArg some (by kernel_rfl))⟩
 f28:=Tryz.func212.trans (congrArg some (by kernel_rfl))
 f29:=Tryz.func213.trans (congrArg some (by kernel_rfl))
 f46:=⟨Tryz.f250.name,by decide,Tryz.func250.trans (congrArg some (by kernel_rfl))⟩
 f47:=Tryz.func251.trans (congrArg some (by kernel_rfl))
 f48:=Tryz.func252.trans (congrArg some (by kernel_rfl))
 f49:=⟨Tryz.f253.name,by decide,Tryz.func253.trans (congrArg some (by kernel_rfl))⟩
 f50:=⟨Tryz.f254.name,by decide,Tryz.func254.trans (congrArg some (by kernel_rfl))⟩
 f57:=⟨Tryz.f272.name,by decide,Tryz.func272.trans (congrArg some (by kernel_rfl))⟩
 t0:=Tryz.underlying0
 a0:=Tryz.isAgg0
 z0:=Tryz.sizeOf0
 v0:=Tryz.zeroValue0
 t3:=Tryz.underlying3
 a3:=Tryz.isAgg3
 z3:=Tryz.sizeOf3
 v3:=Tryz.zeroValue3
 t4:=Tryz.underlying4
 a4:=Tryz.isAgg4
 z4:=Tryz.sizeOf4
 v4:=Tryz.zeroValue4
 t5:=Tryz.underlying5
 a5:=Tryz.isAgg5
 z5:=Tryz.sizeOf5
 v5:=Tryz.zeroValue5
 t9:=Tryz.underlying9
 a9:=Tryz.isAgg9
 z9:=Tryz.sizeOf9
 v9:=Tryz.zeroValue9
 t22:=Tryz.underlying65
 a22:=Tryz.isAgg65
 z22:=Tryz.sizeOf65
 v22:=Tryz.zeroValue65
 t25:=Tryz.underlying118
 a25:=Tryz.isAgg118
 z25:=Tryz.sizeOf118
 v25:=Tryz.zeroValue118
 t39:=Tryz.underlying137
 a39:=Tryz.isAgg137
 z39:=Tryz.sizeOf137
 v39:=Tryz.zeroValue137
 t45:=Tryz.underlying207
 a45:=Tryz.isAgg207
 z45:=Tryz.sizeOf207
 v45:=Tryz.zeroValue207
 t46:=Tryz.underlying208
 a46:=Tryz.isAgg208
 z46:=Tryz.sizeOf208
 v46:=Tryz.zeroValue208
 t50:=Tryz.underlying185
 a50:=Tryz.isAgg185
 z50:=Tryz.sizeOf185
 v50:=Tryz.zeroValue185
 t53:=Tryz.underlying214
 a53:=Tryz.isAgg214
 z53:=Tryz.sizeOf214
 v53:=Tryz.zeroValue214
 t55:=Tryz.underlying28
 a55:=Tryz.isAgg28
 z55:=Tryz.sizeOf28
 v55:=Tryz.zeroValue28
 t66:=Tryz.underlying236
 a66:=Tryz.isAgg236
 z66:=Tryz.sizeOf236
 v66:=Tryz.zeroValue236
 t70:=Tryz.underlying240
 a70:=Tryz.isAgg240
 z70:=Tryz.sizeOf240
 v70:=Tryz.zeroValue240
 t76:=Tryz.underlying252
 a76:=Tryz.isAgg252
 z76:=Tryz.sizeOf252
 v76:=Tryz.zeroValue252
 t77:=Tryz.underlying253
 a77:=Tryz.isAgg253
 z77:=Tryz.sizeOf253
 v77:=Tryz.zeroValue253 }
end Go.Proofs
namespace Go.Proofs.YtedgfkpfhonlpaaGreat
open Go.RowKit
section
abbrev TeT:=(Int × Spl) × (List Nat × List Nat)
def eTeT (q:TeT):List D:=[.int q.1.1,.tag q.2.1 (.sl 1 (q.1.2.1.map eL)),.tag q.2.2 (.sl 1 (q.1.2.2.map eL))]
def blT (q:TeT):List Nat:=q.2.1 ++ q.2.2
theorem tag_mkT:∀ (qs:List TeT),TagL ((qs.map (·.1)).map eTe) (qs.map eTeT) ((qs.map blT).flatten)
 | [] => ⟨rfl,rfl⟩
 | q :: qs => ⟨_,_,blT q,_,rfl,rfl,⟨_,_,[],q.2.1 ++ q.2.2,rfl,rfl,.inr ⟨rfl,rfl,rfl⟩,⟨_,_,q.2.1,q.2.2,rfl,rfl,.inl rfl,⟨_,[],q.2.2,[],rfl,(List.append_nil _).symm,.inl rfl,rfl,rfl⟩⟩⟩,tag_mkT qs⟩
theorem marks_eTeT:∀ (qs:List TeT),kW (qs.map eTeT) = (qs.map blT).flatten
 | [] => rfl
 | q :: qs => by
  have ih:=marks_eTeT qs
  unfold kW at ih ⊢
  rw [List.map_cons,List.flatMap_cons,ih,List.map_cons,List.flatten_cons]
  congr 1
  simp [eTeT,D.marks,blT]
def stepW (out:List TeT) (q:TeT):List TeT:=match out.getLast? with
 | some p => if cmpTe p.1.2 q.1.2 = 0 then out.dropLast ++ [((mP (p.1.1 + q.1.1),p.1.2),p.2)] else out ++ [q]
 | none => [q]
def runW (zs:List TeT):List TeT:=zs.foldl stepW []
theorem stepW_nil (q:TeT):stepW [] q = [q]:=rfl
theorem stepW_eq (out:List TeT) (p q:TeT) (h:cmpTe p.1.2 q.1.2 = 0):stepW (out ++ [p]) q = out ++ [((mP (p.1.1 + q.1.1),p.1.2),p.2)]:=by simp [stepW,h]
theorem stepW_ne (out:List TeT) (p q:TeT) (h:¬ cmpTe p.1.2 q.1.2 = 0):stepW (out ++ [p]) q = out ++ [p] ++ [q]:=by simp [stepW,h]
theorem runW_snoc (zs:List TeT) (q:TeT):runW (zs ++ [q]) = stepW (runW zs) q:=by unfold runW;rw [List.foldl_append];rfl
theorem runW_spec:∀ (n:Nat) (zs:List TeT),zs.length = n→(∀ q ∈ zs,(0 ≤ q.1.1∧q.1.1 < 10007)∧SmS q.1.2) →
  (runW zs).map (·.1) = jH cmpTe [] (zs.map (·.1))∧((runW zs).map blT).Sublist (zs.map blT)∧(runW zs).length ≤ zs.length∧∀ q ∈ runW zs,(0 ≤ q.1.1∧q.1.1 < 10007)∧SmS q.1.2
 | 0,zs,hn,_ => by
  obtain rfl:=List.eq_nil_of_length_eq_zero hn
  exact ⟨rfl,List.Sublist.refl _,Nat.le_refl _,fun q hq => nomatch hq⟩
 | n + 1,zs,hn,h1 => by
  obtain ⟨zs,q,rfl⟩:=(wZ zs).resolve_left (by rintro rfl;cases hn)
  have hn':zs.length = n:=by simpa using hn
  obtain ⟨i1,i2,i3,i4⟩:=runW_spec n zs hn' (fun q hq => h1 q (by simp [hq]))
  obtain ⟨hq1,hq2⟩:=h1 q (by simp)
  have hms:jH cmpTe [] ((zs ++ [q]).map (·.1)) = stepM cmpTe (jH cmpTe [] (zs.map (·.1))) q.1.1 q.1.2:=by
   rw [List.map_append]
   exact jC0 cmpTe q.1.1 q.1.2 _ _
  rw [runW_snoc,hms,← i1]
  by_cases h0:runW zs = []
  ·rw [h0]
   refine ⟨?_,?_,by simp [stepW],fun z hz => ?_⟩
   ·show [q.1] = stepM cmpTe [] q.1.1 q.1.2
    rw [stepM_nil,mP_small hq1.1 hq1.2]
   ·rw [List.map_append];exact List.sublist_append_right _ _
   ·have hz:z = q:=by simpa [stepW] using hz
    subst hz
    exact ⟨hq1,hq2⟩
  ·obtain ⟨out,p,e⟩:=(wZ (runW zs)).resolve_left h0
   rw [e] at i2 i3 i4 ⊢
   have hp:=i4 p (by simp)
   by_cases hc:cmpTe p.1.2 q.1.2 = 0
   ·rw [stepW_eq _ _ _ hc,List.map_append,List.map_append,List.map_cons,List.map_nil,List.map_cons,List.map_nil]
    have e3:=stepM_eq cmpTe (out.map (·.1)) p.1.1 p.1.2 q.1.1 q.1.2 hc
    refine ⟨e3.symm,?_,by simp at i3 ⊢;omega,fun z hz => ?_⟩
    ·have e2:(out ++ [p]).map blT = out.map blT ++ [blT ((mP (p.1.1 + q.1.1),p.1.2),p.2)]:=by rw [List.map_append];rfl
     rw [List.map_append,List.map_append,List.map_cons,List.map_nil,← e2]
     exact i2.trans (List.sublist_append_left _ _)
    ·rcases List.mem_append.1 hz with hz|hz
     ·exact i4 z (by simp [hz])
     ·obtain rfl:=List.mem_singleton.1 hz
      exact ⟨xC _,hp.2⟩
   ·rw [stepW_ne _ _ _ hc]
    have e3:=stepM_ne cmpTe (out.map (·.1)) p.1.1 p.1.2 q.1.1 q.1.2 hc
    rw [mP_small hq1.1 hq1.2] at e3
    refine ⟨?_,?_,by simp at i3 ⊢;omega,fun z hz => ?_⟩
    ·simp only [List.map_append,List.map_cons,List.map_nil]
     exact e3.symm
    ·have e5:(out ++ [p] ++ [q]).map blT = (out ++ [p]).map blT ++ [blT q]:=by rw [List.map_append];rfl
     have e6:(zs ++ [q]).map blT = zs.map blT ++ [blT q]:=by rw [List.map_append];rfl
     rw [e5,e6]
     exact List.Sublist.append i2 (List.Sublist.refl _)
    ·rcases List.mem_append.1 hz with hz|hz
     ·exact i4 z hz
     ·obtain rfl:=List.mem_singleton.1 hz
      exact ⟨hq1,hq2⟩
set_option maxRecDepth 100000 in
set_option maxHeartbeats 1000000 in
theorem c_copro1 (W:World) (n m:Int) (u1 u2 v1 v2:Value) (f g h k:List (List Int)) (h1:Rd (RS (RS RI)) W [u1] f) (h2:Rd (RS (RS RI)) W [u2] g) (h3:Rd (RS (RS RI)) W [v1] h) (h4:Rd (RS (RS RI)) W [v2] k) (s1:qX f ≤ 1000000) (s2:qX h ≤ 1000000) (s3:qX g ≤ 1000000) (s4:qX k ≤ 1000000) :
  Calls Tryz.prog 93 #[.agg #[.int .i64 n,u1,u2],.agg #[.int .i64 m,v1,v2]] W fun e w' => e = .returned (.int .i64 (cmpTe (f,g) (h,k)))∧∃ q os',w' = Sort.grow (W.drewN q) os':=by
 obtain ⟨o1,c1,rfl,_,_⟩:=h1.val
 obtain ⟨o2,c2,rfl,_,_⟩:=h2.val
 obtain ⟨o3,c3,rfl,_,_⟩:=h3.val
 obtain ⟨o4,c4,rfl,_,_⟩:=h4.val
 have b1:Below W.heap.size W (W.alloc (.cells #[.int .i64 n,.slice o1 f.length c1,.slice o2 g.length c2] 69)):=(Below.refl _ _).alloc (Nat.le_refl _) _
 have b2:Below W.heap.size W ((W.alloc (.cells #[.int .i64 n,.slice o1 f.length c1,.slice o2 g.length c2] 69)).alloc (.cells #[.int .i64 m,.slice o3 h.length c3,.slice o4 k.length c4] 69)):=b1.alloc (by simp) _
 have hc:=qK0 _ _ f h _ (h1.below b2 (Nat.le_refl _)) (h3.below b2 (Nat.le_refl _)) (by omega) (by omega)
 have hd:=qK0 _ _ g k _ (h2.below b2 (Nat.le_refl _)) (h4.below b2 (Nat.le_refl _)) (by omega) (by omega)
 have HC:=Lib.hid hc
 have HD:=Lib.hid hd
 have hcs:cmpTe (f,g) (h,k) = if cmpF f h = 0 then cmpF g k else cmpF f h:=rfl
 by_cases hz:cmpF f h = 0
 ·have hb:(cmpF f h != 0) = false:=by simp [hz]
  rw [if_pos hz] at hcs
  have HS:=Lib.hid hcs
  clear hc hd b1 b2 h1 h2 h3 h4 hcs
  go_enter Tryz.func93,Tryz.ntmps93
  go_wp2_with (first|(go_at_call 87;refine HC.out.mono ?_;rintro e w' ⟨rfl,rfl⟩;clear HC)|(go_at_call 87;refine HD.out.mono ?_;rintro e w' ⟨rfl,rfl⟩;clear HD))
  go_ret
  exact ⟨by rw [HS.out] <;> rfl,0,_,by rw [Sort.alloc_eq_grow,Sort.alloc_eq_grow,Sort.grow_grow];rfl⟩
 ·have hb:(cmpF f h != 0) = true:=bne_iff_ne.2 hz
  rw [if_neg hz] at hcs
  have HS:=Lib.hid hcs
  clear hc hd b1 b2 h1 h2 h3 h4 hcs
  go_enter Tryz.func93,Tryz.ntmps93
  go_wp2_with (first|(go_at_call 87;refine HC.out.mono ?_;rintro e w' ⟨rfl,rfl⟩;clear HC)|(go_at_call 87;refine HD.out.mono ?_;rintro e w' ⟨rfl,rfl⟩;clear HD))
  go_ret
  exact ⟨by rw [HS.out] <;> rfl,0,_,by rw [Sort.alloc_eq_grow,Sort.alloc_eq_grow,Sort.grow_grow];rfl⟩
noncomputable def TCp1:Tab Tryz.prog :=
 Tab.none.add 87 (tab2 codLL codLL fun f g => if SmF f∧SmF g then some [.val (.int (cmpF f g))] else none) (yW fun f g rs h => by split at h;cases h;rename_i hs;exact jW0 f g (by have:=hs.1.2;omega) (by have:=hs.2.2;omega);cases h)
theorem a_copro1 (z y:Int × Spl) (hz:SmS z.2) (hy:SmS y.2):AFn Tryz.prog 93 [eTe z,eTe y] (· = [.val (.int (cmpTe z.2 y.2))]):=by
 obtain ⟨n,⟨f,g⟩⟩:=z
 obtain ⟨n',⟨f',g'⟩⟩:=y
 have e1:=eq_true (And.intro hz.1 hy.1)
 have e2:=eq_true (And.intro hz.2 hy.2)
 simp only at e1 e2
 have hcs:cmpTe (f,g) (f',g') = if cmpF f f' = 0 then cmpF g g' else cmpF f f':=rfl
 simp only
 rw [hcs]
 refine AFn.of_runs (qQ 19) Tryz.func93 rfl rfl rfl gz ?_
 have hres:Tryz.f93.results.toList = [.tmp 4]:=rfl
 have hrts:Tryz.f93.resultTypes.toList = [3]:=rfl
 simp only [qU,qK,eL,eI,eLL,eB,Nat.zero_add,Nat.reduceAdd,eTe]
 intro M
 refine qJ.of ?_
 by_cases h0:cmpF f f' = 0
 ·have hb:(cmpF f f' != 0) = false:=by simp [h0]
  rw [if_pos h0]
  refine gw133 (Yp e1 (Yp e2 hb)) ?_
  exact gw8
 ·have hb:(cmpF f f' != 0) = true:=bne_iff_ne.2 h0
  rw [if_neg h0]
  refine gw133 (Yp e1 (Yp e2 hb)) ?_
  exact gw8
theorem a_copro2 (n:Int) (f g:List (List Int)):AFn Tryz.prog 96 [[.int n,.sl 1 (f.map eL),.sl 1 (g.map eL)]] (· = [.val (.bool (decide (n = 0)))]):=by
 refine AFn.of_runs (qQ 6) Tryz.func96 rfl rfl rfl gz ?_
 have hres:Tryz.f96.results.toList = [.tmp 2]:=rfl
 have hrts:Tryz.f96.resultTypes.toList = [4]:=rfl
 simp only [qU,qK,eL,eI,eLL,eB,Nat.zero_add,Nat.reduceAdd]
 intro M
 refine qJ.of ?_
 by_cases h:n = 0
 ·subst h
  rw [decide_eq_true rfl]
  refine gw116 Y0 ?_
  exact gw8
 ·have hb:(n == 0) = false:=beq_eq_false_iff_ne.2 h
  rw [decide_eq_false h]
  refine gw116 hb ?_
  exact gw8
theorem aggTe (w:World):(isAgg 69).run Tryz.prog w = .ok true w:=by
 simp [isAgg,run_underlying Tryz.underlying69]
theorem tTensor:ST Tryz.prog 65 69 (.agg #[.int .i64 0,.slice none 0 0,.slice none 0 0]) 3 56:=ST.mk' (by kernel_rfl) (by kernel_rfl) rfl (by decide)
theorem sizeTe (w:World):(Go.sizeOf 69).run Tryz.prog w = .ok 3 w:=by
 obtain ⟨_,⟨i,hi,_,hs,_⟩,_,_⟩:=tTensor
 simp [Go.sizeOf,typeInfo,hi,hs]
theorem rd_eTeT {A:Nat→Prop} {W:World} {us:List Value} {x:TeT} (h:rdCs A W us (eTeT x)):∃ u1 u2,us = [.int .i64 x.1.1,u1,u2]∧Rd (RS (RS RI)) W [u1] x.1.2.1∧Rd (RS (RS RI)) W [u2] x.1.2.2:=by
 have hl:=h.len
 match us,hl with
 | [u1,u2,u3],_ =>
  obtain ⟨v1,e1,h1⟩:=h.get 0 (by show 0 < 3;decide)
  obtain ⟨v2,e2,h2⟩:=h.get 1 (by show 1 < 3;decide)
  obtain ⟨v3,e3,h3⟩:=h.get 2 (by show 2 < 3;decide)
  obtain rfl:u1 = v1:=by simpa using e1
  obtain rfl:u2 = v2:=by simpa using e2
  obtain rfl:u3 = v3:=by simpa using e3
  have h1:rdV A W u1 (.int x.1.1):=h1
  have h2:rdV A W u2 (.tag x.2.1 (.sl 1 (x.1.2.1.map eL))):=h2
  have h3:rdV A W u3 (.tag x.2.2 (.sl 1 (x.1.2.2.map eL))):=h3
  have r1:=rdLL (xs:=x.1.2.1) h2.un
  have r2:=rdLL (xs:=x.1.2.2) h3.un
  refine ⟨u2,u3,?_,Rd.of r1,Rd.of r2⟩
  rw [(jQ.1 h1).1]
theorem a_sortTe (zs:List TeT) (hok:∀ z ∈ zs,SmS z.1.2) (hn:zs.length ≤ 1000000000) :
  AEf Tryz.prog 94 false [] 3 (zs.map eTeT) [[.raw (.func (.func 93) #[] #[])]] (fun rs oc => rs = []∧∃ zs':List TeT,oc = some (zs'.map eTeT)∧zs'.Perm zs∧zs'.Pairwise (fun a b => cmpTe a.1.2 b.1.2 ≤ 0)):=by
 refine a_SortG Tryz.sortTe (k:=3) eTeT (by decide) (fun _ => rfl) aggTe sizeTe kR (·.1.2) (fun z => SmS z.1.2) ((0,([],[])),([],[])) [.int .i64 0,.slice none 0 0,.slice none 0 0] (fun A w => ?_) (by decide) 93 (enters_of Tryz.func93 rfl rfl)
  (fun W A x y us vs hA hx hy hu hv => ?_) (enters_of Tryz.func94 rfl rfl) zs hok hn
 ·have hnil:rdV A w (.slice none 0 0) (.tag [] (.sl 1 [])):=kK.2 ⟨by simp,vV.2 ⟨none,[],[],Row.nil _ 1,ownR.nil (by decide),rfl⟩⟩
  exact rdCs.cons (jQ.2 ⟨rfl,by show qC 0;unfold qC;omega⟩) (rdCs.cons hnil (rdCs.cons hnil rdCs.nil))
 ·obtain ⟨u1,u2,rfl,r1,r2⟩:=rd_eTeT hu
  obtain ⟨v1,v2,rfl,r3,r4⟩:=rd_eTeT hv
  exact c_copro1 W _ _ _ _ _ _ _ _ _ _ r1 r2 r3 r4 (Nat.le_trans hx.1.2 (by decide)) (Nat.le_trans hy.1.2 (by decide)) (Nat.le_trans hx.2.2 (by decide)) (Nat.le_trans hy.2.2 (by decide))
structure CpI (M:Nat→Prop) (L:List (Int × Spl)) (qs:List TeT):Prop where
 eq:qs.map (·.1) = L
 nd:((qs.map blT).flatten).Nodup
 mi:∀ b ∈ (qs.map blT).flatten,M b
noncomputable def TNmC:Tab Tryz.prog:=Tab.none.add 92 (tab1 codI fun n => some [.val (.int (mP n))]) (yB fun n rs h => by cases h;exact a_num n)
set_option maxRecDepth 20000 in
set_option maxHeartbeats 16000000 in
theorem xC0 (e:Elt) (hz:szP e):AFn Tryz.prog 42 [[.sl 2 (e.map ePt)]] (· = [.own 3 ((copOf e).1.map eTe) true,.val (.int (copOf e).2)]):=by
 have h1:=yK0 e hz
 by_cases hE:elB e = true
 rotate_left
 ·have hE':elB e = false:=by simpa using hE
  have hco:copOf e = ([],1):=by unfold copOf;rw [if_neg hE]
  rw [hE'] at h1
  rw [hco]
  refine AFn.of_runs (qQ 100) Tryz.func42 rfl rfl rfl gz ?_
  have hres:Tryz.f42.results.toList = [.tmp 2,.tmp 3]:=rfl
  have hrts:Tryz.f42.resultTypes.toList = [65,2]:=rfl
  simp only [qU,qK,eL,eI,eLL,eB,Nat.zero_add,Nat.reduceAdd]
  intro M
  refine qJ.of ?_
  refine gw134 Y0 ?_
  exact gw8
 rw [hE] at h1
 obtain ⟨hl,hnf,_,hfo⟩:=yR hE
 have hbd:=hnf.2
 have hML:=wW e hfo
 have hMok:=copM_ok hfo
 have htl:∀ i,(copM (e.take i)).length ≤ 256 * i:=fun i => by
  have:=wW (e.take i) (vT hfo)
  rw [List.length_take] at this
  exact Nat.le_trans this (Nat.mul_le_mul_left _ (Nat.min_le_left _ _))
 have hle:(e.map ePt).length = e.length:=List.length_map _
 refine AFn.of_runs (qQ 100) Tryz.func42 rfl rfl rfl gz ?_
 have hres:Tryz.f42.results.toList = [.tmp 2,.tmp 3]:=rfl
 have hrts:Tryz.f42.resultTypes.toList = [65,2]:=rfl
 simp only [qU,qK,eL,eI,eLL,eB,Nat.zero_add,Nat.reduceAdd]
 intro M
 refine qJ.of ?_
 refine gw134 hle ?_
 refine qJ.loop (β:=Nat × List TeT) (γ:=List TeT) (fun x => ⟨[(4,.c (.own 4 x.2.length)),(18,.c (.val (.sl 2 (e.map ePt)))),(19,.c (.val (.int e.length))),(20,.c (.val (.int x.1)))],[(4,.row 3 (x.2.map eTeT) false)]⟩) (fun x => x.1 ≤ e.length∧CpI M (copM (e.take x.1)) x.2) (fun x => e.length - x.1)
  (fun qs => ⟨[(4,.c (.own 4 qs.length))],[(4,.row 3 (qs.map eTeT) false)]⟩) (fun qs => CpI M (copM e) qs) (0,[]) ⟨Nat.zero_le _,⟨rfl,List.nodup_nil,fun b hb => nomatch hb⟩⟩ ?_ ?_ ?_
 ·exact gw80
 ·rintro ⟨i,qs⟩ ⟨hi,hI⟩
  simp only at hi hI ⊢
  have hw:=qD (n:=i) (by omega)
  have hqn:qs.length ≤ 256 * i:=by
   have:=congrArg List.length hI.eq
   rw [List.length_map] at this
   have:=htl i
   omega
  by_cases h:i < e.length
  rotate_left
  ·have i1:((i:Int) < (e.length:Int)) = False:=eq_false (by omega)
   obtain rfl:i = e.length:=by omega
   rw [List.take_length] at hI
   refine gw135 i1 ?_
   refine qY.out qs hI ?_
   exact gw6 Y0
  have i1:((i:Int) < (e.length:Int)) = True:=eq_true (by omega)
  have i2:((0:Int) ≤ (i:Int)) = True:=eq_true (by omega)
  refine qJ.fresh rfl ?_
  intro M' hM' hold
  have hold:=hold 4 3 (qs.map eTeT) rfl
  rw [marks_eTeT] at hold
  obtain ⟨p,hp⟩:∃ p,p = e[i]:=⟨_,rfl⟩
  have hpf:=hfo e[i] (List.getElem_mem _)
  have hpb:=hbd e[i] (List.getElem_mem _)
  have hg:(e.map ePt)[i]? = some [.int p.1,.sl 1 (p.2.map eL)]:=by rw [qL h,hp];rfl
  have htk:copM (e.take (i + 1)) = copM (e.take i) ++ copP p:=by rw [copM_take h,← hp]
  rw [← hp] at hpf hpb
  have hsm8:=(xT hpf).1
  have hsp:=a_splitForest p.2 (yH hpf) hsm8
  have hpl:=vX (yH hpf) hsm8
  have hga:=a_gathered (prodS (p.2.map split)) (by omega) (fun s hs => ((kB (yH hpf) s hs).ha (by omega)).sm)
  have hgood:=qE0 (kB (yH hpf))
  have hcd:copP p = (gathS (prodS (p.2.map split))).map fun z => (mP (p.1 * z.2),z.1):=rfl
  have hGl:=copP_len hpf
  obtain ⟨G,hG⟩:∃ G,G = gathS (prodS (p.2.map split)):=⟨_,rfl⟩
  rw [← hG] at hga hgood hcd
  have hGn:G.length ≤ 256:=by rw [hcd,List.length_map] at hGl;exact hGl
  have hspl:((prodS (p.2.map split)).map eS0).length = (prodS (p.2.map split)).length:=List.length_map _
  simp only [eLL] at hsp
  refine gw136 (Yp i1 (Yp i2 (Yp hg (Yp hle hspl)))) ?_
  refine qJ.tag' 27 (k:=3) (xs:=G.map eSp) rfl ?_
  intro xs' F ht htp hnd hF
  obtain ⟨zs,e1,e2,e3⟩:=tag_rows3 _ _ _ ht htp
  subst e2;subst e3
  have hzl:zs.length = G.length:=by rw [e1,List.length_map]
  refine qJ.loop (β:=Nat × List TeT) (γ:=List TeT) (fun x => ⟨[(4,.c (.own 4 x.2.length)),(6,.optr 6 0 0),(18,.c (.val (.sl 2 (e.map ePt)))),(19,.c (.val (.int e.length))),(20,.c (.val (.int i))),(27,.c (.own 27 G.length)),(28,.c (.val (.int G.length))),(29,.c (.val (.int x.1)))],[(4,.row 3 (x.2.map eTeT) false),(6,.row 2 [[.int p.1,.sl 1 (p.2.map eL)]] false),(27,.row 3 (zs.map (e3T (fun z:Spl × Int => z.1.1.map eL) (fun z => z.1.2.map eL) (·.2))) false)]⟩)
   (fun x => x.1 ≤ G.length∧x.2.map (·.1) = copM (e.take i) ++ (copP p).take x.1∧(x.2.map blT).flatten = (qs.map blT).flatten ++ ((zs.take x.1).map bl3).flatten) (fun x => G.length - x.1)
   (fun rs => ⟨[(4,.c (.own 4 rs.length)),(18,.c (.val (.sl 2 (e.map ePt)))),(19,.c (.val (.int e.length))),(20,.c (.val (.int i)))],[(4,.row 3 (rs.map eTeT) false)]⟩) (fun rs => rs.map (·.1) = copM (e.take i) ++ copP p∧(rs.map blT).flatten = (qs.map blT).flatten ++ (zs.map bl3).flatten) (0,qs) ⟨Nat.zero_le _,by rw [List.take_zero,List.append_nil];exact hI.eq,by rw [List.take_zero];simp⟩ ?_ ?_ ?_
  ·exact gw137
  ·rintro ⟨j,rs⟩ ⟨hj,hr1,hr2⟩
   simp only at hj hr1 hr2 ⊢
   have hwj:=qD (n:=j) (by omega)
   have hzm:(zs.map (e3T (fun z:Spl × Int => z.1.1.map eL) (fun z => z.1.2.map eL) (·.2))).length = G.length:=by rw [List.length_map,hzl]
   have hcl:(copP p).length = G.length:=by rw [hcd,List.length_map]
   have hrn:rs.length ≤ 256 * i + 256:=by
    have:=congrArg List.length hr1
    rw [List.length_map,List.length_append,List.length_take] at this
    have:=htl i
    omega
   by_cases hjG:j < G.length
   ·have hjz:j < zs.length:=by omega
    have j1:((j:Int) < (G.length:Int)) = True:=eq_true (by omega)
    have j2:((0:Int) ≤ (j:Int)) = True:=eq_true (by omega)
    obtain ⟨z,hz⟩:∃ z,z = zs[j]:=⟨_,rfl⟩
    have hLi:G[j] = z.1:=by simp only [e1,List.getElem_map,hz]
    have hgz:(zs.map (e3T (fun z:Spl × Int => z.1.1.map eL) (fun z => z.1.2.map eL) (·.2)))[j]? = some (e3T (fun z:Spl × Int => z.1.1.map eL) (fun z => z.1.2.map eL) (·.2) z):=by rw [qL hjz,hz]
    obtain ⟨z1,z2,z3⟩:=hgood G[j] (List.getElem_mem _)
    have htkz:(zs.take (j + 1)).map bl3 = (zs.take j).map bl3 ++ [bl3 z]:=by rw [List.take_succ_eq_append_getElem hjz,List.map_append,← hz];rfl
    have htkc:(copP p).take (j + 1) = (copP p).take j ++ [(mP (p.1 * z.1.2),z.1.1)]:=by
     rw [List.take_succ_eq_append_getElem (by omega)]
     congr 2
     simp only [hcd,List.getElem_map,hLi]
    rw [hLi] at z1 z2
    obtain ⟨⟨⟨f,g⟩,n⟩,⟨Fz,Gz⟩⟩:=z
    simp only [e3T] at hgz
    simp only at z1 z2 htkc
    have hb0:0 ≤ p.1 * n∧p.1 * n ≤ 100140049:=by
     refine ⟨Int.mul_nonneg (by omega) (by omega),?_⟩
     have h5:=Int.mul_le_mul (show p.1 ≤ 10007 by omega) (show n ≤ 10007 by omega) (by omega) (by decide)
     omega
    have hwm:w64 (p.1 * n) = p.1 * n:=qM (by omega)
    have q1:=jF (n:=rs.length + 1) (by omega)
    have q2:=jE (n:=rs.length + 1) (c:=56) (by omega) (by omega)
    refine gw138 (Yp j1 (Yp j2 (Yp hgz (Yp hzm (Yp hwj (Yp hwm (Yp q1 q2))))))) ?_
    refine qY.on (j + 1,rs ++ [((mP (p.1 * n),(f,g)),(Fz,Gz))]) ⟨⟨hjG,?_,?_⟩,by show G.length - (j + 1) < G.length - j;omega⟩ ?_
    ·show List.map (fun q:TeT => q.1) (rs ++ [((mP (p.1 * n),(f,g)),(Fz,Gz))]) = _
     rw [List.map_append,hr1,htkc,List.append_assoc];rfl
    ·show ((rs ++ [((mP (p.1 * n),(f,g)),(Fz,Gz))]).map blT).flatten = _
     rw [htkz,List.map_append,List.flatten_append,hr2,List.flatten_append,List.append_assoc]
     rfl
    ·exact gw139
   ·have j1:((j:Int) < (G.length:Int)) = False:=eq_false (by omega)
    obtain rfl:j = G.length:=by omega
    have hall:(copP p).take G.length = copP p:=List.take_of_length_le (by omega)
    rw [hall] at hr1
    rw [← hzl,List.take_length] at hr2
    refine gw135 j1 ?_
    refine qY.out rs ⟨hr1,hr2⟩ ?_
    exact gw6 Y0
  ·rintro rs ⟨hr1,hr2⟩
   refine gw135 hw ?_
   refine qY.on (i + 1,rs) ⟨⟨h,?_⟩,by show e.length - (i + 1) < e.length - i;omega⟩ ?_
   ·refine ⟨by rw [htk];exact hr1,?_,fun b hb => ?_⟩
    ·show ((rs.map blT).flatten).Nodup
     rw [hr2]
     refine List.nodup_append.2 ⟨hI.nd,hnd,fun b hb c hc e => ?_⟩
     subst e
     exact hold b hb (hF b hc)
    ·have hb:b ∈ (rs.map blT).flatten:=hb
     rw [hr2] at hb
     rcases List.mem_append.1 hb with hb|hb
     ·exact hI.mi b hb
     ·exact hM' b (hF b hb)
   ·exact gw6 Y0
 ·intro qs hJ
  have hqn:qs.length = (copM e).length:=by
   have:=congrArg List.length hJ.eq
   rwa [List.length_map] at this
  have hqs:∀ q ∈ qs,(0 ≤ q.1.1∧q.1.1 < 10007)∧SmS q.1.2:=fun q hq => hMok q.1 (by rw [← hJ.eq];exact List.mem_map.2 ⟨q,hq,rfl⟩)
  have hso:=a_sortTe qs (fun q hq => (hqs q hq).2) (by omega)
  refine gw135 Y0 ?_
  refine qJ.regCut (qQ 100) Tab.none 2 (s1:=?_) ?_ ?_
  rotate_left 1
  focus (refine Work.mk ?_;simp only [Zg,seval,if_true,if_false,reduceCtorEq,Nat.reduceEqDiff];with_reducible rfl)
  simp only [List.toList_toArray,List.drop_succ_cons,List.drop_zero]
  refine qV.callEf (qQ 100) rfl rfl (by decide) rfl rfl (x:=.tmp 49) (xpost:=[.tmp 50]) rfl rfl (post:=[[.raw (.func (.func 93) #[] #[])]]) ?_ ?_ rfl rfl ?_ hso (R:=fun ys => ∃ zs:List TeT,ys = zs.map eTeT∧zs.Perm qs∧zs.Pairwise (fun a b => cmpTe a.1.2 b.1.2 ≤ 0)) ?_ ?_
  ·simp only [Zg,seval,if_true,if_false,reduceCtorEq,Nat.reduceEqDiff]
  ·rfl
  ·intro q u hq hu
   rw [look,if_neg (fun e => hq e.symm)] at hu
   cases hu
  ·rintro rs oc ⟨rfl,zs,rfl,h1,h2⟩
   exact ⟨rfl,_,rfl,zs,rfl,h1,h2⟩
  rintro _ ⟨zs,rfl,hperm,hsort⟩
  have hzl:zs.length = qs.length:=hperm.length_eq
  have hzz:∀ z ∈ zs,(0 ≤ z.1.1∧z.1.1 < 10007)∧SmS z.1.2:=fun z hz => hqs z (hperm.mem_iff.1 hz)
  refine qV.opsT (qQ 100) (T:=Tab.none) (s':=?_) ?_ ?_
  rotate_left 1
  focus (simp only [Zg,seval,if_true,if_false,reduceCtorEq,Nat.reduceEqDiff];with_reducible rfl)
  refine gw140 ?_
  obtain ⟨R,hR⟩:∃ R,R = fun i => runW (zs.take i):=⟨_,rfl⟩
  have hRi:∀ i,i ≤ zs.length→(R i).length ≤ 100000∧∀ q ∈ R i,(0 ≤ q.1.1∧q.1.1 < 10007)∧SmS q.1.2:=fun i hi => by
   rw [hR]
   obtain ⟨_,_,h3,h4⟩:=runW_spec _ (zs.take i) rfl (fun q hq => hzz q (List.mem_of_mem_take hq))
   rw [List.length_take] at h3
   exact ⟨by show (runW (zs.take i)).length ≤ 100000;omega,h4⟩
  refine qJ.loop (β:=Nat) (γ:=Unit) (fun i => ⟨[(9,.c (.val (.raw (.func (.func 93) #[] #[])))),(10,.c (.own 10 (R i).length)),(53,.c (.own 4 qs.length)),(54,.c (.val (.int qs.length))),(55,.c (.val (.int i)))],[(4,.row 3 (zs.map eTeT) false),(10,.row 3 ((R i).map eTeT) false)]⟩) (fun i => i ≤ qs.length) (fun i => qs.length - i)
   (fun _ => ⟨[(10,.c (.own 10 (R qs.length).length))],[(10,.row 3 ((R qs.length).map eTeT) false)]⟩) (fun _ => True) 0 (Nat.zero_le _) ?_ ?_ ?_
  ·have e0:R 0 = []:=by rw [hR];rfl
   rw [e0]
   exact gw80
  ·intro i hi
   have hi:i ≤ qs.length:=hi
   have hw:=qD (n:=i) (by omega)
   obtain ⟨hb1,hb2⟩:=hRi i (by omega)
   have hzml:(zs.map eTeT).length = qs.length:=by rw [List.length_map,hzl]
   by_cases h:i < qs.length
   ·have hz':i < zs.length:=by omega
    have i1:((i:Int) < (qs.length:Int)) = True:=eq_true (by omega)
    have i2:((0:Int) ≤ (i:Int)) = True:=eq_true (by omega)
    obtain ⟨p,hp⟩:∃ p,p = zs[i]:=⟨_,rfl⟩
    have hpz:=hzz zs[i] (List.getElem_mem _)
    have hst:R (i + 1) = stepW (R i) p:=by
     rw [hR]
     show runW (zs.take (i + 1)) = stepW (runW (zs.take i)) p
     rw [List.take_succ_eq_append_getElem hz',← hp,runW_snoc]
    have hg:(zs.map eTeT)[i]? = some (eTeT p):=by rw [qL hz',hp]
    rw [← hp] at hpz
    obtain ⟨⟨pn,⟨pf,pg⟩⟩,⟨pF,pG⟩⟩:=p
    simp only [eTeT] at hg
    simp only at hpz
    obtain ⟨hpz1,hpz2⟩:=hpz
    have q1:=jF (n:=(R i).length + 1) (by omega)
    have q2:=jE (n:=(R i).length + 1) (c:=56) (by omega) (by omega)
    by_cases h0:R i = []
    ·rw [h0,stepW_nil] at hst
     have j1:(((0:Nat):Int) > 0) = False:=eq_false (by omega)
     rw [h0] at q1 q2 ⊢
     simp only [List.length_nil] at q1 q2
     refine gw141 (Yp i1 (Yp i2 (Yp hg (Yp hzml (Yp hw (Yp j1 (Yp q1 q2))))))) ?_
     refine qY.on (i + 1) ⟨h,by omega⟩ ?_
     rw [hst]
     exact gw142
    ·obtain ⟨qo,q,eq⟩:=(wZ (R i)).resolve_left h0
     have hlq:(R i).length = qo.length + 1:=by rw [eq];simp
     obtain ⟨hz1,hz3⟩:=hb2 q (by rw [eq];simp)
     obtain ⟨⟨qn,⟨qf,qg⟩⟩,⟨qF,qG⟩⟩:=q
     simp only at hz1 hz3
     have j1:((((qo.length + 1:Nat)):Int) > 0) = True:=eq_true (by omega)
     have hw1:w64 (((qo.length + 1:Nat):Int) - 1) = ((qo.length:Nat):Int):=by rw [qM (by omega)];omega
     have i3:((0:Int) ≤ ((qo.length:Nat):Int)) = True:=eq_true (by omega)
     have i4:(((qo.length:Nat):Int) < ((qo.length + 1:Nat):Int)) = True:=eq_true (by omega)
     have hgz:((R i).map eTeT)[qo.length]? = some [.int qn,.tag qF (.sl 1 (qf.map eL)),.tag qG (.sl 1 (qg.map eL))]:=by
      rw [eq,List.map_append,List.getElem?_append_right (by simp)];simp [eTeT]
     have hxl:((R i).map eTeT).length = qo.length + 1:=by rw [List.length_map,hlq]
     have hcm:=a_copro1 (qn,(qf,qg)) (pn,(pf,pg)) hz3 hpz2
     simp only [eTe] at hcm
     rw [hlq] at hb1 q1 q2 ⊢
     by_cases he:cmpTe (qf,qg) (pf,pg) = 0
     ·have hd:(cmpTe (qf,qg) (pf,pg) == 0) = true:=beq_iff_eq.2 he
      have hwz:=qM (n:=qn + pn) (by omega)
      refine gw143 (Yp i1 (Yp i2 (Yp i3 (Yp i4 (Yp hg (Yp hzml (Yp hgz (Yp hxl (Yp hw (Yp hw1 (Yp hd (Yp hwz j1)))))))))))) ?_
      have hR2:R (i + 1) = qo ++ [((mP (qn + pn),(qf,qg)),(qF,qG))]:=by rw [hst,eq];exact stepW_eq qo _ _ he
      have hse:((R i).map eTeT).set qo.length [.int (mP (qn + pn)),.tag qF (.sl 1 (qf.map eL)),.tag qG (.sl 1 (qg.map eL))] = (R (i + 1)).map eTeT:=by
       rw [hR2,eq,List.map_append,List.set_append_right _ _ (by simp)];simp [eTeT]
      refine qY.on (i + 1) ⟨h,by omega⟩ ?_
      have hl2:(R (i + 1)).length = qo.length + 1:=by rw [hR2];simp
      rw [hl2,← hse]
      exact gw6 Y0
     ·have hd:(cmpTe (qf,qg) (pf,pg) == 0) = false:=beq_eq_false_iff_ne.2 he
      refine gw143 (Yp i1 (Yp i2 (Yp i3 (Yp i4 (Yp hg (Yp hzml (Yp hgz (Yp hxl (Yp hw (Yp hw1 (Yp hd (Yp j1 (Yp q1 q2))))))))))))) ?_
      have hR2:R (i + 1) = R i ++ [((pn,(pf,pg)),(pF,pG))]:=by rw [hst,eq];exact stepW_ne qo _ _ he
      refine qY.on (i + 1) ⟨h,by omega⟩ ?_
      rw [hR2,List.length_append,hlq]
      exact gw144
   ·have i1:((i:Int) < (qs.length:Int)) = False:=eq_false (by omega)
    obtain rfl:i = qs.length:=by omega
    refine gw135 i1 ?_
    refine qY.out () trivial ?_
    exact gw6 Y0
  ·rintro _ _
   have hRL:R qs.length = runW zs:=by rw [hR];show runW (zs.take qs.length) = _;rw [← hzl,List.take_length]
   obtain ⟨k1,k2,k3,_⟩:=runW_spec _ zs rfl hzz
   rw [hRL]
   obtain ⟨W,hW⟩:∃ W,W = runW zs:=⟨_,rfl⟩
   rw [← hW] at k1 k2 k3 ⊢
   have hdel:=a_DeleteFuncTe eTeT (fun z => .tag z.2.1 (.sl 1 (z.1.2.1.map eL))) (fun z => .tag z.2.2 (.sl 1 (z.1.2.2.map eL))) (·.1.1) (·.1.2.1) (·.1.2.2) (fun z => decide (z.1.1 = 0)) 96 (fun _ => rfl) (fun _ => rfl) (fun _ => rfl) (fun z => a_copro2 z.1.1 z.1.2.1 z.1.2.2) W (by omega)
   have hx:sumS cmpTe (copM e) = (keepF (fun z:TeT => decide (z.1.1 = 0)) W).map (·.1):=by
    have hperm2:(zs.map (·.1)).Perm (copM e):=by rw [← hJ.eq];exact hperm.map _
    rw [← merge_sum kR hperm2 (List.pairwise_map.2 hsort) (fun q hq => (hMok q hq).1),← k1,List.filter_map]
    rfl
   have hsub:(keepF (fun z:TeT => decide (z.1.1 = 0)) W).Sublist W:=List.filter_sublist
   have hbl:((keepF (fun z:TeT => decide (z.1.1 = 0)) W).map blT).flatten.Sublist ((zs.map blT).flatten):=sub_flat3 ((hsub.map _).trans k2)
   have hp2:=(hperm.map blT).flatten
   obtain ⟨K,hK⟩:∃ K,K = keepF (fun z:TeT => decide (z.1.1 = 0)) W:=⟨_,rfl⟩
   rw [← hK] at hdel hx hbl
   have hlen:(sumS cmpTe (copM e)).length = K.length:=by rw [hx,List.length_map]
   by_cases h6:K.length ≤ 600
   ·have hco:copOf e = (sumS cmpTe (copM e),0):=by unfold copOf;rw [if_pos hE,if_pos (by omega)]
    have j1:((K.length:Int) > 600) = False:=eq_false (by omega)
    rw [hco]
    refine gw145 j1 ?_
    refine jY.un (by simp) hres hrts (r:=?_) (r':=.own 3 ((sumS cmpTe (copM e)).map eTe) true) (l:=[.val (.int 0)]) (ks:=?_) ?_ ?_ (by simp [isSl]) ?_ rfl
    rotate_left 2
    focus (simp only [jC,ares,Zg,seval,if_true,if_false,reduceCtorEq,Nat.reduceEqDiff];with_reducible rfl)
    focus simp
    rw [hx]
    refine ⟨(K.map blT).flatten,?_,fun b hb => hJ.mi b ?_,.inl ⟨3,_,_,rfl,rfl,tag_mkT _⟩⟩
    ·exact (hp2.nodup_iff.2 hJ.nd).sublist hbl
    ·exact hp2.mem_iff.1 (hbl.subset hb)
   ·have hco:copOf e = ([],3):=by unfold copOf;rw [if_pos hE,if_neg (by omega)]
    have j1:((K.length:Int) > 600) = True:=eq_true (by omega)
    rw [hco]
    refine gw145 j1 ?_
    (refine jY.mk (by simp) (rs:=?_) (ks:=?_) hres hrts ?_ ?_ ?_;rotate_left 2;(focus (simp only [Ze,Zg,seval,if_true,if_false,reduceCtorEq,Nat.reduceEqDiff,List.map_nil];with_reducible rfl));(focus simp);focus (first|with_reducible rfl|(simp only [Zv,List.map_nil];done)))
end
section
set_option maxHeartbeats 8000000 in
theorem a_l06PutO (e:Elt) (k:Int) (f:List (List Int)) (hl:e.length ≤ 1000000) (he:∀ q ∈ e,(1 ≤ q.1∧q.1 < 10007)∧SmF q.2) (hk:0 ≤ k∧k < 10007) (hf:SmF f):AOw Tryz.prog 137 [] 2 (e.map ePt) [eI k,eLL f] (· = [.own 2 ((putS cmpF e k f).map ePt) false]):=by
 by_cases hk0:k = 0
 ·subst hk0
  rw [putS_zero]
  refine AOw.of_runs (qQ 68) Tryz.func137 rfl rfl rfl gz ?_
  have hres:Tryz.f137.results.toList = [.tmp 6]:=rfl
  have hrts:Tryz.f137.resultTypes.toList = [50]:=rfl
  simp only [List.length_cons,List.length_nil,List.nil_append,List.cons_append,qU,qK,eL,eI,eLL,eB,Nat.zero_add,Nat.reduceAdd]
  intro M
  refine qJ.of ?_
  repeat' (first|with_reducible (first|refine Q1 ?_|refine Q2 ?_|refine Q3 ?_|refine Q4 ?_|refine Q5 ?_|refine Q6 ?_|refine Q7 ?_|refine Q8 ?_|refine Q9 ?_|refine Qa ?_|refine Qb ?_|refine Qc ?_|refine Qd ?_|refine Qe ?_|refine Qf ?_|refine QO ?_|refine QV 12 ?_|refine QY 12 ?_)|with_reducible ((first|apply QS (qQ 68) Tab.none|apply QC);refine QW ?_;simp only [Zg,seval,if_true,if_false,reduceCtorEq,Nat.reduceEqDiff];rfl))
  (refine jY.mk (by simp) (rs:=?_) (ks:=?_) hres hrts ?_ ?_ ?_;rotate_left 2;(focus (simp only [Ze,Zg,seval,if_true,if_false,reduceCtorEq,Nat.reduceEqDiff];with_reducible rfl));(focus simp);focus (first|with_reducible rfl|(simp only [Zv];done)))
 have hkb:(k == 0) = false:=beq_eq_false_iff_ne.2 hk0
 have hff:=eq_true hf
 refine AOw.of_runs (qQ 68) Tryz.func137 rfl rfl rfl gz ?_
 have hres:Tryz.f137.results.toList = [.tmp 6]:=rfl
 have hrts:Tryz.f137.resultTypes.toList = [50]:=rfl
 simp only [List.length_cons,List.length_nil,List.nil_append,List.cons_append,qU,qK,eL,eI,eLL,eB,Nat.zero_add,Nat.reduceAdd]
 intro M
 refine qJ.of ?_
 repeat' (first|with_reducible (first|refine Q1 ?_|refine Q2 ?_|refine Q3 ?_|refine Q4 ?_|refine Q5 ?_|refine Q6 ?_|refine Q7 ?_|refine Q8 ?_|refine Q9 ?_|refine Qa ?_|refine Qb ?_|refine Qc ?_|refine Qd ?_|refine Qe ?_|refine Qf ?_|refine QO ?_|refine QV 12 ?_|refine QY 12 ?_)|with_reducible ((first|apply QS (qQ 68) Tab.none|apply QC);refine QW ?_;simp only [Zg,seval,if_true,if_false,reduceCtorEq,Nat.reduceEqDiff,hkb];rfl))
 refine qJ.frz 0 ?_
 refine qJ.loop (β:=Nat × Bool × Elt) (γ:=Bool × Elt) (fun x => ⟨[(0,.c (.val (.sl 2 (e.map ePt)))),(1,.c (.val (.int k))),(2,.c (.val (.sl 1 (f.map eL)))),(7,.c (.own 7 x.2.2.length)),(8,.c (.val (.bool x.2.1))),(9,.c (.val (.int x.1)))],[(7,.row 2 (x.2.2.map ePt) false)]⟩) (PutI e k f) (fun x => e.length - x.1)
  (fun x => ⟨[(0,.c (.val (.sl 2 (e.map ePt)))),(1,.c (.val (.int k))),(2,.c (.val (.sl 1 (f.map eL)))),(7,.c (.own 7 x.2.length)),(8,.c (.val (.bool x.1)))],[(7,.row 2 (x.2.map ePt) false)]⟩) (fun x => PutI e k f (e.length,x)) (0,false,[]) ⟨Nat.zero_le _,fun _ => ⟨rfl,by simp⟩,(fun h => nomatch h),Nat.zero_le _⟩ ?_ ?_ ?_
 ·(repeat' (first|exact Qn|((with_reducible refine Qr ?_ ?_);focus first|with_reducible rfl|(simp only [Zz,Nat.reduceBEq,St.frz,frzR,frzH,look,AV.frz,AC.frz,Obj.frz,drop,List.map_nil,List.length_nil];done)|rfl)|((with_reducible apply Qj);rfl)|((with_reducible refine Qw ?_ ?_);(focus first|with_reducible rfl|(simp only [Zv,St.frz,frzR,frzH,look,AV.frz,AC.frz,Obj.frz,drop,List.map_nil,List.length_nil];done));first|exact id|exact nofun|exact fun _=>rfl)))
  all_goals first|exact ⟨rfl,rfl⟩|exact ⟨rfl,rfl,id⟩|exact ⟨rfl,rfl,fun h => nomatch h⟩
 ·rintro ⟨i,d,o⟩ ⟨hi,hno,hyes,hlen⟩
  simp only at hi hno hyes hlen ⊢
  have hw:=qD (n:=i) (by omega)
  have q1:=jF (n:=o.length + 1) (by omega)
  have q2:=jE (n:=o.length + 1) (c:=32) (by omega) (by omega)
  have q3:=jF (n:=o.length + 1 + 1) (by omega)
  have q4:=jE (n:=o.length + 1 + 1) (c:=32) (by omega) (by omega)
  by_cases h:i < e.length
  ·have i1:((i:Int) < (e.length:Int)) = True:=eq_true (by omega)
   have i2:((0:Int) ≤ (i:Int)) = True:=eq_true (by omega)
   obtain ⟨z,hz⟩:∃ z,z = e[i]:=⟨_,rfl⟩
   obtain ⟨⟨hz1,hz2⟩,hz3⟩:=he e[i] (List.getElem_mem _)
   have hg:(e.map ePt)[i]? = some [.int z.1,.sl 1 (z.2.map eL)]:=by rw [qL h,hz];rfl
   have hdr:e.drop i = z :: e.drop (i + 1):=by rw [hz];exact List.drop_eq_getElem_cons h
   have htk:e.take (i + 1) = e.take i ++ [z]:=by rw [hz];exact List.take_succ_eq_append_getElem h
   rw [← hz] at hz1 hz2 hz3
   have hzz:=eq_true hz3
   have hz0:(z.1 != 0) = true:=bne_iff_ne.2 (by omega)
   cases d with
   | true =>
    repeat' (first|with_reducible (first|refine Q1 ?_|refine Q2 ?_|refine Q3 ?_|refine Q4 ?_|refine Q5 ?_|refine Q6 ?_|refine Q7 ?_|refine Q8 ?_|refine Q9 ?_|refine Qa ?_|refine Qb ?_|refine Qc ?_|refine Qd ?_|refine Qe ?_|refine Qf ?_|refine QO ?_|refine QV 12 ?_|refine QY 12 ?_)|with_reducible ((first|apply QS (qQ 68) TPut|apply QC);refine QW ?_;simp only [Zg,seval,if_true,if_false,reduceCtorEq,Nat.reduceEqDiff,TPut,TPut,z10,z00,zm0,i1,i2,hg,hw,hz0,q1,q2,Int.toNat_natCast,List.length_map];rfl))
    refine qY.on (i + 1,true,o ++ [z]) ?_ ?_
    refine ⟨⟨h,(fun h => nomatch h),fun _ => ?_,?_⟩,?_⟩
    ·rw [← hyes rfl,hdr];simp
    ·simp;omega
    ·show e.length - (i + 1) < e.length - i;omega
    ·(repeat' (first|exact Qn|((with_reducible refine Qr ?_ ?_);focus first|with_reducible rfl|(simp only [Zz,Nat.reduceBEq,ePt,List.length_append,List.length_singleton];done)|rfl)|((with_reducible apply Qj);rfl)|((with_reducible refine Qw ?_ ?_);(focus first|with_reducible rfl|(simp only [Zv,ePt,List.length_append,List.length_singleton];done));first|exact id|exact nofun|exact fun _=>rfl)))
   | false =>
    obtain ⟨ho,hlow⟩:=hno rfl
    have hpa:=putS_at hk0 h hlow
    rw [← hz] at hpa
    rcases Int.lt_trichotomy (cmpF f z.2) 0 with hc|hc|hc
    ·have hs:=sgn_lt hc
     have hp:putS cmpF e k f = o ++ [(k,f)] ++ [z] ++ e.drop (i + 1):=by
      rw [hpa,ho];unfold putS;rw [if_neg hk0,if_pos hc];simp
     repeat' (first|with_reducible (first|refine Q1 ?_|refine Q2 ?_|refine Q3 ?_|refine Q4 ?_|refine Q5 ?_|refine Q6 ?_|refine Q7 ?_|refine Q8 ?_|refine Q9 ?_|refine Qa ?_|refine Qb ?_|refine Qc ?_|refine Qd ?_|refine Qe ?_|refine Qf ?_|refine QO ?_|refine QV 12 ?_|refine QY 12 ?_)|with_reducible ((first|apply QS (qQ 68) TPut|apply QC);refine QW ?_;simp only [Zg,seval,if_true,if_false,reduceCtorEq,Nat.reduceEqDiff,TPut,TPut,z10,z00,zm0,i1,i2,hg,hw,hz0,hs,hff,hzz,q1,q2,q3,q4,Int.toNat_natCast,List.length_map,List.length_append];rfl))
     refine qY.on (i + 1,true,o ++ [(k,f)] ++ [z]) ?_ ?_
     refine ⟨⟨h,(fun h => nomatch h),fun _ => hp.symm,?_⟩,?_⟩
     ·have:o.length = i:=by rw [ho,List.length_take];omega
      simp;omega
     ·show e.length - (i + 1) < e.length - i;omega
     ·(repeat' (first|exact Qn|((with_reducible refine Qr ?_ ?_);focus first|with_reducible rfl|(simp only [Zz,Nat.reduceBEq,ePt,List.length_append,List.length_singleton];done)|rfl)|((with_reducible apply Qj);rfl)|((with_reducible refine Qw ?_ ?_);(focus first|with_reducible rfl|(simp only [Zv,ePt,List.length_append,List.length_singleton];done));first|exact id|exact nofun|exact fun _=>rfl)))
    ·have hs:=sgn_eq hc
     have hab:(-9223372036854775808 ≤ z.1 + k∧z.1 + k ≤ 9223372036854775807) = True:=eq_true (by omega)
     by_cases hm:mP (z.1 + k) = 0
     ·have hmb:(mP (z.1 + k) == 0) = true:=beq_iff_eq.2 hm
      have hp:putS cmpF e k f = o ++ e.drop (i + 1):=by
       rw [hpa,ho];unfold putS;rw [if_neg hk0,if_neg (by omega),if_pos hc,if_pos hm]
      repeat' (first|with_reducible (first|refine Q1 ?_|refine Q2 ?_|refine Q3 ?_|refine Q4 ?_|refine Q5 ?_|refine Q6 ?_|refine Q7 ?_|refine Q8 ?_|refine Q9 ?_|refine Qa ?_|refine Qb ?_|refine Qc ?_|refine Qd ?_|refine Qe ?_|refine Qf ?_|refine QO ?_|refine QV 12 ?_|refine QY 12 ?_)|with_reducible ((first|apply QS (qQ 68) TPut|apply QC);refine QW ?_;simp only [Zg,seval,if_true,if_false,reduceCtorEq,Nat.reduceEqDiff,TPut,TPut,z10,z00,zm0,i1,i2,hg,hw,hm,hs,hff,hzz,hab,q1,q2,Int.toNat_natCast,List.length_map];rfl))
      refine qY.on (i + 1,true,o) ?_ ?_
      refine ⟨⟨h,(fun h => nomatch h),fun _ => hp.symm,?_⟩,?_⟩
      ·show o.length ≤ i + 1 + 1;omega
      ·show e.length - (i + 1) < e.length - i;omega
      ·(repeat' (first|exact Qn|((with_reducible refine Qr ?_ ?_);focus first|with_reducible rfl|(simp only [Zz,Nat.reduceBEq,ePt];done)|rfl)|((with_reducible apply Qj);rfl)|((with_reducible refine Qw ?_ ?_);(focus first|with_reducible rfl|(simp only [Zv,ePt];done));first|exact id|exact nofun|exact fun _=>rfl)))
     ·have hmb:(mP (z.1 + k) != 0) = true:=bne_iff_ne.2 hm
      have hp:putS cmpF e k f = o ++ [(mP (z.1 + k),z.2)] ++ e.drop (i + 1):=by
       rw [hpa,ho];unfold putS;rw [if_neg hk0,if_neg (by omega),if_pos hc,if_neg hm];simp
      repeat' (first|with_reducible (first|refine Q1 ?_|refine Q2 ?_|refine Q3 ?_|refine Q4 ?_|refine Q5 ?_|refine Q6 ?_|refine Q7 ?_|refine Q8 ?_|refine Q9 ?_|refine Qa ?_|refine Qb ?_|refine Qc ?_|refine Qd ?_|refine Qe ?_|refine Qf ?_|refine QO ?_|refine QV 12 ?_|refine QY 12 ?_)|with_reducible ((first|apply QS (qQ 68) TPut|apply QC);refine QW ?_;simp only [Zg,seval,if_true,if_false,reduceCtorEq,Nat.reduceEqDiff,TPut,TPut,z10,z00,zm0,i1,i2,hg,hw,hmb,hs,hff,hzz,hab,q1,q2,Int.toNat_natCast,List.length_map];rfl))
      refine qY.on (i + 1,true,o ++ [(mP (z.1 + k),z.2)]) ?_ ?_
      refine ⟨⟨h,(fun h => nomatch h),fun _ => hp.symm,?_⟩,?_⟩
      ·simp;omega
      ·show e.length - (i + 1) < e.length - i;omega
      ·(repeat' (first|exact Qn|((with_reducible refine Qr ?_ ?_);focus first|with_reducible rfl|(simp only [Zz,Nat.reduceBEq,ePt,List.length_append,List.length_singleton];done)|rfl)|((with_reducible apply Qj);rfl)|((with_reducible refine Qw ?_ ?_);(focus first|with_reducible rfl|(simp only [Zv,ePt,List.length_append,List.length_singleton];done));first|exact id|exact nofun|exact fun _=>rfl)))
    ·have hs:=sgn_gt hc
     repeat' (first|with_reducible (first|refine Q1 ?_|refine Q2 ?_|refine Q3 ?_|refine Q4 ?_|refine Q5 ?_|refine Q6 ?_|refine Q7 ?_|refine Q8 ?_|refine Q9 ?_|refine Qa ?_|refine Qb ?_|refine Qc ?_|refine Qd ?_|refine Qe ?_|refine Qf ?_|refine QO ?_|refine QV 12 ?_|refine QY 12 ?_)|with_reducible ((first|apply QS (qQ 68) TPut|apply QC);refine QW ?_;simp only [Zg,seval,if_true,if_false,reduceCtorEq,Nat.reduceEqDiff,TPut,TPut,z10,z00,zm0,i1,i2,hg,hw,hz0,hs,hff,hzz,q1,q2,Int.toNat_natCast,List.length_map];rfl))
     refine qY.on (i + 1,false,o ++ [z]) ?_ ?_
     refine ⟨⟨h,fun _ => ⟨by rw [htk,ho],?_⟩,(fun h => nomatch h),?_⟩,?_⟩
     ·intro q hq
      have hq:q ∈ e.take (i + 1):=hq
      rw [htk,List.mem_append,List.mem_singleton] at hq
      rcases hq with hq|rfl
      ·exact hlow q hq
      ·exact hc
     ·simp;omega
     ·show e.length - (i + 1) < e.length - i;omega
     ·(repeat' (first|exact Qn|((with_reducible refine Qr ?_ ?_);focus first|with_reducible rfl|(simp only [Zz,Nat.reduceBEq,ePt,List.length_append,List.length_singleton];done)|rfl)|((with_reducible apply Qj);rfl)|((with_reducible refine Qw ?_ ?_);(focus first|with_reducible rfl|(simp only [Zv,ePt,List.length_append,List.length_singleton];done));first|exact id|exact nofun|exact fun _=>rfl)))
  ·have i1:((i:Int) < (e.length:Int)) = False:=eq_false (by omega)
   obtain rfl:i = e.length:=by omega
   repeat' (first|with_reducible (first|refine Q1 ?_|refine Q2 ?_|refine Q3 ?_|refine Q4 ?_|refine Q5 ?_|refine Q6 ?_|refine Q7 ?_|refine Q8 ?_|refine Q9 ?_|refine Qa ?_|refine Qb ?_|refine Qc ?_|refine Qd ?_|refine Qe ?_|refine Qf ?_|refine QO ?_|refine QV 12 ?_|refine QY 12 ?_)|with_reducible ((first|apply QS (qQ 68) Tab.none|apply QC);refine QW ?_;simp only [Zg,seval,if_true,if_false,reduceCtorEq,Nat.reduceEqDiff,i1,List.length_map];rfl))
   refine qY.out (d,o) ⟨Nat.le_refl _,hno,hyes,hlen⟩ ?_
   (repeat' (first|exact Qn|((with_reducible refine Qr ?_ ?_);focus first|with_reducible rfl|(simp only [Zz,Nat.reduceBEq];done)|rfl)|((with_reducible apply Qj);rfl)|((with_reducible refine Qw ?_ ?_);(focus first|with_reducible rfl|(simp only [Zv];done));first|exact id|exact nofun|exact fun _=>rfl)))
 ·rintro ⟨d,o⟩ ⟨_,hno,hyes,hlen⟩
  simp only at hno hyes hlen ⊢
  have q1:=jF (n:=o.length + 1) (by omega)
  have q2:=jE (n:=o.length + 1) (c:=32) (by omega) (by omega)
  cases d with
  | true =>
   have hp:putS cmpF e k f = o:=by rw [← hyes rfl];simp
   rw [hp]
   repeat' (first|with_reducible (first|refine Q1 ?_|refine Q2 ?_|refine Q3 ?_|refine Q4 ?_|refine Q5 ?_|refine Q6 ?_|refine Q7 ?_|refine Q8 ?_|refine Q9 ?_|refine Qa ?_|refine Qb ?_|refine Qc ?_|refine Qd ?_|refine Qe ?_|refine Qf ?_|refine QO ?_|refine QV 12 ?_|refine QY 12 ?_)|with_reducible ((first|apply QS (qQ 68) Tab.none|apply QC);refine QW ?_;simp only [Zg,seval,if_true,if_false,reduceCtorEq,Nat.reduceEqDiff];rfl))
   (refine jY.mk (by simp) (rs:=?_) (ks:=?_) hres hrts ?_ ?_ ?_;rotate_left 2;(focus (simp only [Ze,Zg,seval,if_true,if_false,reduceCtorEq,Nat.reduceEqDiff];with_reducible rfl));(focus simp);focus (first|with_reducible rfl|(simp only [Zv];done)))
  | false =>
   obtain ⟨ho,hlow⟩:=hno rfl
   have hp:putS cmpF e k f = o ++ [(k,f)]:=by
    have h1:=wR hk0 [] hlow
    rw [List.append_nil,List.take_length] at h1
    rw [h1,ho,List.take_length]
    unfold putS;rw [if_neg hk0]
   rw [hp]
   repeat' (first|with_reducible (first|refine Q1 ?_|refine Q2 ?_|refine Q3 ?_|refine Q4 ?_|refine Q5 ?_|refine Q6 ?_|refine Q7 ?_|refine Q8 ?_|refine Q9 ?_|refine Qa ?_|refine Qb ?_|refine Qc ?_|refine Qd ?_|refine Qe ?_|refine Qf ?_|refine QO ?_|refine QV 12 ?_|refine QY 12 ?_)|with_reducible ((first|apply QS (qQ 68) TPut|apply QC);refine QW ?_;simp only [Zg,seval,if_true,if_false,reduceCtorEq,Nat.reduceEqDiff,TPut,TPut,hff,q1,q2,List.length_map];rfl))
   (refine jY.mk (by simp) (rs:=?_) (ks:=?_) hres hrts ?_ ?_ ?_;rotate_left 2;(focus (simp only [Ze,Zg,seval,if_true,if_false,reduceCtorEq,Nat.reduceEqDiff,ePt];with_reducible rfl));(focus simp);focus (first|with_reducible rfl|(simp only [Zv,ePt];done)))
end
section
def rowA:Obj→Option (List AC)
 | .lit _ [r] => some r
 | .row _ [r] _ => some (r.map .val)
 | _ => none
section
variable {P:Program} {cfg:Cfg} {M:Nat→Prop} {ops:Array Oper} {s s':St} {w0:W0} {w:World} {Ok:Nat→Prop} {N:Nat} {σ:Asg} {a:Act} {fs:List Fr} {Q:Exit→St→Prop} {T:Tab P} {H:List (Nat × Obj)}
theorem rdCs.toA:∀ {x:List D} {us:List Value},rdCs (Zn σ H w) w us x→relCs σ H w (x.map .val) us
 | [],us,h => List.eq_nil_of_length_eq_zero (by rw [h.len];rfl)
 | y :: x,us,h => by
  obtain ⟨u,us',rfl,h3,h4⟩:=h.cons_inv
  exact ⟨u,us',rfl,h3.one,h3,rdCs.toA h4⟩
theorem relCs.len:∀ {x:List AC} {us:List Value},relCs σ H w x us→us.length = x.length
 | [],_,h => by rw [show _ = [] from h];rfl
 | y :: x,_,⟨u,us',e,_,_,h⟩ => by rw [e,List.length_cons,List.length_cons,relCs.len h]
theorem Sim.rowA (h:Sim w0 Ok N σ s a w) {key:Nat} {o:Obj} (hk:look key s.heap = some o) {r:List AC} (hr:rowA o = some r) :
  o.len = 1∧0 < o.k∧∃ us,us.length = o.k∧Row w (slv (σ.g key) o.len (σ.cap key)) o.k o.len us (σ.g key)∧relCs σ s.heap w r us:=by
 unfold Go.Proofs.YtedgfkpfhonlpaaGreat.rowA at hr
 split at hr
 ·rename_i k r'
  cases hr
  obtain ⟨ds,hrow,hkp,hel⟩:=(h.rows key _ hk).row
  obtain ⟨c,d,e,hl,hc,hd⟩:=(show relRs σ s.heap w k [r] ds from hel)
  have hd:d = []:=hd
  subst hd
  rw [List.append_nil] at e
  subst e
  exact ⟨rfl,hkp,ds,hl,hrow,hc⟩
 ·rename_i k r' d
  cases hr
  obtain ⟨ds,hrow,hkp,hel⟩:=RowOK.rd h.ok1 h.rows h.disj hk
  obtain ⟨c,e,e1,hl,hcl,hc,he⟩:=hel.cons_inv
  have he:e = []:=by
   have h1:=hrow.1
   rw [e1,List.length_append,hcl] at h1
   simp only [List.length_cons,List.length_nil] at h1
   exact List.eq_nil_of_length_eq_zero (by omega)
  subst he
  rw [List.append_nil] at e1
  subst e1
  exact ⟨rfl,hkp,ds,hcl,hrow,hc.toA⟩
 ·cases hr
theorem qV.cut (C:CfgOK P cfg) (T:Tab P) (n:Nat) {l:List Oper} {Q:St→Prop} {s1:St} (ha:Work (aopsT cfg T ops (l.take n) s) (some s1)) (h:qV P cfg M ops (l.drop n) Q s1):qV P cfg M ops l Q s:=by
 have ha:aopsT cfg T ops (l.take n) s = some s1:=ha
 have cut:∀ (l m:List Oper) (s:St),aopsT cfg T ops l s = some s1→qV P cfg M ops m Q s1→qV P cfg M ops (l ++ m) Q s:=by
  intro l
  induction l with
  | nil => intro m s h1 h2;simp only [aopsT,Option.some.injEq] at h1;subst h1;exact h2
  | cons o l ih =>
   intro m s h1 h2
   simp only [aopsT] at h1
   obtain ⟨s2,h3,h4⟩:=bind_some h1
   exact qV.stepT C h3 (ih m s2 h4 h2)
 have:=cut _ _ s ha h
 rwa [List.take_append_drop] at this
theorem relCs.toD:∀ {x:List D} {us:List Value},relCs σ H w (x.map .val) us→rdCs (Zn σ H w) w us x
 | [],us,h => by rw [show us = [] from h];exact rdCs.nil
 | y :: x,_,⟨u,us',e,_,h2,h⟩ => by rw [e];exact rdCs.cons h2 (relCs.toD h)
structure AFnS (P:Program) (f:FuncId) (ds:List (List D)) (cs:List D):Prop where
 call:∀ args w,(callFunc f args).run P w = .ok (.enter f args) w
 fn:∀ (A:Nat→Prop) w vs,(∀ b,A b→b < w.heap.size)→qN A w ds vs→Calls P f vs.toArray w (fun e w' => ∃ us,e = .returned (.agg us.toArray)∧Below w.heap.size w w'∧rdCs (fun b => A b ∨ w.heap.size ≤ b) w' us cs)
def EndsS (cfg:Cfg) (fn:Func) (cs:List D) (e:Exit) (s:St):Prop :=
 (e = .normal ∨ e = .ret)∧∃ t ty key o z,fn.results = #[.cell t ty]∧look t s.regs = some (.optr key 0 0)∧look key s.heap = some o∧rowA o = some (cs.map .val)∧cfg.ty ty = some (z,true)∧z.length = cs.length
theorem AFnS.of_runs (C:CfgOK P cfg) {f:FuncId} {fn:Func} {c:Code} (hf:P.funcs[f]? = some fn) (hb:fn.body = some c) (hname:(fn.name == "runtime.NumGoroutine") = false) (hN:fn.ntmps = cfg.N) {ds:List (List D)} (hd:ds.length ≤ fn.ntmps) {cs:List D}
  (h:∀ M,qB P cfg M c (EndsS cfg fn cs) ⟨qU 0 ds,[]⟩):AFnS P f ds cs:=by
 refine ⟨enters_of hf hname hb,fun A w vs hA hv => ?_⟩
 have hlen:=hv.len
 refine calls_of_wp hf hb ?_
 have hS:=start_sim (A:=A) (N:=cfg.N) (n:=fn.ntmps - vs.length) hv (by omega)
 refine h _ ⟨w,fun _ => False⟩ A _ _ w _ rfl (by simpa using hS) (fun e s' hE σ' a' w' hS' => ?_)
 obtain ⟨he,t,ty,key,o,z,hres,ht,hk,hr,hty,hzl⟩:=hE
 obtain ⟨zv,ti,d,t1,t2,t3,t4,t5,t6,t7,t8⟩:=C.ty ty z true hty
 obtain ⟨hlen1,hkp,us,hul,hrow,hus⟩:=hS'.rowA hk hr
 obtain ⟨_,b,hg,ep⟩:=hS'.regs t _ ht o hk
 rw [Nat.zero_mul,Nat.zero_add] at ep
 rw [hg] at hrow
 have hrd:=hus.toD
 have hcl:us.length = cs.length:=hrd.len
 have hrange:w'.rangeAt b 0 us:=fun q v hq => by rw [Nat.zero_add];exact hrow.cells q v hq
 have hi:(P.info? ty).map (·.size) = some us.length:=by rw [t1,hcl,← hzl,← t3];rfl
 have hload:(loadVar ty ⟨b,0,none⟩).run P w' = .ok (.agg us.toArray) w':=run_loadVar_mid w' b 0 ty us d hrange t6 t7 hi
 have ep':a'.tmps.getD t undef = .pointer (some ⟨b,0,none⟩):=ep
 have hrun:(results fn a'.tmps).run P w' = .ok (.agg us.toArray) w':=by
  unfold results
  rw [hres,Array.mapM_eq_mapM_toList]
  rw [Array.getD_eq_getD_getElem?] at ep'
  simp [ep',asAddr,hload]
 have hm:∀ b,Zn σ' s'.heap w' b→b < w'.heap.size→A b ∨ w.heap.size ≤ b:=fun b hb _ => by
  rcases hS'.ok2 b hb.2.1 with h1|h1
  ·exact .inl h1
  ·rcases h1 with h1|h1
   ·exact .inr h1
   ·exact h1.elim
 have hfin:a'.defers = []∧∃ v,(results fn a'.tmps).run P w' = .ok v w'∧∃ us,Ending.returned v = .returned (.agg us.toArray)∧Below w.heap.size w w'∧rdCs (fun b => A b ∨ w.heap.size ≤ b) w' us cs:=⟨hS'.defers,_,hrun,us,rfl,hS'.below.below,hrd.mono hm⟩
 rcases he with rfl|rfl <;> exact hfin
end
end
section
def nxtH (h:Int):Int:=IntKind.u64.wrap (IntKind.u64.wrap (h * 6364136223846793005) + 1442695040888963407)
def nxtB (h:Int):Int:=wrap64 (bits BinOp.and IntKind.u64 (nxtH h / 8589934592) 16777215)
def nxtX (code:List Int) (i:Nat) (h:Int):Int:=if hi:i < code.length then wrap64 (nxtB h + code[i]) else nxtB h
def nxtF (code:List Int) (s:Nat × Int) (n:Int):Int × Nat × Int:=if n < 1 then (0,s) else ((nxtX code s.1 s.2).tmod n,if s.1 < code.length then s.1 + 1 else s.1,nxtH s.2)
theorem nxtB_bd (h:Int):0 ≤ nxtB h∧nxtB h ≤ 16777215:=by
 have h0:0 ≤ nxtH h∧nxtH h < 18446744073709551616:=by unfold nxtH IntKind.wrap;simp [IntKind.signed,IntKind.bits];omega
 have e:=bits_and_u64_nat (nxtH h / 8589934592).toNat 16777215 (by omega) (by omega)
 have e1:(((nxtH h / 8589934592).toNat:Nat):Int) = nxtH h / 8589934592:=by omega
 rw [e1] at e
 have hle:(nxtH h / 8589934592).toNat &&& 16777215 ≤ 16777215:=Nat.and_le_right
 unfold nxtB
 have e2:((16777215:Nat):Int) = 16777215:=rfl
 rw [e2] at e
 rw [e]
 unfold wrap64
 omega
theorem nxtX_bd {code:List Int} (hc:∀ c ∈ code,0 ≤ c∧c < 256) (i:Nat) (h:Int):0 ≤ nxtX code i h∧nxtX code i h ≤ 16777470:=by
 have h1:=nxtB_bd h
 unfold nxtX
 split
 ·rename_i hi
  have h2:=hc code[i] (List.getElem_mem _)
  unfold wrap64
  omega
 ·omega
theorem jO {code:List Int} (hc:∀ c ∈ code,0 ≤ c∧c < 256) (s:Nat × Int) (n:Int):0 ≤ (nxtF code s n).1∧((nxtF code s n).1 < n ∨ (n < 1∧(nxtF code s n).1 = 0)):=by
 unfold nxtF
 split
 ·rename_i h;exact ⟨Int.le_refl _,.inr ⟨h,rfl⟩⟩
 ·rename_i h
  have h1:=nxtX_bd hc s.1 s.2
  show 0 ≤ (nxtX code s.1 s.2).tmod n∧((nxtX code s.1 s.2).tmod n < n ∨ _)
  rw [Int.tmod_eq_emod_of_nonneg h1.1]
  exact ⟨Int.emod_nonneg _ (by omega),.inl (Int.emod_lt_of_pos _ (by omega))⟩
def Byt (w:World) (b:Nat) (oa:Option Addr) (code:List Int):Prop:=(∀ c ∈ code,0 ≤ c∧c < 256)∧(code = [] ∨ ∃ b2 off,oa = some ⟨b2,off,none⟩∧b2 ≠ b∧∀ i (h:i < code.length),w.cell? ⟨b2,off + i,none⟩ = some (.int .u8 code[i]))
theorem row_set {w:World} {b k cap0:Nat} {ds:List Value} (hr:Row w (slv (some b) 1 cap0) k 1 ds (some b)) (j:Nat) (u:Value):Row (w.setCell ⟨b,j,none⟩ u) (slv (some b) 1 cap0) k 1 (ds.set j u) (some b):=(hr.store j u).1
theorem bel_set {w0:World} {w:World} {b:Nat} (h:Bel ⟨w0,fun c => c = b⟩ w) (j:Nat) (u:Value):Bel ⟨w0,fun c => c = b⟩ (w.setCell ⟨b,j,none⟩ u) :=
 ⟨h.os,h.tape,h.output,by simpa using h.size,fun k hk hn => (heap_setCell_other w ⟨b,j,none⟩ k u (fun e => hn e)).trans (h.block k hk hn)⟩
theorem row_drew {w:World} {b k cap0:Nat} {ds:List Value} (hr:Row w (slv (some b) 1 cap0) k 1 ds (some b)) (n:Nat):Row (w.drewN n) (slv (some b) 1 cap0) k 1 ds (some b):=hr
theorem bel_drew {w0:World} {w:World} {b:Nat} (h:Bel ⟨w0,fun c => c = b⟩ w) (n:Nat):Bel ⟨w0,fun c => c = b⟩ (w.drewN n):=⟨h.os,h.tape,h.output,h.size,h.block⟩
theorem bel_refl (w:World) (b:Nat):Bel ⟨w,fun c => c = b⟩ w:=⟨rfl,rfl,rfl,Nat.le_refl _,fun _ _ _ => rfl⟩
def RetN (w:World) (b:Nat) (oa:Option Addr) (cap cap0:Nat) (code:List Int) (r:Int × Nat × Int) (e:Ending) (w':World):Prop :=
 e = .returned (.int .i64 r.1)∧Row w' (slv (some b) 1 cap0) 3 1 [.slice oa code.length cap,.int .i64 r.2.1,.int .u64 r.2.2] (some b)∧Bel ⟨w,fun c => c = b⟩ w'
set_option maxRecDepth 100000 in
set_option maxHeartbeats 1000000 in
theorem c_l01Next (w:World) (b:Nat) (oa:Option Addr) (code:List Int) (cap cap0:Nat) (s:Nat × Int) (n:Int) (hr:Row w (slv (some b) 1 cap0) 3 1 [.slice oa code.length cap,.int .i64 s.1,.int .u64 s.2] (some b)) (hB:Byt w b oa code) (hn:qC n) (hat:s.1 ≤ code.length) (hl:code.length ≤ 1000000000) :
  Calls Tryz.prog 82 #[.pointer (some ⟨b,0,none⟩),.int .i64 n] w (RetN w b oa cap cap0 code (nxtF code s n)):=by
 obtain ⟨i,h⟩:=s
 have c0:=hr.cells 0 _ rfl
 have c1:=hr.cells 1 _ rfl
 have c2:=hr.cells 2 _ rfl
 have f0:=hr.frozen 0
 have f1:=hr.frozen 1
 have f2:=hr.frozen 2
 have hlt:=hr.lt b rfl
 simp only at c0 c1 c2 hat
 have HR:=Lib.hid hr
 by_cases hn1:n < 1
 ·have hF:nxtF code (i,h) n = (0,i,h):=if_pos hn1
  rw [hF]
  clear hr hB hF
  go_enter Tryz.func82,Tryz.ntmps82
  go_wp2
  go_ret
  exact ⟨rfl,HR.out,bel_refl w b⟩
 ·have hF:nxtF code (i,h) n = ((nxtX code i h).tmod n,if i < code.length then i + 1 else i,nxtH h):=if_neg hn1
  rw [hF]
  by_cases ha:i < code.length
  ·obtain ⟨b2,off,e,hne,hg⟩:=hB.2.resolve_left (fun e => by rw [e] at ha;cases ha)
   have hgi:=hg i ha
   clear hg
   have hc:=hB.1 code[i] (List.getElem_mem _)
   have hX:nxtX code i h = wrap64 (nxtB h + code[i]):=dif_pos ha
   rw [hX,if_pos ha]
   obtain ⟨c,hce⟩:∃ c,c = code[i]:=⟨_,rfl⟩
   rw [← hce] at hgi hc ⊢
   have hwc:wrap64 c = c:=by unfold wrap64;omega
   subst e
   clear hr hB hce hF hX
   go_enter Tryz.func82,Tryz.ntmps82
   go_wp2
   go_quiet (fail)
   go_wp2
   go_quiet (fail)
   go_wp2
   go_ret
   exact ⟨rfl,row_set (row_drew (row_set HR.out 2 _) _) 1 _,bel_set (bel_drew (bel_set (bel_refl w b) 2 _) _) 1 _⟩
  ·have hX:nxtX code i h = nxtB h:=dif_neg ha
   rw [hX,if_neg ha]
   clear hr hB hF hX
   go_enter Tryz.func82,Tryz.ntmps82
   go_wp2
   go_quiet (fail)
   go_wp2
   go_ret
   exact ⟨rfl,row_drew (row_set HR.out 2 _) _,bel_drew (bel_set (bel_refl w b) 2 _) _⟩
def hshS (m:Int) (h c:Int):Int:=IntKind.u64.wrap (IntKind.u64.wrap (IntKind.u64.wrap (h * 1099511628211) + c) + m)
def hshF (m h0:Int) (code:List Int):Int:=code.foldl (hshS m) h0
theorem hshF_snoc (m h0:Int) (code:List Int) (k:Nat) (h:k < code.length):hshF m h0 (code.take (k + 1)) = hshS m (hshF m h0 (code.take k)) code[k]:=by
 unfold hshF
 rw [List.take_succ_eq_append_getElem h,List.foldl_append];rfl
def RetP (w:World) (oa:Option Addr) (cap:Nat) (code:List Int) (h:Int) (e:Ending) (w':World):Prop :=
 e = .returned (.pointer (some ⟨w.heap.size,0,none⟩))∧Row w' (slv (some w.heap.size) 1 1) 3 1 [.slice oa code.length cap,.int .i64 0,.int .u64 h] (some w.heap.size)∧Below w.heap.size w w'
theorem cell_lt {w:World} {b off:Nat} {v:Value} (h:w.cell? ⟨b,off,none⟩ = some v):b < w.heap.size:=by
 rcases Nat.lt_or_ge b w.heap.size with h1|h1
 ·exact h1
 ·rw [World.cell?] at h
  simp [Array.getElem?_eq_none h1] at h
theorem byt_below {w w':World} {n b off:Nat} {v:Value} (hb:Below n w w') (hlt:b < n) (h:w.cell? ⟨b,off,none⟩ = some v):w'.cell? ⟨b,off,none⟩ = some v:=by
 rw [World.cell?] at h ⊢
 rw [hb.block b hlt]
 exact h
set_option maxRecDepth 100000 in
set_option maxHeartbeats 2000000 in
theorem c_l01From (w:World) (oa:Option Addr) (code:List Int) (cap:Nat) (hB:Byt w w.heap.size oa code) (hcap:code.length ≤ cap) (hnil:oa = none→cap = 0) (hl:code.length ≤ 1000000000) :
  Calls Tryz.prog 64 #[.slice oa code.length cap] w (RetP w oa cap code (hshF 11 (5381 + code.length) (code.take 4096))):=by
 unfold RetP
 have HB:=Lib.hid hB
 obtain ⟨h0,hh0⟩:∃ h0,h0 = 5381 + (code.length:Int):=⟨_,rfl⟩
 rw [← hh0]
 have HH:=Lib.hid hh0
 clear hB hh0
 go_enter Tryz.func64,Tryz.ntmps64
 go_wp2
 go_loopw [4] (fun i wr => ∃ k:Nat,k ≤ code.length∧k ≤ 4096∧i = .int .i64 k∧Row wr (slv (some w.heap.size) 1 1) 3 1 [.slice oa code.length cap,.int .i64 0,.int .u64 (hshF 11 h0 (code.take k))] (some w.heap.size)∧Below w.heap.size w wr) (fun i _ => code.length - (intOf i).toNat)
 case atStart =>
  refine ⟨0,Nat.zero_le _,Nat.zero_le _,rfl,?_,?_⟩
  ·rw [List.take_zero]
   show Row _ _ 3 1 [_,_,.int .u64 h0] _
   rw [HH.out]
   exact Row.lit w #[.slice oa code.length cap,.int .i64 0,.int .u64 _] _ 3 1 (by decide) rfl
  ·exact (Below.refl _ _).alloc (Nat.le_refl _) _
 case round =>
  obtain ⟨k,hk,hk2,rfl,hrow,hbel⟩:=hrel
  have c0:=hrow.cells 0 _ rfl
  have c2:=hrow.cells 2 _ rfl
  have f2:=hrow.frozen 2
  have hlt:=hrow.lt _ rfl
  have HR:=Lib.hid hrow
  have HL:=Lib.hid hbel
  clear hrow hbel
  by_cases hlt1:k < code.length
  ·by_cases hlt2:k < 4096
   ·have hB:=HB.out
    obtain ⟨b2,off,e,hne,hg⟩:=hB.2.resolve_left (fun e => by rw [e] at hlt1;cases hlt1)
    have hgi:=byt_below HL.out (cell_lt (hg k hlt1)) (hg k hlt1)
    have hc:=hB.1 code[k] (List.getElem_mem _)
    have hst:=hshF_snoc 11 h0 code k hlt1
    obtain ⟨c,hce⟩:∃ c,c = code[k]:=⟨_,rfl⟩
    rw [← hce] at hgi hc hst
    subst e
    have HS:=Lib.hid hst
    clear hB hg hce hst
    obtain ⟨h,hh⟩:∃ h,h = hshF 11 h0 (code.take k):=⟨_,rfl⟩
    rw [← hh] at HR HS c2
    clear hh
    go_wp2_with fail
    go_region
    go_wp2_with fail
    go_roundw
    case rel =>
     refine ⟨k + 1,by omega,by omega,by go_num,?_,?_⟩
     ·rw [HS.out]
      exact row_set HR.out 2 _
     ·have hz:Below w.heap.size w (wr.setCell ⟨w.heap.size,2,none⟩ (.int .u64 (hshS 11 h c))):=HL.out.setCell (Nat.le_refl _) _
      exact ⟨hz.os,hz.tape,hz.output,hz.size,hz.block⟩
    case measure => simp [intOf];omega
   ·obtain rfl:k = 4096:=by omega
    go_wp2_with fail
    go_ret
    exact ⟨rfl,HR.out,HL.out⟩
  ·have e:code.take 4096 = code.take k:=by rw [List.take_of_length_le (by omega),List.take_of_length_le (by omega)]
   have HE:=Lib.hid e
   clear e
   go_wp2_with fail
   go_ret
   rw [HE.out]
   exact ⟨rfl,HR.out,HL.out⟩
end
section
structure AFnP (P:Program) (f:FuncId) (ds:List (List D)) (r:List D):Prop where
 call:∀ args w,(callFunc f args).run P w = .ok (.enter f args) w
 fn:∀ (A:Nat→Prop) w vs,(∀ b,A b→b < w.heap.size)→qN A w ds vs →
  Calls P f vs.toArray w (fun e w' => ∃ b ds',e = .returned (.pointer (some ⟨b,0,none⟩))∧w.heap.size ≤ b∧Below w.heap.size w w'∧Row w' (slv (some b) 1 1) r.length 1 ds' (some b)∧0 < r.length∧rdCs (fun c => (A c ∨ w.heap.size ≤ c)∧c ≠ b) w' ds' r)
section
variable {P:Program} {cfg:Cfg} {M:Nat→Prop} {ops:Array Oper} {s s':St} {w0:W0} {w:World} {Ok:Nat→Prop} {N:Nat} {σ:Asg} {a:Act} {fs:List Fr} {Q:Exit→St→Prop} {T:Tab P} {H:List (Nat × Obj)}
theorem rdR_one {A:Nat→Prop} {w:World} {k:Nat} {ds:List Value} {r:List D} (h:rdR k A w ds [r]):rdCs A w ds r:=by
 obtain ⟨c,e,rfl,_,_,h1,h2⟩:=h.cons_inv
 have he:e = []:=List.eq_nil_of_length_eq_zero (by rw [h2.len];simp)
 rw [he,List.append_nil];exact h1
theorem qV.callR (C:CfgOK P cfg) {o:Oper} {l:List Oper} {Q:St→Prop} (hg:o.guard = Option.none) {d:Nat} (hd:o.dst = some d) (hdN:d < cfg.N) {f:Operand} {args:Array Operand} {ts:Array TypeId} (ho:o.op = .call ⟨.value f,args,ts⟩) {g:FuncId} (hf:((opv s.regs f).bind avD).bind fnId = some g)
  {ds:List (List D)} (hds:aargs cfg (fun k => look k s.heap) s.regs args.toList ts.toList = some ds) (hs:qO s.regs args.toList = []) {r:List D} (hfn:AFnP P g ds r) (hfr:fresh s d = true) (h:∀ b,qV P cfg M ops l Q ⟨insR d (.optr d 0 0) s.regs,insR d (.pin (some b) 1 r.length [r]) s.heap⟩):qV P cfg M ops (o :: l) Q s:=by
 intro w0 Ok σ a w Q' hM hS hQ
 refine wpList_step (fun K hK => ?_)
 have hw:jJ ops s.regs o = some true:=by unfold jJ;rw [hg]
 rw [kQ hS hw]
 simp only [if_true]
 obtain ⟨_,l2⟩:=kI C hS hds
 have hfv:a.eval f = .func (.func g) #[] #[]:=wL hS hf
 have hrun:(execOp a.eval o).run P w = .ok (.enter g (args.map a.eval)) w:=by
  unfold execOp
  rw [ho]
  simp [resolve,Deferred.ofValue,hfv,invoke,hfn.call]
 have hcall:=hfn.fn (Zn σ s.heap w) w (args.toList.map a.eval) (fun _ h => h.1) (l2 hs)
 unfold Oper.wp
 rw [hrun,Oper.upon_enter]
 have e:(args.toList.map a.eval).toArray = args.map a.eval:=by rw [← Array.toList_map,Array.toArray_toList]
 rw [← e]
 refine hcall.mono ?_
 rintro e w' ⟨b,ds',rfl,hb,hB,hrow,hk,hrd⟩
 have hfree:=kX hfr
 obtain ⟨σ',k0,k1,k2,hZ,hS'⟩:=hS.new hB d (.row r.length [r] false) hfree (some b) 1 [] ds' hrow hk (fun σ' hok hF hg' hgo hZ hst => by
  show rdR r.length (Zn σ' _ w') w' ds' [r]
  refine rdR.single hk rfl (hrd.mono (fun c hc hlt => ?_))
  rcases hc.1 with h1|h1
  ·exact (hZ c h1).1
  ·refine ⟨hlt,by rw [hok];exact hS.ok1 c (.inl (Nat.le_trans hS.below.size h1)),fun q u hq e => ?_⟩
   simp only [look] at hq
   by_cases hqd:d = q
   ·subst hqd
    rw [hg'] at e
    cases e
    exact hc.2 rfl
   ·rw [if_neg hqd] at hq
    rw [hgo q (fun e => hqd e.symm)] at e
    have:=yN hS hq c (qE e)
    omega) (fun c hc => by
   have hc:c ∈ [b] ++ []:=hc
   rw [List.append_nil,List.mem_singleton] at hc
   rw [hc];exact hb) (by simp)
 have hS2:=Sim.setObj hS' (key:=d) (u:=.row r.length [r] false) (ob:=.pin (some b) 1 r.length [r]) (by simp [look]) rfl rfl rfl (fun H' hm _ ds _ hel => by
  have hel:rdR r.length (Zn σ' _ w') w' ds [r]:=hel
  exact ⟨k1,k2,hel.mono (fun c hc _ => hm c hc)⟩)
 have hS3:Sim w0 Ok cfg.N σ' ⟨s.regs,insR d (.pin (some b) 1 r.length [r]) s.heap⟩ a w':=hS2.forget (fun _ _ h => h) (fun q o' ho' => by
  rw [jW] at ho'
  rw [jW]
  by_cases e:d = q
  ·rw [if_pos e] at ho' ⊢;exact ho'
  ·rw [if_neg e] at ho' ⊢
   simp only [look]
   rw [if_neg e];exact ho')
 show K (a.put o.dst _) _
 rw [hd]
 refine hK _ _ (h b w0 Ok σ' _ _ Q' hM (Sim.ins hS3 hdN ?_) hQ)
 intro o' ho'
 rw [jW,if_pos rfl] at ho'
 cases ho'
 exact ⟨Nat.zero_lt_one,b,k1,by simp⟩
end
def eU (c:Int):List D:=[.raw (.int .u8 c)]
def dCode (code:List Int):D:=.sl 1 (code.map eU)
def eCode (code:List Int):List D:=[dCode code]
def srcD (code:List Int) (s:Nat × Int):List D:=[.sl 1 (code.map eU),.int s.1,.raw (.int .u64 s.2)]
def jZ (code:List Int):Prop:=∀ c ∈ code,0 ≤ c∧c < 256
theorem rdU {A:Nat→Prop} {w:World}:∀ {code:List Int} {ds:List Value} {d:Nat} {hk:0 < 1},rdL (RK 1 hk (RC d)) A w ds (code.map eU)→ds = code.map fun c => Value.int .u8 c
 | [],_,_,_,h => h
 | c :: code,ds,d,hk,⟨c1,d1,e,h1,h2⟩ => by
  obtain ⟨_,_,h3⟩:=h1
  have h3:=vK.1 h3
  have hc:c1 = [Value.int .u8 c]:=by
   have:rdV A w (c1.headD undef) (.raw (.int .u8 c)):=by
    obtain ⟨x,rfl⟩:∃ x,c1 = [x]:=by
     have:=(RC d).rd_len h3
     rw [RC_k] at this
     match c1,this with
     | [x],_ => exact ⟨x,rfl⟩
    exact ⟨d,h3⟩
   have hl:=(RC d).rd_len h3
   rw [RC_k] at hl
   match c1,hl,this with
   | [x],_,this => rw [show x = _ from (yE.1 this).1]
  rw [e,hc,rdU h2];rfl
theorem byt_of {A:Nat→Prop} {w:World} {v:Value} {code:List Int} {b:Nat} (hb:¬ A b) (hc:jZ code) (h:rdV A w v (.sl 1 (code.map eU))):∃ oa cap,v = .slice oa code.length cap∧code.length ≤ cap∧cap ≤ maxLen∧(oa = none→cap = 0)∧Byt w b oa code:=by
 obtain ⟨oa,cap,ds,rfl,h1,h2,h3,h4,h5⟩:=yL.1 h
 rw [List.length_map] at h1 ⊢
 refine ⟨oa,cap,rfl,h1,h2,h3,hc,?_⟩
 obtain ⟨d,hk,h4⟩:=h4
 have e:=rdU h4
 rcases h5 with h5|⟨b2,off,h5,h6,h7⟩
 ·left
  rw [h5] at e
  cases code with
  | nil => rfl
  | cons => cases e
 ·by_cases hn:code = []
  ·exact .inl hn
  ·refine .inr ⟨b2,off,h5,fun e => hb (e ▸ h6),fun i hi => h7 i _ ?_⟩
   rw [e,List.getElem?_map,List.getElem?_eq_getElem hi];rfl
theorem jK {code:List Int} {s:Nat × Int} {n:Int} (h:s.1 ≤ code.length):(nxtF code s n).2.1 ≤ code.length:=by
 unfold nxtF
 split
 ·exact h
 ·show (if s.1 < code.length then s.1 + 1 else s.1) ≤ _
  split <;> omega
noncomputable def nxtG (code:List Int) (k:Nat) (xs:List (List D)) (post:List (List D)):Option (List Res × List (List D)):=by
 classical
 exact if h:∃ p:(Nat × Int) × Int,p.1.1 ≤ code.length∧k = 3∧xs = [srcD code p.1]∧post = [eI p.2] then some ([.val (.int (nxtF code h.choose.1 h.choose.2).1)],[srcD code (nxtF code h.choose.1 h.choose.2).2]) else none
noncomputable def nxtE (code:List Int):PinE:=⟨true,nxtG code⟩
theorem srcD_inj {code:List Int} {s s':Nat × Int} (h:srcD code s = srcD code s'):s = s':=by
 unfold srcD at h
 simp only [List.cons.injEq,D.int.injEq,D.raw.injEq,Value.int.injEq,true_and,and_true] at h
 exact Prod.ext (by omega) h.2
theorem yD (code:List Int) (s:Nat × Int) (n:Int) (h:s.1 ≤ code.length):nxtG code 3 [srcD code s] [eI n] = some ([.val (.int (nxtF code s n).1)],[srcD code (nxtF code s n).2]):=by
 unfold nxtG
 have hx:∃ p:(Nat × Int) × Int,p.1.1 ≤ code.length∧3 = 3∧[srcD code s] = [srcD code p.1]∧[eI n] = [eI p.2]:=⟨(s,n),h,rfl,rfl,rfl⟩
 rw [dif_pos hx]
 obtain ⟨_,_,h2,h3⟩:=hx.choose_spec
 have e1:=srcD_inj (List.cons.inj h2).1
 have e2:n = hx.choose.2:=by
  exact D.int.inj (List.cons.inj (List.cons.inj h3).1).1
 rw [← e1,← e2]
section
variable {P:Program} {f:FuncId} {code:List Int} (hc:jZ code) (eg:∀ args w,(callFunc f args).run P w = .ok (.enter f args) w)
 (hw:∀ (w:World) (b:Nat) (oa:Option Addr) (cap cap0:Nat) (s:Nat × Int) (n:Int),Row w (slv (some b) 1 cap0) 3 1 [.slice oa code.length cap,.int .i64 s.1,.int .u64 s.2] (some b)→Byt w b oa code→qC n→s.1 ≤ code.length→code.length ≤ 1000000000 →
  Calls P f #[.pointer (some ⟨b,0,none⟩),.int .i64 n] w (RetN w b oa cap cap0 code (nxtF code s n)))
include hc eg hw
theorem nxt_ok (hl:code.length ≤ 1000000000) (k:Nat) (xs:List (List D)) (post:List (List D)) (x:List Res × List (List D)) (hx:(nxtE code).fn k xs post = some x):AEp P f (nxtE code).ptr k xs post (fun rs xs' => rs = x.1∧xs' = x.2):=by
 have hx:nxtG code k xs post = some x:=hx
 have key:∃ (s:Nat × Int) (n:Int),s.1 ≤ code.length∧k = 3∧xs = [srcD code s]∧post = [eI n]:=by
  unfold nxtG at hx
  split at hx
  ·rename_i h;obtain ⟨p,h1,h2,h3,h4⟩:=h;exact ⟨p.1,p.2,h1,h2,h3,h4⟩
  ·cases hx
 obtain ⟨s,n,h1,rfl,rfl,rfl⟩:=key
 rw [yD code s n h1] at hx
 cases hx
 refine ⟨eg,fun A w us og cap0 ds hA hu hrow hk hrd hb => ?_⟩
 obtain ⟨b,hog⟩:=hrow.some_of (j:=0) Nat.zero_lt_one
 subst hog
 obtain ⟨cap1,hcv,_,_⟩:=hrow.slice
 have hb:=hb b rfl
 obtain ⟨u,us',rfl,hu1,hu2⟩:=hu
 have hu2:us' = []:=hu2
 subst hu2
 obtain ⟨rfl,hn⟩:=jQ.1 hu1
 have hrd:=rdR_one hrd
 obtain ⟨v0,ds1,rfl,hv0,hrd⟩:=hrd.cons_inv
 obtain ⟨v1,ds2,rfl,hv1,hrd⟩:=hrd.cons_inv
 obtain ⟨v2,ds3,rfl,hv2,hrd⟩:=hrd.cons_inv
 have hd3:ds3 = []:=List.eq_nil_of_length_eq_zero hrd.len
 subst hd3
 obtain ⟨rfl,hi⟩:=jQ.1 hv1
 obtain ⟨rfl,_⟩:=yE.1 hv2
 obtain ⟨oa,cap,rfl,hcap,hcm,hnil,hB⟩:=byt_of hb hc hv0
 refine (hw w b oa cap cap0 s n hrow hB hn h1 hl).mono ?_
 rintro e w' ⟨rfl,hrow',hbel⟩
 have hbd:=jO hc s n
 have hin:qC (nxtF code s n).1:=by unfold qC at hn ⊢;omega
 have hat:=jK (n:=n) h1
 refine ⟨_,_,_,[.slice oa code.length cap,.int .i64 (nxtF code s n).2.1,.int .u64 (nxtF code s n).2.2],[.int .i64 (nxtF code s n).1],[],[],rfl,⟨rfl,rfl⟩,⟨hbel.os,hbel.tape,hbel.output,hbel.size,fun c hc hne => hbel.block c hc (fun e => hne (by show some b = some c;rw [show c = b from e]))⟩,rfl,List.nodup_nil,(by simp),?_,rfl,hrow',?_⟩
 ·exact ⟨_,[],[],[],[],[],rfl,rfl,rfl,rfl,⟨jQ.2 ⟨rfl,hin⟩,rfl,rfl⟩,rfl,rfl,rfl⟩
 ·refine rdR.single (by decide) rfl (.cons ((hv0.frame (fun c hA' hlt => hbel.block c hlt (fun e => hb (e ▸ hA')))).mono (fun c hA' _ => ⟨.inl hA',by simp,fun e => hb (by cases e;exact hA')⟩)) (.cons (jQ.2 ⟨rfl,?_⟩) (.cons (yE.2 ⟨rfl,rfl⟩) .nil)))
  unfold qC;omega
end
section
variable {P:Program} {f:FuncId} {code:List Int} (hc:jZ code)
include hc
theorem frm_ok (eg:∀ args w,(callFunc f args).run P w = .ok (.enter f args) w) {xs:List (List D)} {us0:List Value} (hxs:∀ A w us,qN A w xs us→us = us0) {h:Int}
  (hw:∀ (w:World) (oa:Option Addr) (cap:Nat),Byt w w.heap.size oa code→code.length ≤ cap→(oa = none→cap = 0)→Calls P f (.slice oa code.length cap :: us0).toArray w (RetP w oa cap code h)) :
  AFnP P f (eCode code :: xs) (srcD code (0,h)):=by
 refine ⟨eg,fun A w vs hA hv => ?_⟩
 obtain ⟨v,us,rfl,hv1,hv2⟩:=hv
 obtain rfl:=hxs _ _ _ hv2
 have hv1:rdV A w v (.sl 1 (code.map eU)):=hv1
 obtain ⟨oa,cap,rfl,hcap,hcm,hnil,hB⟩:=byt_of (b:=w.heap.size) (fun h => Nat.lt_irrefl _ (hA _ h)) hc hv1
 refine (hw w oa cap hB hcap hnil).mono ?_
 rintro e w' ⟨rfl,hrow,hbel⟩
 refine ⟨_,_,rfl,Nat.le_refl _,hbel,hrow,(by show 0 < 3;omega),?_⟩
 refine .cons ((hv1.frame (fun c hA' hlt => hbel.block c hlt)).mono (fun c hA' _ => ⟨.inl hA',by have:=hA c hA';omega⟩)) (.cons (jQ.2 ⟨rfl,by unfold qC;omega⟩) (.cons (yE.2 ⟨rfl,rfl⟩) .nil))
end
theorem kO {code:List Int} (hc:jZ code) (hl:code.length ≤ 1000000000) (k:Nat) (xs:List (List D)) (post:List (List D)) (x:List Res × List (List D)) (hx:(nxtE code).fn k xs post = some x):AEp Tryz.prog 82 (nxtE code).ptr k xs post (fun rs xs' => rs = x.1∧xs' = x.2) :=
 nxt_ok hc (enters_of Tryz.func82 rfl rfl) (fun w b oa cap cap0 s n h1 h2 h3 h4 h5 => c_l01Next w b oa code cap cap0 s n h1 h2 h3 h4 h5) hl k xs post x hx
def src0 (code:List Int):Nat × Int:=(0,hshF 11 (5381 + code.length) (code.take 4096))
theorem p_l01From {code:List Int} (hc:jZ code) (hl:code.length ≤ 1000000000):AFnP Tryz.prog 64 [eCode code] (srcD code (src0 code)) :=
 frm_ok (xs:=[]) hc (enters_of Tryz.func64 rfl rfl) (us0:=[]) (fun _ _ _ h => h) (fun w oa cap h1 h2 h3 => c_l01From w oa code cap h1 h2 h3 hl)
end
end Go.Proofs.YtedgfkpfhonlpaaGreat

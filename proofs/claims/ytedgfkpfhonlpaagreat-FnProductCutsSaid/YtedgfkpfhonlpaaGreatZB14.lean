/- Lemmas (14). -/
import Derived.Test.YtedgfkpfhonlpaaGreatZB3
import Derived.Test.YtedgfkpfhonlpaaGreatZB4
import Derived.Test.YtedgfkpfhonlpaaGreatZB7
import Derived.Test.YtedgfkpfhonlpaaGreatZB8
import Derived.Test.YtedgfkpfhonlpaaGreatZB9
import Derived.Test.YtedgfkpfhonlpaaGreatZB11
import Derived.Test.YtedgfkpfhonlpaaGreatZB12
import Derived.Test.YtedgfkpfhonlpaaGreatZB13
set_option maxHeartbeats 16000000
set_option maxRecDepth 100000
set_option linter.unusedSimpArgs false
set_option linter.unusedVariables false
namespace Go.Proofs
open Go.Shelf
def Tryz.sortTe_ren:Go.Shelf.Ren:=⟨fun|6 => 94|15 => 160|14 => 159|28 => 212|29 => 213|20 => 204|21 => 205|22 => 206|23 => 207|24 => 208|25 => 209|26 => 210|27 => 211|46 => 250|47 => 251|48 => 252|49 => 253|50 => 254|57 => 272|n => n,fun|22 => 65|24 => 69|25 => 118|3 => 3|39 => 137|0 => 0|53 => 214|55 => 28|4 => 4|46 => 208|45 => 207|50 => 185|5 => 5|9 => 9|66 => 236|70 => 240|76 => 252|77 => 253|n => n,fun|n => n⟩
theorem Tryz.sortTe:Go.Proofs.SlLaysF0.n6 Tryz.prog Tryz.sortTe_ren:={
 mixed:=by kernel_rfl
 f6:=⟨Tryz.f94.name,by decide,Tryz.func94.trans (congrArg some (by kernel_rfl))⟩
 f14:=⟨Tryz.f159.name,by decide,Tryz.func159.trans (congrArg some (by kernel_rfl))⟩
 f15:=Tryz.func160.trans (congrArg some (by kernel_rfl))
 f20:=⟨Tryz.f204.name,by decide,Tryz.func204.trans (congrArg some (by kernel_rfl))⟩
 f21:=⟨Tryz.f205.name,by decide,Tryz.func205.trans (congrArg some (by kernel_rfl))⟩
 f22:=⟨Tryz.f206.name,by decide,Tryz.func206.trans (congrArg some (by kernel_rfl))⟩
 f23:=⟨Tryz.f207.name,by decide,Tryz.func207.trans (congrArg some (by kernel_rfl))⟩
 f24:=⟨Tryz.f208.name,by decide,Tryz.func208.trans (congrArg some (by kernel_rfl))⟩
 f25:=⟨Tryz.f209.name,by decide,Tryz.func209.trans (congrArg some (by kernel_rfl))⟩
 f26:=⟨Tryz.f210.name,by decide,Tryz.func210.trans (congrArg some (by kernel_rfl))⟩
 f27:=⟨Tryz.f211.name,by decide,Tryz.func211.trans (congrArg some (by kernel_rfl))⟩
 f28:=Tryz.func212.trans (congrArg some (by kernel_rfl))
 f29:=Tryz.func213.trans (congrArg some (by kernel_rfl))
 f46:=⟨Tryz.f250.name,by decide,Tryz.func250.trans (congrArg some (by kernel_rfl))⟩
 f47:=Tryz.func251.trans (congrArg some (by kernel_rfl))
 f48:=Tryz.func252.trans (congrArg some (by kernel_rfl))
 f49:=⟨Tryz.f253.name,by decide,Tryz.func253.trans (congrArg some (by kernel_rfl))⟩
 f50:=⟨Tryz.f254.name,by decide,Tryz.func254.trans (congrArg some (by kernel_rfl))⟩
 f57:=⟨Tryz.f272.name,by decide,Tryz.func272.trans (congrArg some (by kernel_rfl))⟩
 t0:=Tryz.underlying0
 a0:=Tryz.isAgg0
 z0:=Tryz.sizeOf0
 v0:=Tryz.zeroValue0
 t3:=Tryz.underlying3
 a3:=Tryz.isAgg3
 z3:=Tryz.sizeOf3
 v3:=Tryz.zeroValue3
 t4:=Tryz.underlying4
 a4:=Tryz.isAgg4
 z4:=Tryz.sizeOf4
 v4:=Tryz.zeroValue4
 t5:=Tryz.underlying5
 a5:=Tryz.isAgg5
 z5:=Tryz.sizeOf5
 v5:=Tryz.zeroValue5
 t9:=Tryz.underlying9
 a9:=Tryz.isAgg9
 z9:=Tryz.sizeOf9
 v9:=Tryz.zeroValue9
 t22:=Tryz.underlying65
 a22:=Tryz.isAgg65
 z22:=Tryz.sizeOf65
 v22:=Tryz.zeroValue65
 t25:=Tryz.underlying118
 a25:=Tryz.isAgg118
 z25:=Tryz.sizeOf118
 v25:=Tryz.zeroValue118
 t39:=Tryz.underlying137
 a39:=Tryz.isAgg137
 z39:=Tryz.sizeOf137
 v39:=Tryz.zeroValue137
 t45:=Tryz.underlying207
 a45:=Tryz.isAgg207
 z45:=Tryz.sizeOf207
 v45:=Tryz.zeroValue207
 t46:=Tryz.underlying208
 a46:=Tryz.isAgg208
 z46:=Tryz.sizeOf208
 v46:=Tryz.zeroValue208
 t50:=Tryz.underlying185
 a50:=Tryz.isAgg185
 z50:=Tryz.sizeOf185
 v50:=Tryz.zeroValue185
 t53:=Tryz.underlying214
 a53:=Tryz.isAgg214
 z53:=Tryz.sizeOf214
 v53:=Tryz.zeroValue214
 t55:=Tryz.underlying28
 a55:=Tryz.isAgg28
 z55:=Tryz.sizeOf28
 v55:=Tryz.zeroValue28
 t66:=Tryz.underlying236
 a66:=Tryz.isAgg236
 z66:=Tryz.sizeOf236
 v66:=Tryz.zeroValue236
 t70:=Tryz.underlying240
 a70:=Tryz.isAgg240
 z70:=Tryz.sizeOf240
 v70:=Tryz.zeroValue240
 t76:=Tryz.underlying252
 a76:=Tryz.isAgg252
 z76:=Tryz.sizeOf252
 v76:=Tryz.zeroValue252
 t77:=Tryz.underlying253
 a77:=Tryz.isAgg253
 z77:=Tryz.sizeOf253
 v77:=Tryz.zeroValue253 }
end Go.Proofs
namespace Go.Proofs.YtedgfkpfhonlpaaGreat
open Go.RowKit
section
abbrev TeT:=(Int × Spl) × (List Nat × List Nat)
def eTeT (q:TeT):List D:=[.int q.1.1,.tag q.2.1 (.sl 1 (q.1.2.1.map eL)),.tag q.2.2 (.sl 1 (q.1.2.2.map eL))]
def blT (q:TeT):List Nat:=q.2.1 ++ q.2.2
theorem tag_mkT:∀ (qs:List TeT),TagL ((qs.map (·.1)).map eTe) (qs.map eTeT) ((qs.map blT).flatten)
 | [] => ⟨rfl,rfl⟩
 | q :: qs => ⟨_,_,blT q,_,rfl,rfl,⟨_,_,[],q.2.1 ++ q.2.2,rfl,rfl,.inr ⟨rfl,rfl,rfl⟩,⟨_,_,q.2.1,q.2.2,rfl,rfl,.inl rfl,⟨_,[],q.2.2,[],rfl,(List.append_nil _).symm,.inl rfl,rfl,rfl⟩⟩⟩,tag_mkT qs⟩
theorem marks_eTeT:∀ (qs:List TeT),kG (qs.map eTeT) = (qs.map blT).flatten
 | [] => rfl
 | q :: qs => by
  have ih:=marks_eTeT qs
  unfold kG at ih ⊢
  rw [List.map_cons,List.flatMap_cons,ih,List.map_cons,List.flatten_cons]
  congr 1
  simp [eTeT,D.marks,blT]
def stepW (out:List TeT) (q:TeT):List TeT:=match out.getLast? with
 | some p => if cmpTe p.1.2 q.1.2 = 0 then out.dropLast ++ [((mP (p.1.1 + q.1.1),p.1.2),p.2)] else out ++ [q]
 | none => [q]
def runW (zs:List TeT):List TeT:=zs.foldl stepW []
theorem stepW_nil (q:TeT):stepW [] q = [q]:=rfl
theorem stepW_eq (out:List TeT) (p q:TeT) (h:cmpTe p.1.2 q.1.2 = 0):stepW (out ++ [p]) q = out ++ [((mP (p.1.1 + q.1.1),p.1.2),p.2)]:=by simp [stepW,h]
theorem stepW_ne (out:List TeT) (p q:TeT) (h:¬ cmpTe p.1.2 q.1.2 = 0):stepW (out ++ [p]) q = out ++ [p] ++ [q]:=by simp [stepW,h]
theorem runW_snoc (zs:List TeT) (q:TeT):runW (zs ++ [q]) = stepW (runW zs) q:=by unfold runW;rw [List.foldl_append];rfl
theorem runW_spec:∀ (n:Nat) (zs:List TeT),zs.length = n→(∀ q ∈ zs,(0 ≤ q.1.1∧q.1.1 < 10007)∧SmS q.1.2) →
  (runW zs).map (·.1) = jI cmpTe [] (zs.map (·.1))∧((runW zs).map blT).Sublist (zs.map blT)∧(runW zs).length ≤ zs.length∧∀ q ∈ runW zs,(0 ≤ q.1.1∧q.1.1 < 10007)∧SmS q.1.2
 | 0,zs,hn,_ => by
  obtain rfl:=List.eq_nil_of_length_eq_zero hn
  exact ⟨rfl,List.Sublist.refl _,Nat.le_refl _,fun q hq => nomatch hq⟩
 | n + 1,zs,hn,h1 => by
  obtain ⟨zs,q,rfl⟩:=(xL zs).resolve_left (by rintro rfl;cases hn)
  have hn':zs.length = n:=by simpa using hn
  obtain ⟨i1,i2,i3,i4⟩:=runW_spec n zs hn' (fun q hq => h1 q (by simp [hq]))
  obtain ⟨hq1,hq2⟩:=h1 q (by simp)
  have hms:jI cmpTe [] ((zs ++ [q]).map (·.1)) = stepM cmpTe (jI cmpTe [] (zs.map (·.1))) q.1.1 q.1.2:=by
   rw [List.map_append]
   exact yH0 cmpTe q.1.1 q.1.2 _ _
  rw [runW_snoc,hms,← i1]
  by_cases h0:runW zs = []
  ·rw [h0]
   refine ⟨?_,?_,by simp [stepW],fun z hz => ?_⟩
   ·show [q.1] = stepM cmpTe [] q.1.1 q.1.2
    rw [stepM_nil,mP_small hq1.1 hq1.2]
   ·rw [List.map_append];exact List.sublist_append_right _ _
   ·have hz:z = q:=by simpa [stepW] using hz
    subst hz
    exact ⟨hq1,hq2⟩
  ·obtain ⟨out,p,e⟩:=(xL (runW zs)).resolve_left h0
   rw [e] at i2 i3 i4 ⊢
   have hp:=i4 p (by simp)
   by_cases hc:cmpTe p.1.2 q.1.2 = 0
   ·rw [stepW_eq _ _ _ hc,List.map_append,List.map_append,List.map_cons,List.map_nil,List.map_cons,List.map_nil]
    have e3:=stepM_eq cmpTe (out.map (·.1)) p.1.1 p.1.2 q.1.1 q.1.2 hc
    refine ⟨e3.symm,?_,by simp at i3 ⊢;omega,fun z hz => ?_⟩
    ·have e2:(out ++ [p]).map blT = out.map blT ++ [blT ((mP (p.1.1 + q.1.1),p.1.2),p.2)]:=by rw [List.map_append];rfl
     rw [List.map_append,List.map_append,List.map_cons,List.map_nil,← e2]
     exact i2.trans (List.sublist_append_left _ _)
    ·rcases List.mem_append.1 hz with hz|hz
     ·exact i4 z (by simp [hz])
     ·obtain rfl:=List.mem_singleton.1 hz
      exact ⟨jR _,hp.2⟩
   ·rw [stepW_ne _ _ _ hc]
    have e3:=stepM_ne cmpTe (out.map (·.1)) p.1.1 p.1.2 q.1.1 q.1.2 hc
    rw [mP_small hq1.1 hq1.2] at e3
    refine ⟨?_,?_,by simp at i3 ⊢;omega,fun z hz => ?_⟩
    ·simp only [List.map_append,List.map_cons,List.map_nil]
     exact e3.symm
    ·have e5:(out ++ [p] ++ [q]).map blT = (out ++ [p]).map blT ++ [blT q]:=by rw [List.map_append];rfl
     have e6:(zs ++ [q]).map blT = zs.map blT ++ [blT q]:=by rw [List.map_append];rfl
     rw [e5,e6]
     exact List.Sublist.append i2 (List.Sublist.refl _)
    ·rcases List.mem_append.1 hz with hz|hz
     ·exact i4 z hz
     ·obtain rfl:=List.mem_singleton.1 hz
      exact ⟨hq1,hq2⟩
theorem c_copro1 (W:World) (n m:Int) (u1 u2 v1 v2:Value) (f g h k:List (List Int)) (h1:Rd (RS (RS RI)) W [u1] f) (h2:Rd (RS (RS RI)) W [u2] g) (h3:Rd (RS (RS RI)) W [v1] h) (h4:Rd (RS (RS RI)) W [v2] k) (s1:qX f ≤ 1000000) (s2:qX h ≤ 1000000) (s3:qX g ≤ 1000000) (s4:qX k ≤ 1000000) :
  Calls Tryz.prog 93 #[.agg #[.int .i64 n,u1,u2],.agg #[.int .i64 m,v1,v2]] W fun e w' => e = .returned (.int .i64 (cmpTe (f,g) (h,k)))∧∃ q os',w' = Sort.grow (W.drewN q) os':=by
 obtain ⟨o1,c1,rfl,_,_⟩:=h1.val
 obtain ⟨o2,c2,rfl,_,_⟩:=h2.val
 obtain ⟨o3,c3,rfl,_,_⟩:=h3.val
 obtain ⟨o4,c4,rfl,_,_⟩:=h4.val
 have b1:Below W.heap.size W (W.alloc (.cells #[.int .i64 n,.slice o1 f.length c1,.slice o2 g.length c2] 69)):=(Below.refl _ _).alloc (Nat.le_refl _) _
 have b2:Below W.heap.size W ((W.alloc (.cells #[.int .i64 n,.slice o1 f.length c1,.slice o2 g.length c2] 69)).alloc (.cells #[.int .i64 m,.slice o3 h.length c3,.slice o4 k.length c4] 69)):=b1.alloc (by simp) _
 have hc:=jQ0 _ _ f h _ (h1.below b2 (Nat.le_refl _)) (h3.below b2 (Nat.le_refl _)) (by omega) (by omega)
 have hd:=jQ0 _ _ g k _ (h2.below b2 (Nat.le_refl _)) (h4.below b2 (Nat.le_refl _)) (by omega) (by omega)
 have HC:=Lib.hid hc
 have HD:=Lib.hid hd
 have hcs:cmpTe (f,g) (h,k) = if cmpF f h = 0 then cmpF g k else cmpF f h:=rfl
 by_cases hz:cmpF f h = 0
 ·have hb:(cmpF f h != 0) = false:=by simp [hz]
  rw [if_pos hz] at hcs
  have HS:=Lib.hid hcs
  clear hc hd b1 b2 h1 h2 h3 h4 hcs
  go_enter Tryz.func93,Tryz.ntmps93
  go_wp2_with (first|(go_at_call 87;refine HC.out.mono ?_;rintro e w' ⟨rfl,rfl⟩;clear HC)|(go_at_call 87;refine HD.out.mono ?_;rintro e w' ⟨rfl,rfl⟩;clear HD))
  go_ret
  exact ⟨by rw [HS.out] <;> rfl,0,_,by rw [Sort.alloc_eq_grow,Sort.alloc_eq_grow,Sort.grow_grow];rfl⟩
 ·have hb:(cmpF f h != 0) = true:=bne_iff_ne.2 hz
  rw [if_neg hz] at hcs
  have HS:=Lib.hid hcs
  clear hc hd b1 b2 h1 h2 h3 h4 hcs
  go_enter Tryz.func93,Tryz.ntmps93
  go_wp2_with (first|(go_at_call 87;refine HC.out.mono ?_;rintro e w' ⟨rfl,rfl⟩;clear HC)|(go_at_call 87;refine HD.out.mono ?_;rintro e w' ⟨rfl,rfl⟩;clear HD))
  go_ret
  exact ⟨by rw [HS.out] <;> rfl,0,_,by rw [Sort.alloc_eq_grow,Sort.alloc_eq_grow,Sort.grow_grow];rfl⟩
noncomputable def TCp1:Tab Tryz.prog :=
 Tab.none.add 87 (tab2 codLL codLL fun f g => if SmF f∧SmF g then some [.val (.int (cmpF f g))] else none) (yK fun f g rs h => by split at h;cases h;rename_i hs;exact yK0 f g (by have:=hs.1.2;omega) (by have:=hs.2.2;omega);cases h)
theorem a_copro1 (z y:Int × Spl) (hz:SmS z.2) (hy:SmS y.2):AFn Tryz.prog 93 [eTe z,eTe y] (· = [.val (.int (cmpTe z.2 y.2))]):=by
 obtain ⟨n,⟨f,g⟩⟩:=z
 obtain ⟨n',⟨f',g'⟩⟩:=y
 have e1:=eq_true (And.intro hz.1 hy.1)
 have e2:=eq_true (And.intro hz.2 hy.2)
 simp only at e1 e2
 have hcs:cmpTe (f,g) (f',g') = if cmpF f f' = 0 then cmpF g g' else cmpF f f':=rfl
 simp only
 rw [hcs]
 refine AFn.of_runs (qQ 19) Tryz.func93 rfl rfl rfl gz ?_
 have hres:Tryz.f93.results.toList = [.tmp 4]:=rfl
 have hrts:Tryz.f93.resultTypes.toList = [3]:=rfl
 simp only [qV,qT,eL,eI,eLL,eB,Nat.zero_add,Nat.reduceAdd,eTe]
 intro M
 refine qJ.of ?_
 by_cases h0:cmpF f f' = 0
 ·have hb:(cmpF f f' != 0) = false:=by simp [h0]
  rw [if_pos h0]
  refine gw186 (Y3 e1 e2 hb) ?_
  exact gw2
 ·have hb:(cmpF f f' != 0) = true:=bne_iff_ne.2 h0
  rw [if_neg h0]
  refine gw186 (Y3 e1 e2 hb) ?_
  exact gw2
theorem a_copro2 (n:Int) (f g:List (List Int)):AFn Tryz.prog 96 [[.int n,.sl 1 (f.map eL),.sl 1 (g.map eL)]] (· = [.val (.bool (decide (n = 0)))]):=by
 refine AFn.of_runs (qQ 6) Tryz.func96 rfl rfl rfl gz ?_
 have hres:Tryz.f96.results.toList = [.tmp 2]:=rfl
 have hrts:Tryz.f96.resultTypes.toList = [4]:=rfl
 simp only [qV,qT,eL,eI,eLL,eB,Nat.zero_add,Nat.reduceAdd]
 intro M
 refine qJ.of ?_
 by_cases h:n = 0
 ·subst h
  rw [decide_eq_true rfl]
  refine gw170 Y0 ?_
  exact gw2
 ·have hb:(n == 0) = false:=beq_eq_false_iff_ne.2 h
  rw [decide_eq_false h]
  refine gw170 hb ?_
  exact gw2
theorem aggTe (w:World):(isAgg 69).run Tryz.prog w = .ok true w:=by
 simp [isAgg,run_underlying Tryz.underlying69]
theorem tTensor:ST Tryz.prog 65 69 (.agg #[.int .i64 0,.slice none 0 0,.slice none 0 0]) 3 56:=ST.mk' (by kernel_rfl) (by kernel_rfl) rfl (by decide)
theorem sizeTe (w:World):(Go.sizeOf 69).run Tryz.prog w = .ok 3 w:=by
 obtain ⟨_,⟨i,hi,_,hs,_⟩,_,_⟩:=tTensor
 simp [Go.sizeOf,typeInfo,hi,hs]
theorem rd_eTeT {A:Nat→Prop} {W:World} {us:List Value} {x:TeT} (h:rdCs A W us (eTeT x)):∃ u1 u2,us = [.int .i64 x.1.1,u1,u2]∧Rd (RS (RS RI)) W [u1] x.1.2.1∧Rd (RS (RS RI)) W [u2] x.1.2.2:=by
 have hl:=h.len
 match us,hl with
 | [u1,u2,u3],_ =>
  obtain ⟨v1,e1,h1⟩:=h.get 0 (by show 0 < 3;decide)
  obtain ⟨v2,e2,h2⟩:=h.get 1 (by show 1 < 3;decide)
  obtain ⟨v3,e3,h3⟩:=h.get 2 (by show 2 < 3;decide)
  obtain rfl:u1 = v1:=by simpa using e1
  obtain rfl:u2 = v2:=by simpa using e2
  obtain rfl:u3 = v3:=by simpa using e3
  have h1:rdV A W u1 (.int x.1.1):=h1
  have h2:rdV A W u2 (.tag x.2.1 (.sl 1 (x.1.2.1.map eL))):=h2
  have h3:rdV A W u3 (.tag x.2.2 (.sl 1 (x.1.2.2.map eL))):=h3
  have r1:=rdLL (xs:=x.1.2.1) h2.un
  have r2:=rdLL (xs:=x.1.2.2) h3.un
  refine ⟨u2,u3,?_,Rd.of r1,Rd.of r2⟩
  rw [(jY.1 h1).1]
theorem a_sortTe (zs:List TeT) (hok:∀ z ∈ zs,SmS z.1.2) (hn:zs.length ≤ 1000000000) :
  AEf Tryz.prog 94 false [] 3 (zs.map eTeT) [[.raw (.func (.func 93) #[] #[])]] (fun rs oc => rs = []∧∃ zs':List TeT,oc = some (zs'.map eTeT)∧zs'.Perm zs∧zs'.Pairwise (fun a b => cmpTe a.1.2 b.1.2 ≤ 0)):=by
 refine a_SortG Tryz.sortTe (k:=3) eTeT (by decide) (fun _ => rfl) aggTe sizeTe jR0 (·.1.2) (fun z => SmS z.1.2) ((0,([],[])),([],[])) [.int .i64 0,.slice none 0 0,.slice none 0 0] (fun A w => ?_) (by decide) 93 (enters_of Tryz.func93 rfl rfl)
  (fun W A x y us vs hA hx hy hu hv => ?_) (enters_of Tryz.func94 rfl rfl) zs hok hn
 ·have hnil:rdV A w (.slice none 0 0) (.tag [] (.sl 1 [])):=kQ.2 ⟨by simp,kH.2 ⟨none,[],[],Row.nil _ 1,ownR.nil (by decide),rfl⟩⟩
  exact rdCs.cons (jY.2 ⟨rfl,by show qH 0;unfold qH;omega⟩) (rdCs.cons hnil (rdCs.cons hnil rdCs.nil))
 ·obtain ⟨u1,u2,rfl,r1,r2⟩:=rd_eTeT hu
  obtain ⟨v1,v2,rfl,r3,r4⟩:=rd_eTeT hv
  exact c_copro1 W _ _ _ _ _ _ _ _ _ _ r1 r2 r3 r4 (Nat.le_trans hx.1.2 (by decide)) (Nat.le_trans hy.1.2 (by decide)) (Nat.le_trans hx.2.2 (by decide)) (Nat.le_trans hy.2.2 (by decide))
structure CpI (M:Nat→Prop) (L:List (Int × Spl)) (qs:List TeT):Prop where
 eq:qs.map (·.1) = L
 nd:((qs.map blT).flatten).Nodup
 mi:∀ b ∈ (qs.map blT).flatten,M b
noncomputable def TNmC:Tab Tryz.prog:=Tab.none.add 92 (tab1 codI fun n => some [.val (.int (mP n))]) (jO fun n rs h => by cases h;exact a_num n)
theorem kP0 (e:Elt) (hz:szP e):AFn Tryz.prog 42 [[.sl 2 (e.map ePt)]] (· = [.own 3 ((copOf e).1.map eTe) true,.val (.int (copOf e).2)]):=by
 have h1:=yD0 e hz
 by_cases hE:elB e = true
 rotate_left
 ·have hE':elB e = false:=by simpa using hE
  have hco:copOf e = ([],1):=by unfold copOf;rw [if_neg hE]
  rw [hE'] at h1
  rw [hco]
  refine AFn.of_runs (qQ 100) Tryz.func42 rfl rfl rfl gz ?_
  have hres:Tryz.f42.results.toList = [.tmp 2,.tmp 3]:=rfl
  have hrts:Tryz.f42.resultTypes.toList = [65,2]:=rfl
  simp only [qV,qT,eL,eI,eLL,eB,Nat.zero_add,Nat.reduceAdd]
  intro M
  refine qJ.of ?_
  refine gw187 Y0 ?_
  exact gw2
 rw [hE] at h1
 obtain ⟨hl,hnf,_,hfo⟩:=yP hE
 have hbd:=hnf.2
 have hML:=qT0 e hfo
 have hMok:=copM_ok hfo
 have htl:∀ i,(copM (e.take i)).length ≤ 256 * i:=fun i => by
  have:=qT0 (e.take i) (vL hfo)
  rw [List.length_take] at this
  exact Nat.le_trans this (Nat.mul_le_mul_left _ (Nat.min_le_left _ _))
 have hle:(e.map ePt).length = e.length:=List.length_map _
 refine AFn.of_runs (qQ 100) Tryz.func42 rfl rfl rfl gz ?_
 have hres:Tryz.f42.results.toList = [.tmp 2,.tmp 3]:=rfl
 have hrts:Tryz.f42.resultTypes.toList = [65,2]:=rfl
 simp only [qV,qT,eL,eI,eLL,eB,Nat.zero_add,Nat.reduceAdd]
 intro M
 refine qJ.of ?_
 refine gw187 hle ?_
 refine qJ.loop (β:=Nat × List TeT) (γ:=List TeT) (fun x => ⟨[(4,.c (.own 4 x.2.length)),(18,.c (.val (.sl 2 (e.map ePt)))),(19,.c (.val (.int e.length))),(20,.c (.val (.int x.1)))],[(4,.row 3 (x.2.map eTeT) false)]⟩) (fun x => x.1 ≤ e.length∧CpI M (copM (e.take x.1)) x.2) (fun x => e.length - x.1)
  (fun qs => ⟨[(4,.c (.own 4 qs.length))],[(4,.row 3 (qs.map eTeT) false)]⟩) (fun qs => CpI M (copM e) qs) (0,[]) ⟨Nat.zero_le _,⟨rfl,List.nodup_nil,fun b hb => nomatch hb⟩⟩ ?_ ?_ ?_
 ·exact gw95
 ·rintro ⟨i,qs⟩ ⟨hi,hI⟩
  simp only at hi hI ⊢
  have hw:=qB (n:=i) (by omega)
  have hqn:qs.length ≤ 256 * i:=by
   have:=congrArg List.length hI.eq
   rw [List.length_map] at this
   have:=htl i
   omega
  by_cases h:i < e.length
  rotate_left
  ·have i1:((i:Int) < (e.length:Int)) = False:=eq_false (by omega)
   obtain rfl:i = e.length:=by omega
   rw [List.take_length] at hI
   refine gw188 i1 ?_
   refine qY.out qs hI ?_
   exact gw7 Y0
  have i1:((i:Int) < (e.length:Int)) = True:=eq_true (by omega)
  have i2:((0:Int) ≤ (i:Int)) = True:=eq_true (by omega)
  refine qJ.fresh rfl ?_
  intro M' hM' hold
  have hold:=hold 4 3 (qs.map eTeT) rfl
  rw [marks_eTeT] at hold
  obtain ⟨p,hp⟩:∃ p,p = e[i]:=⟨_,rfl⟩
  have hpf:=hfo e[i] (List.getElem_mem _)
  have hpb:=hbd e[i] (List.getElem_mem _)
  have hg:(e.map ePt)[i]? = some [.int p.1,.sl 1 (p.2.map eL)]:=by rw [qD h,hp];rfl
  have htk:copM (e.take (i + 1)) = copM (e.take i) ++ copP p:=by rw [copM_take h,← hp]
  rw [← hp] at hpf hpb
  have hsm8:=(xU hpf).1
  have hsp:=a_splitForest p.2 (kX hpf) hsm8
  have hpl:=vE (kX hpf) hsm8
  have hga:=a_gathered (prodS (p.2.map split)) (by omega) (fun s hs => ((kJ (kX hpf) s hs).ha (by omega)).sm)
  have hgood:=wN (kJ (kX hpf))
  have hcd:copP p = (gathS (prodS (p.2.map split))).map fun z => (mP (p.1 * z.2),z.1):=rfl
  have hGl:=copP_len hpf
  obtain ⟨G,hG⟩:∃ G,G = gathS (prodS (p.2.map split)):=⟨_,rfl⟩
  rw [← hG] at hga hgood hcd
  have hGn:G.length ≤ 256:=by rw [hcd,List.length_map] at hGl;exact hGl
  have hspl:((prodS (p.2.map split)).map eS0).length = (prodS (p.2.map split)).length:=List.length_map _
  simp only [eLL] at hsp
  refine gw189 (Y5 i1 i2 hg hle hspl) ?_
  refine qJ.tag' 27 (k:=3) (xs:=G.map eSp) rfl ?_
  intro xs' F ht htp hnd hF
  obtain ⟨zs,e1,e2,e3⟩:=tag_rows3 _ _ _ ht htp
  subst e2;subst e3
  have hzl:zs.length = G.length:=by rw [e1,List.length_map]
  refine qJ.loop (β:=Nat × List TeT) (γ:=List TeT) (fun x => ⟨[(4,.c (.own 4 x.2.length)),(6,.optr 6 0 0),(18,.c (.val (.sl 2 (e.map ePt)))),(19,.c (.val (.int e.length))),(20,.c (.val (.int i))),(27,.c (.own 27 G.length)),(28,.c (.val (.int G.length))),(29,.c (.val (.int x.1)))],[(4,.row 3 (x.2.map eTeT) false),(6,.row 2 [[.int p.1,.sl 1 (p.2.map eL)]] false),(27,.row 3 (zs.map (e3T (fun z:Spl × Int => z.1.1.map eL) (fun z => z.1.2.map eL) (·.2))) false)]⟩)
   (fun x => x.1 ≤ G.length∧x.2.map (·.1) = copM (e.take i) ++ (copP p).take x.1∧(x.2.map blT).flatten = (qs.map blT).flatten ++ ((zs.take x.1).map bl3).flatten) (fun x => G.length - x.1)
   (fun rs => ⟨[(4,.c (.own 4 rs.length)),(18,.c (.val (.sl 2 (e.map ePt)))),(19,.c (.val (.int e.length))),(20,.c (.val (.int i)))],[(4,.row 3 (rs.map eTeT) false)]⟩) (fun rs => rs.map (·.1) = copM (e.take i) ++ copP p∧(rs.map blT).flatten = (qs.map blT).flatten ++ (zs.map bl3).flatten) (0,qs) ⟨Nat.zero_le _,by rw [List.take_zero,List.append_nil];exact hI.eq,by rw [List.take_zero];simp⟩ ?_ ?_ ?_
  ·exact gw190
  ·rintro ⟨j,rs⟩ ⟨hj,hr1,hr2⟩
   simp only at hj hr1 hr2 ⊢
   have hwj:=qB (n:=j) (by omega)
   have hzm:(zs.map (e3T (fun z:Spl × Int => z.1.1.map eL) (fun z => z.1.2.map eL) (·.2))).length = G.length:=by rw [List.length_map,hzl]
   have hcl:(copP p).length = G.length:=by rw [hcd,List.length_map]
   have hrn:rs.length ≤ 256 * i + 256:=by
    have:=congrArg List.length hr1
    rw [List.length_map,List.length_append,List.length_take] at this
    have:=htl i
    omega
   by_cases hjG:j < G.length
   ·have hjz:j < zs.length:=by omega
    have j1:((j:Int) < (G.length:Int)) = True:=eq_true (by omega)
    have j2:((0:Int) ≤ (j:Int)) = True:=eq_true (by omega)
    obtain ⟨z,hz⟩:∃ z,z = zs[j]:=⟨_,rfl⟩
    have hLi:G[j] = z.1:=by simp only [e1,List.getElem_map,hz]
    have hgz:(zs.map (e3T (fun z:Spl × Int => z.1.1.map eL) (fun z => z.1.2.map eL) (·.2)))[j]? = some (e3T (fun z:Spl × Int => z.1.1.map eL) (fun z => z.1.2.map eL) (·.2) z):=by rw [qD hjz,hz]
    obtain ⟨z1,z2,z3⟩:=hgood G[j] (List.getElem_mem _)
    have htkz:(zs.take (j + 1)).map bl3 = (zs.take j).map bl3 ++ [bl3 z]:=by rw [List.take_succ_eq_append_getElem hjz,List.map_append,← hz];rfl
    have htkc:(copP p).take (j + 1) = (copP p).take j ++ [(mP (p.1 * z.1.2),z.1.1)]:=by
     rw [List.take_succ_eq_append_getElem (by omega)]
     congr 2
     simp only [hcd,List.getElem_map,hLi]
    rw [hLi] at z1 z2
    obtain ⟨⟨⟨f,g⟩,n⟩,⟨Fz,Gz⟩⟩:=z
    simp only [e3T] at hgz
    simp only at z1 z2 htkc
    have hb0:0 ≤ p.1 * n∧p.1 * n ≤ 100140049:=by
     refine ⟨Int.mul_nonneg (by omega) (by omega),?_⟩
     have h5:=Int.mul_le_mul (show p.1 ≤ 10007 by omega) (show n ≤ 10007 by omega) (by omega) (by decide)
     omega
    have hwm:w64 (p.1 * n) = p.1 * n:=qE (by omega)
    have q1:=jJ (n:=rs.length + 1) (by omega)
    have q2:=qP (n:=rs.length + 1) (c:=56) (by omega) (by omega)
    refine gw191 (Y8 j1 j2 hgz hzm hwj hwm q1 q2) ?_
    refine qY.on (j + 1,rs ++ [((mP (p.1 * n),(f,g)),(Fz,Gz))]) ⟨⟨hjG,?_,?_⟩,by show G.length - (j + 1) < G.length - j;omega⟩ ?_
    ·show List.map (fun q:TeT => q.1) (rs ++ [((mP (p.1 * n),(f,g)),(Fz,Gz))]) = _
     rw [List.map_append,hr1,htkc,List.append_assoc];rfl
    ·show ((rs ++ [((mP (p.1 * n),(f,g)),(Fz,Gz))]).map blT).flatten = _
     rw [htkz,List.map_append,List.flatten_append,hr2,List.flatten_append,List.append_assoc]
     rfl
    ·exact gw192
   ·have j1:((j:Int) < (G.length:Int)) = False:=eq_false (by omega)
    obtain rfl:j = G.length:=by omega
    have hall:(copP p).take G.length = copP p:=List.take_of_length_le (by omega)
    rw [hall] at hr1
    rw [← hzl,List.take_length] at hr2
    refine gw188 j1 ?_
    refine qY.out rs ⟨hr1,hr2⟩ ?_
    exact gw7 Y0
  ·rintro rs ⟨hr1,hr2⟩
   refine gw188 hw ?_
   refine qY.on (i + 1,rs) ⟨⟨h,?_⟩,by show e.length - (i + 1) < e.length - i;omega⟩ ?_
   ·refine ⟨by rw [htk];exact hr1,?_,fun b hb => ?_⟩
    ·show ((rs.map blT).flatten).Nodup
     rw [hr2]
     refine List.nodup_append.2 ⟨hI.nd,hnd,fun b hb c hc e => ?_⟩
     subst e
     exact hold b hb (hF b hc)
    ·have hb:b ∈ (rs.map blT).flatten:=hb
     rw [hr2] at hb
     rcases List.mem_append.1 hb with hb|hb
     ·exact hI.mi b hb
     ·exact hM' b (hF b hb)
   ·exact gw7 Y0
 ·intro qs hJ
  have hqn:qs.length = (copM e).length:=by
   have:=congrArg List.length hJ.eq
   rwa [List.length_map] at this
  have hqs:∀ q ∈ qs,(0 ≤ q.1.1∧q.1.1 < 10007)∧SmS q.1.2:=fun q hq => hMok q.1 (by rw [← hJ.eq];exact List.mem_map.2 ⟨q,hq,rfl⟩)
  have hso:=a_sortTe qs (fun q hq => (hqs q hq).2) (by omega)
  refine gw188 Y0 ?_
  refine qJ.regCut (qQ 100) Tab.none 2 (s1:=?_) ?_ ?_
  rotate_left 1
  focus (refine Work.mk ?_;simp only [Zg,Zi,seval,reduceCtorEq,Nat.reduceEqDiff];with_reducible rfl)
  simp only [List.toList_toArray,List.drop_succ_cons,List.drop_zero]
  refine qZ.callEf (qQ 100) rfl rfl (by decide) rfl rfl (x:=.tmp 49) (xpost:=[.tmp 50]) rfl rfl (post:=[[.raw (.func (.func 93) #[] #[])]]) ?_ ?_ rfl rfl ?_ hso (R:=fun ys => ∃ zs:List TeT,ys = zs.map eTeT∧zs.Perm qs∧zs.Pairwise (fun a b => cmpTe a.1.2 b.1.2 ≤ 0)) ?_ ?_
  ·simp only [Zg,Zi,seval,reduceCtorEq,Nat.reduceEqDiff]
  ·rfl
  ·intro q u hq hu
   rw [look,if_neg (fun e => hq e.symm)] at hu
   cases hu
  ·rintro rs oc ⟨rfl,zs,rfl,h1,h2⟩
   exact ⟨rfl,_,rfl,zs,rfl,h1,h2⟩
  rintro _ ⟨zs,rfl,hperm,hsort⟩
  have hzl:zs.length = qs.length:=hperm.length_eq
  have hzz:∀ z ∈ zs,(0 ≤ z.1.1∧z.1.1 < 10007)∧SmS z.1.2:=fun z hz => hqs z (hperm.mem_iff.1 hz)
  refine qZ.opsT (qQ 100) (T:=Tab.none) (s':=?_) ?_ ?_
  rotate_left 1
  focus (simp only [Zg,Zi,seval,reduceCtorEq,Nat.reduceEqDiff];with_reducible rfl)
  refine gw193 ?_
  obtain ⟨R,hR⟩:∃ R,R = fun i => runW (zs.take i):=⟨_,rfl⟩
  have hRi:∀ i,i ≤ zs.length→(R i).length ≤ 100000∧∀ q ∈ R i,(0 ≤ q.1.1∧q.1.1 < 10007)∧SmS q.1.2:=fun i hi => by
   rw [hR]
   obtain ⟨_,_,h3,h4⟩:=runW_spec _ (zs.take i) rfl (fun q hq => hzz q (List.mem_of_mem_take hq))
   rw [List.length_take] at h3
   exact ⟨by show (runW (zs.take i)).length ≤ 100000;omega,h4⟩
  refine qJ.loop (β:=Nat) (γ:=Unit) (fun i => ⟨[(9,.c (.val (.raw (.func (.func 93) #[] #[])))),(10,.c (.own 10 (R i).length)),(53,.c (.own 4 qs.length)),(54,.c (.val (.int qs.length))),(55,.c (.val (.int i)))],[(4,.row 3 (zs.map eTeT) false),(10,.row 3 ((R i).map eTeT) false)]⟩) (fun i => i ≤ qs.length) (fun i => qs.length - i)
   (fun _ => ⟨[(10,.c (.own 10 (R qs.length).length))],[(10,.row 3 ((R qs.length).map eTeT) false)]⟩) (fun _ => True) 0 (Nat.zero_le _) ?_ ?_ ?_
  ·have e0:R 0 = []:=by rw [hR];rfl
   rw [e0]
   exact gw95
  ·intro i hi
   have hi:i ≤ qs.length:=hi
   have hw:=qB (n:=i) (by omega)
   obtain ⟨hb1,hb2⟩:=hRi i (by omega)
   have hzml:(zs.map eTeT).length = qs.length:=by rw [List.length_map,hzl]
   by_cases h:i < qs.length
   ·have hz':i < zs.length:=by omega
    have i1:((i:Int) < (qs.length:Int)) = True:=eq_true (by omega)
    have i2:((0:Int) ≤ (i:Int)) = True:=eq_true (by omega)
    obtain ⟨p,hp⟩:∃ p,p = zs[i]:=⟨_,rfl⟩
    have hpz:=hzz zs[i] (List.getElem_mem _)
    have hst:R (i + 1) = stepW (R i) p:=by
     rw [hR]
     show runW (zs.take (i + 1)) = stepW (runW (zs.take i)) p
     rw [List.take_succ_eq_append_getElem hz',← hp,runW_snoc]
    have hg:(zs.map eTeT)[i]? = some (eTeT p):=by rw [qD hz',hp]
    rw [← hp] at hpz
    obtain ⟨⟨pn,⟨pf,pg⟩⟩,⟨pF,pG⟩⟩:=p
    simp only [eTeT] at hg
    simp only at hpz
    obtain ⟨hpz1,hpz2⟩:=hpz
    have q1:=jJ (n:=(R i).length + 1) (by omega)
    have q2:=qP (n:=(R i).length + 1) (c:=56) (by omega) (by omega)
    by_cases h0:R i = []
    ·rw [h0,stepW_nil] at hst
     have j1:(((0:Nat):Int) > 0) = False:=eq_false (by omega)
     rw [h0] at q1 q2 ⊢
     simp only [List.length_nil] at q1 q2
     refine gw194 (Y8 i1 i2 hg hzml hw j1 q1 q2) ?_
     refine qY.on (i + 1) ⟨h,by omega⟩ ?_
     rw [hst]
     exact gw195
    ·obtain ⟨qo,q,eq⟩:=(xL (R i)).resolve_left h0
     have hlq:(R i).length = qo.length + 1:=by rw [eq];simp
     obtain ⟨hz1,hz3⟩:=hb2 q (by rw [eq];simp)
     obtain ⟨⟨qn,⟨qf,qg⟩⟩,⟨qF,qG⟩⟩:=q
     simp only at hz1 hz3
     have j1:((((qo.length + 1:Nat)):Int) > 0) = True:=eq_true (by omega)
     have hw1:w64 (((qo.length + 1:Nat):Int) - 1) = ((qo.length:Nat):Int):=by rw [qE (by omega)];omega
     have i3:((0:Int) ≤ ((qo.length:Nat):Int)) = True:=eq_true (by omega)
     have i4:(((qo.length:Nat):Int) < ((qo.length + 1:Nat):Int)) = True:=eq_true (by omega)
     have hgz:((R i).map eTeT)[qo.length]? = some [.int qn,.tag qF (.sl 1 (qf.map eL)),.tag qG (.sl 1 (qg.map eL))]:=by
      rw [eq,List.map_append,List.getElem?_append_right (by simp)];simp [eTeT]
     have hxl:((R i).map eTeT).length = qo.length + 1:=by rw [List.length_map,hlq]
     have hcm:=a_copro1 (qn,(qf,qg)) (pn,(pf,pg)) hz3 hpz2
     simp only [eTe] at hcm
     rw [hlq] at hb1 q1 q2 ⊢
     by_cases he:cmpTe (qf,qg) (pf,pg) = 0
     ·have hd:(cmpTe (qf,qg) (pf,pg) == 0) = true:=beq_iff_eq.2 he
      have hwz:=qE (n:=qn + pn) (by omega)
      refine gw196 (Y12 i1 i2 i3 i4 hg hzml hgz hxl hw hw1 hd (Yp hwz j1)) ?_
      have hR2:R (i + 1) = qo ++ [((mP (qn + pn),(qf,qg)),(qF,qG))]:=by rw [hst,eq];exact stepW_eq qo _ _ he
      have hse:((R i).map eTeT).set qo.length [.int (mP (qn + pn)),.tag qF (.sl 1 (qf.map eL)),.tag qG (.sl 1 (qg.map eL))] = (R (i + 1)).map eTeT:=by
       rw [hR2,eq,List.map_append,List.set_append_right _ _ (by simp)];simp [eTeT]
      refine qY.on (i + 1) ⟨h,by omega⟩ ?_
      have hl2:(R (i + 1)).length = qo.length + 1:=by rw [hR2];simp
      rw [hl2,← hse]
      exact gw7 Y0
     ·have hd:(cmpTe (qf,qg) (pf,pg) == 0) = false:=beq_eq_false_iff_ne.2 he
      refine gw196 (Y12 i1 i2 i3 i4 hg hzml hgz hxl hw hw1 hd (Y3 j1 q1 q2)) ?_
      have hR2:R (i + 1) = R i ++ [((pn,(pf,pg)),(pF,pG))]:=by rw [hst,eq];exact stepW_ne qo _ _ he
      refine qY.on (i + 1) ⟨h,by omega⟩ ?_
      rw [hR2,List.length_append,hlq]
      exact gw197
   ·have i1:((i:Int) < (qs.length:Int)) = False:=eq_false (by omega)
    obtain rfl:i = qs.length:=by omega
    refine gw188 i1 ?_
    refine qY.out () trivial ?_
    exact gw7 Y0
  ·rintro _ _
   have hRL:R qs.length = runW zs:=by rw [hR];show runW (zs.take qs.length) = _;rw [← hzl,List.take_length]
   obtain ⟨k1,k2,k3,_⟩:=runW_spec _ zs rfl hzz
   rw [hRL]
   obtain ⟨W,hW⟩:∃ W,W = runW zs:=⟨_,rfl⟩
   rw [← hW] at k1 k2 k3 ⊢
   have hdel:=a_DeleteFuncTe eTeT (fun z => .tag z.2.1 (.sl 1 (z.1.2.1.map eL))) (fun z => .tag z.2.2 (.sl 1 (z.1.2.2.map eL))) (·.1.1) (·.1.2.1) (·.1.2.2) (fun z => decide (z.1.1 = 0)) 96 (fun _ => rfl) (fun _ => rfl) (fun _ => rfl) (fun z => a_copro2 z.1.1 z.1.2.1 z.1.2.2) W (by omega)
   have hx:sumS cmpTe (copM e) = (keepF (fun z:TeT => decide (z.1.1 = 0)) W).map (·.1):=by
    have hperm2:(zs.map (·.1)).Perm (copM e):=by rw [← hJ.eq];exact hperm.map _
    rw [← merge_sum jR0 hperm2 (List.pairwise_map.2 hsort) (fun q hq => (hMok q hq).1),← k1,List.filter_map]
    rfl
   have hsub:(keepF (fun z:TeT => decide (z.1.1 = 0)) W).Sublist W:=List.filter_sublist
   have hbl:((keepF (fun z:TeT => decide (z.1.1 = 0)) W).map blT).flatten.Sublist ((zs.map blT).flatten):=sub_flat3 ((hsub.map _).trans k2)
   have hp2:=(hperm.map blT).flatten
   obtain ⟨K,hK⟩:∃ K,K = keepF (fun z:TeT => decide (z.1.1 = 0)) W:=⟨_,rfl⟩
   rw [← hK] at hdel hx hbl
   have hlen:(sumS cmpTe (copM e)).length = K.length:=by rw [hx,List.length_map]
   by_cases h6:K.length ≤ 600
   ·have hco:copOf e = (sumS cmpTe (copM e),0):=by unfold copOf;rw [if_pos hE,if_pos (by omega)]
    have j1:((K.length:Int) > 600) = False:=eq_false (by omega)
    rw [hco]
    refine gw198 j1 ?_
    refine Ends.un (by simp) hres hrts (r:=?_) (r':=.own 3 ((sumS cmpTe (copM e)).map eTe) true) (l:=[.val (.int 0)]) (ks:=?_) ?_ ?_ (by simp [isSl]) ?_ rfl
    rotate_left 2
    focus (simp only [jG,ares,Zg,Zi,seval,reduceCtorEq,Nat.reduceEqDiff];with_reducible rfl)
    focus simp
    rw [hx]
    refine ⟨(K.map blT).flatten,?_,fun b hb => hJ.mi b ?_,.inl ⟨3,_,_,rfl,rfl,tag_mkT _⟩⟩
    ·exact (hp2.nodup_iff.2 hJ.nd).sublist hbl
    ·exact hp2.mem_iff.1 (hbl.subset hb)
   ·have hco:copOf e = ([],3):=by unfold copOf;rw [if_pos hE,if_neg (by omega)]
    have j1:((K.length:Int) > 600) = True:=eq_true (by omega)
    rw [hco]
    refine gw198 j1 ?_
    (refine Ends.mk (by simp) (rs:=?_) (ks:=?_) hres hrts ?_ ?_ ?_;rotate_left 2;(focus (simp only [Ze,Zg,Zi,seval,reduceCtorEq,Nat.reduceEqDiff,List.map_nil];with_reducible rfl));(focus simp);focus (first|with_reducible rfl|(simp only [Zv,List.map_nil];done)))
end
section
theorem a_l06PutO (e:Elt) (k:Int) (f:List (List Int)) (hl:e.length ≤ 1000000) (he:∀ q ∈ e,(1 ≤ q.1∧q.1 < 10007)∧SmF q.2) (hk:0 ≤ k∧k < 10007) (hf:SmF f):AOw Tryz.prog 137 [] 2 (e.map ePt) [eI k,eLL f] (· = [.own 2 ((putS cmpF e k f).map ePt) false]):=by
 by_cases hk0:k = 0
 ·subst hk0
  rw [putS_zero]
  refine AOw.of_runs (qQ 68) Tryz.func137 rfl rfl rfl gz ?_
  have hres:Tryz.f137.results.toList = [.tmp 6]:=rfl
  have hrts:Tryz.f137.resultTypes.toList = [50]:=rfl
  simp only [List.length_cons,List.length_nil,List.nil_append,List.cons_append,qV,qT,eL,eI,eLL,eB,Nat.zero_add,Nat.reduceAdd]
  intro M
  refine qJ.of ?_
  refine gw73 Y0 ?_
  exact gw2
 have hkb:(k == 0) = false:=beq_eq_false_iff_ne.2 hk0
 have hff:=eq_true hf
 refine AOw.of_runs (qQ 68) Tryz.func137 rfl rfl rfl gz ?_
 have hres:Tryz.f137.results.toList = [.tmp 6]:=rfl
 have hrts:Tryz.f137.resultTypes.toList = [50]:=rfl
 simp only [List.length_cons,List.length_nil,List.nil_append,List.cons_append,qV,qT,eL,eI,eLL,eB,Nat.zero_add,Nat.reduceAdd]
 intro M
 refine qJ.of ?_
 refine gw73 hkb ?_
 refine qJ.frz 0 ?_
 refine qJ.loop (β:=Nat × Bool × Elt) (γ:=Bool × Elt) (fun x => ⟨[(0,.c (.val (.sl 2 (e.map ePt)))),(1,.c (.val (.int k))),(2,.c (.val (.sl 1 (f.map eL)))),(7,.c (.own 7 x.2.2.length)),(8,.c (.val (.bool x.2.1))),(9,.c (.val (.int x.1)))],[(7,.row 2 (x.2.2.map ePt) false)]⟩) (PutI e k f) (fun x => e.length - x.1)
  (fun x => ⟨[(0,.c (.val (.sl 2 (e.map ePt)))),(1,.c (.val (.int k))),(2,.c (.val (.sl 1 (f.map eL)))),(7,.c (.own 7 x.2.length)),(8,.c (.val (.bool x.1)))],[(7,.row 2 (x.2.map ePt) false)]⟩) (fun x => PutI e k f (e.length,x)) (0,false,[]) ⟨Nat.zero_le _,fun _ => ⟨rfl,by simp⟩,(fun h => nomatch h),Nat.zero_le _⟩ ?_ ?_ ?_
 ·(repeat' (first|exact Qn|((with_reducible refine Qr ?_ ?_);focus first|with_reducible rfl|(simp only [Zz,Nat.reduceBEq,St.frz,frzR,frzH,look,AV.frz,AC.frz,Obj.frz,drop,List.map_nil,List.length_nil];done)|rfl)|((with_reducible apply Qj);rfl)|((with_reducible refine Qw ?_ ?_);(focus first|with_reducible rfl|(simp only [Zv,St.frz,frzR,frzH,look,AV.frz,AC.frz,Obj.frz,drop,List.map_nil,List.length_nil];done));first|exact id|exact nofun|exact fun _=>rfl)))
  all_goals first|exact ⟨rfl,rfl⟩|exact ⟨rfl,rfl,id⟩|exact ⟨rfl,rfl,fun h => nomatch h⟩
 ·rintro ⟨i,d,o⟩ ⟨hi,hno,hyes,hlen⟩
  simp only at hi hno hyes hlen ⊢
  have hw:=qB (n:=i) (by omega)
  have q1:=jJ (n:=o.length + 1) (by omega)
  have q2:=qP (n:=o.length + 1) (c:=32) (by omega) (by omega)
  have q3:=jJ (n:=o.length + 1 + 1) (by omega)
  have q4:=qP (n:=o.length + 1 + 1) (c:=32) (by omega) (by omega)
  by_cases h:i < e.length
  ·have i1:((i:Int) < (e.length:Int)) = True:=eq_true (by omega)
   have i2:((0:Int) ≤ (i:Int)) = True:=eq_true (by omega)
   obtain ⟨z,hz⟩:∃ z,z = e[i]:=⟨_,rfl⟩
   obtain ⟨⟨hz1,hz2⟩,hz3⟩:=he e[i] (List.getElem_mem _)
   have hg:(e.map ePt)[i]? = some [.int z.1,.sl 1 (z.2.map eL)]:=by rw [qD h,hz];rfl
   have hdr:e.drop i = z :: e.drop (i + 1):=by rw [hz];exact List.drop_eq_getElem_cons h
   have htk:e.take (i + 1) = e.take i ++ [z]:=by rw [hz];exact List.take_succ_eq_append_getElem h
   rw [← hz] at hz1 hz2 hz3
   have hzz:=eq_true hz3
   have hz0:(z.1 != 0) = true:=bne_iff_ne.2 (by omega)
   cases d with
   | true =>
    refine gw74 (Y7 i1 i2 hg hw hz0 q1 q2) ?_
    refine qY.on (i + 1,true,o ++ [z]) ?_ ?_
    refine ⟨⟨h,(fun h => nomatch h),fun _ => ?_,?_⟩,?_⟩
    ·rw [← hyes rfl,hdr];simp
    ·simp;omega
    ·show e.length - (i + 1) < e.length - i;omega
    ·exact gw75
   | false =>
    obtain ⟨ho,hlow⟩:=hno rfl
    have hpa:=putS_at hk0 h hlow
    rw [← hz] at hpa
    rcases Int.lt_trichotomy (cmpF f z.2) 0 with hc|hc|hc
    ·have hs:=sgn_lt hc
     have hp:putS cmpF e k f = o ++ [(k,f)] ++ [z] ++ e.drop (i + 1):=by
      rw [hpa,ho];unfold putS;rw [if_neg hk0,if_pos hc];simp
     refine gw76 (Y12 i1 i2 hg hw hz0 hs hff hzz q1 q2 q3 q4) ?_
     refine qY.on (i + 1,true,o ++ [(k,f)] ++ [z]) ?_ ?_
     refine ⟨⟨h,(fun h => nomatch h),fun _ => hp.symm,?_⟩,?_⟩
     ·have:o.length = i:=by rw [ho,List.length_take];omega
      simp;omega
     ·show e.length - (i + 1) < e.length - i;omega
     ·exact gw75
    ·have hs:=sgn_eq hc
     have hab:(-9223372036854775808 ≤ z.1 + k∧z.1 + k ≤ 9223372036854775807) = True:=eq_true (by omega)
     by_cases hm:mP (z.1 + k) = 0
     ·have hmb:(mP (z.1 + k) == 0) = true:=beq_iff_eq.2 hm
      have hp:putS cmpF e k f = o ++ e.drop (i + 1):=by
       rw [hpa,ho];unfold putS;rw [if_neg hk0,if_neg (by omega),if_pos hc,if_pos hm]
      refine gw74 (Y11 i1 i2 hg hw hm hs hff hzz hab q1 q2) ?_
      refine qY.on (i + 1,true,o) ?_ ?_
      refine ⟨⟨h,(fun h => nomatch h),fun _ => hp.symm,?_⟩,?_⟩
      ·show o.length ≤ i + 1 + 1;omega
      ·show e.length - (i + 1) < e.length - i;omega
      ·exact gw77 Y0
     ·have hmb:(mP (z.1 + k) != 0) = true:=bne_iff_ne.2 hm
      have hp:putS cmpF e k f = o ++ [(mP (z.1 + k),z.2)] ++ e.drop (i + 1):=by
       rw [hpa,ho];unfold putS;rw [if_neg hk0,if_neg (by omega),if_pos hc,if_neg hm];simp
      refine gw74 (Y11 i1 i2 hg hw hmb hs hff hzz hab q1 q2) ?_
      refine qY.on (i + 1,true,o ++ [(mP (z.1 + k),z.2)]) ?_ ?_
      refine ⟨⟨h,(fun h => nomatch h),fun _ => hp.symm,?_⟩,?_⟩
      ·simp;omega
      ·show e.length - (i + 1) < e.length - i;omega
      ·exact gw75
    ·have hs:=sgn_gt hc
     refine gw74 (Y10 i1 i2 hg hw hz0 hs hff hzz q1 q2) ?_
     refine qY.on (i + 1,false,o ++ [z]) ?_ ?_
     refine ⟨⟨h,fun _ => ⟨by rw [htk,ho],?_⟩,(fun h => nomatch h),?_⟩,?_⟩
     ·intro q hq
      have hq:q ∈ e.take (i + 1):=hq
      rw [htk,List.mem_append,List.mem_singleton] at hq
      rcases hq with hq|rfl
      ·exact hlow q hq
      ·exact hc
     ·simp;omega
     ·show e.length - (i + 1) < e.length - i;omega
     ·exact gw75
  ·have i1:((i:Int) < (e.length:Int)) = False:=eq_false (by omega)
   obtain rfl:i = e.length:=by omega
   refine gw78 i1 ?_
   refine qY.out (d,o) ⟨Nat.le_refl _,hno,hyes,hlen⟩ ?_
   exact gw7 Y0
 ·rintro ⟨d,o⟩ ⟨_,hno,hyes,hlen⟩
  simp only at hno hyes hlen ⊢
  have q1:=jJ (n:=o.length + 1) (by omega)
  have q2:=qP (n:=o.length + 1) (c:=32) (by omega) (by omega)
  cases d with
  | true =>
   have hp:putS cmpF e k f = o:=by rw [← hyes rfl];simp
   rw [hp]
   refine gw73 Y0 ?_
   exact gw2
  | false =>
   obtain ⟨ho,hlow⟩:=hno rfl
   have hp:putS cmpF e k f = o ++ [(k,f)]:=by
    have h1:=qH0 hk0 [] hlow
    rw [List.append_nil,List.take_length] at h1
    rw [h1,ho,List.take_length]
    unfold putS;rw [if_neg hk0]
   rw [hp]
   refine gw79 (Y3 hff q1 q2) ?_
   exact gw80
end
section
def nxtH (h:Int):Int:=IntKind.u64.wrap (IntKind.u64.wrap (h * 6364136223846793005) + 1442695040888963407)
def nxtB (h:Int):Int:=wrap64 (bits BinOp.and IntKind.u64 (nxtH h / 8589934592) 16777215)
def nxtX (code:List Int) (i:Nat) (h:Int):Int:=if hi:i < code.length then wrap64 (nxtB h + code[i]) else nxtB h
def nxtF (code:List Int) (s:Nat × Int) (n:Int):Int × Nat × Int:=if n < 1 then (0,s) else ((nxtX code s.1 s.2).tmod n,if s.1 < code.length then s.1 + 1 else s.1,nxtH s.2)
theorem nxtB_bd (h:Int):0 ≤ nxtB h∧nxtB h ≤ 16777215:=by
 have h0:0 ≤ nxtH h∧nxtH h < 18446744073709551616:=by unfold nxtH IntKind.wrap;simp [IntKind.signed,IntKind.bits];omega
 have e:=bits_and_u64_nat (nxtH h / 8589934592).toNat 16777215 (by omega) (by omega)
 have e1:(((nxtH h / 8589934592).toNat:Nat):Int) = nxtH h / 8589934592:=by omega
 rw [e1] at e
 have hle:(nxtH h / 8589934592).toNat &&& 16777215 ≤ 16777215:=Nat.and_le_right
 unfold nxtB
 have e2:((16777215:Nat):Int) = 16777215:=rfl
 rw [e2] at e
 rw [e]
 unfold wrap64
 omega
theorem nxtX_bd {code:List Int} (hc:∀ c ∈ code,0 ≤ c∧c < 256) (i:Nat) (h:Int):0 ≤ nxtX code i h∧nxtX code i h ≤ 16777470:=by
 have h1:=nxtB_bd h
 unfold nxtX
 split
 ·rename_i hi
  have h2:=hc code[i] (List.getElem_mem _)
  unfold wrap64
  omega
 ·omega
theorem jM {code:List Int} (hc:∀ c ∈ code,0 ≤ c∧c < 256) (s:Nat × Int) (n:Int):0 ≤ (nxtF code s n).1∧((nxtF code s n).1 < n ∨ (n < 1∧(nxtF code s n).1 = 0)):=by
 unfold nxtF
 split
 ·rename_i h;exact ⟨Int.le_refl _,.inr ⟨h,rfl⟩⟩
 ·rename_i h
  have h1:=nxtX_bd hc s.1 s.2
  show 0 ≤ (nxtX code s.1 s.2).tmod n∧((nxtX code s.1 s.2).tmod n < n ∨ _)
  rw [Int.tmod_eq_emod_of_nonneg h1.1]
  exact ⟨Int.emod_nonneg _ (by omega),.inl (Int.emod_lt_of_pos _ (by omega))⟩
def Byt (w:World) (b:Nat) (oa:Option Addr) (code:List Int):Prop:=(∀ c ∈ code,0 ≤ c∧c < 256)∧(code = [] ∨ ∃ b2 off,oa = some ⟨b2,off,none⟩∧b2 ≠ b∧∀ i (h:i < code.length),w.cell? ⟨b2,off + i,none⟩ = some (.int .u8 code[i]))
theorem wX {w:World} {b k cap0:Nat} {ds:List Value} (hr:Row w (slv (some b) 1 cap0) k 1 ds (some b)) (j:Nat) (u:Value):Row (w.setCell ⟨b,j,none⟩ u) (slv (some b) 1 cap0) k 1 (ds.set j u) (some b):=(hr.store j u).1
theorem bel_set {w0:World} {w:World} {b:Nat} (h:Bel ⟨w0,fun c => c = b⟩ w) (j:Nat) (u:Value):Bel ⟨w0,fun c => c = b⟩ (w.setCell ⟨b,j,none⟩ u) :=
 ⟨h.os,h.tape,h.output,by simpa using h.size,fun k hk hn => (heap_setCell_other w ⟨b,j,none⟩ k u (fun e => hn e)).trans (h.block k hk hn)⟩
theorem row_drew {w:World} {b k cap0:Nat} {ds:List Value} (hr:Row w (slv (some b) 1 cap0) k 1 ds (some b)) (n:Nat):Row (w.drewN n) (slv (some b) 1 cap0) k 1 ds (some b):=hr
theorem bel_drew {w0:World} {w:World} {b:Nat} (h:Bel ⟨w0,fun c => c = b⟩ w) (n:Nat):Bel ⟨w0,fun c => c = b⟩ (w.drewN n):=⟨h.os,h.tape,h.output,h.size,h.block⟩
theorem qE0 (w:World) (b:Nat):Bel ⟨w,fun c => c = b⟩ w:=⟨rfl,rfl,rfl,Nat.le_refl _,fun _ _ _ => rfl⟩
def RetN (w:World) (b:Nat) (oa:Option Addr) (cap cap0:Nat) (code:List Int) (r:Int × Nat × Int) (e:Ending) (w':World):Prop :=
 e = .returned (.int .i64 r.1)∧Row w' (slv (some b) 1 cap0) 3 1 [.slice oa code.length cap,.int .i64 r.2.1,.int .u64 r.2.2] (some b)∧Bel ⟨w,fun c => c = b⟩ w'
theorem c_l01Next (w:World) (b:Nat) (oa:Option Addr) (code:List Int) (cap cap0:Nat) (s:Nat × Int) (n:Int) (hr:Row w (slv (some b) 1 cap0) 3 1 [.slice oa code.length cap,.int .i64 s.1,.int .u64 s.2] (some b)) (hB:Byt w b oa code) (hn:qH n) (hat:s.1 ≤ code.length) (hl:code.length ≤ 1000000000) :
  Calls Tryz.prog 82 #[.pointer (some ⟨b,0,none⟩),.int .i64 n] w (RetN w b oa cap cap0 code (nxtF code s n)):=by
 obtain ⟨i,h⟩:=s
 have c0:=hr.cells 0 _ rfl
 have c1:=hr.cells 1 _ rfl
 have c2:=hr.cells 2 _ rfl
 have f0:=hr.frozen 0
 have f1:=hr.frozen 1
 have f2:=hr.frozen 2
 have hlt:=hr.lt b rfl
 simp only at c0 c1 c2 hat
 have HR:=Lib.hid hr
 by_cases hn1:n < 1
 ·have hF:nxtF code (i,h) n = (0,i,h):=if_pos hn1
  rw [hF]
  clear hr hB hF
  go_enter Tryz.func82,Tryz.ntmps82
  go_wp2
  go_ret
  exact ⟨rfl,HR.out,qE0 w b⟩
 ·have hF:nxtF code (i,h) n = ((nxtX code i h).tmod n,if i < code.length then i + 1 else i,nxtH h):=if_neg hn1
  rw [hF]
  by_cases ha:i < code.length
  ·obtain ⟨b2,off,e,hne,hg⟩:=hB.2.resolve_left (fun e => by rw [e] at ha;cases ha)
   have hgi:=hg i ha
   clear hg
   have hc:=hB.1 code[i] (List.getElem_mem _)
   have hX:nxtX code i h = wrap64 (nxtB h + code[i]):=dif_pos ha
   rw [hX,if_pos ha]
   obtain ⟨c,hce⟩:∃ c,c = code[i]:=⟨_,rfl⟩
   rw [← hce] at hgi hc ⊢
   have hwc:wrap64 c = c:=by unfold wrap64;omega
   subst e
   clear hr hB hce hF hX
   go_enter Tryz.func82,Tryz.ntmps82
   go_wp2
   go_quiet (fail)
   go_wp2
   go_quiet (fail)
   go_wp2
   go_ret
   exact ⟨rfl,wX (row_drew (wX HR.out 2 _) _) 1 _,bel_set (bel_drew (bel_set (qE0 w b) 2 _) _) 1 _⟩
  ·have hX:nxtX code i h = nxtB h:=dif_neg ha
   rw [hX,if_neg ha]
   clear hr hB hF hX
   go_enter Tryz.func82,Tryz.ntmps82
   go_wp2
   go_quiet (fail)
   go_wp2
   go_ret
   exact ⟨rfl,row_drew (wX HR.out 2 _) _,bel_drew (bel_set (qE0 w b) 2 _) _⟩
theorem c_below (w:World) (b:Nat) (oa:Option Addr) (code:List Int) (cap cap0:Nat) (s:Nat × Int) (n:Int) (hr:Row w (slv (some b) 1 cap0) 3 1 [.slice oa code.length cap,.int .i64 s.1,.int .u64 s.2] (some b)) (hB:Byt w b oa code) (hn:qH n) (hat:s.1 ≤ code.length) (hl:code.length ≤ 1000000000) :
  Calls Tryz.prog 53 #[.pointer (some ⟨b,0,none⟩),.int .i64 n] w (RetN w b oa cap cap0 code (nxtF code s n)):=by
 obtain ⟨i,h⟩:=s
 have c0:=hr.cells 0 _ rfl
 have c1:=hr.cells 1 _ rfl
 have c2:=hr.cells 2 _ rfl
 have f0:=hr.frozen 0
 have f1:=hr.frozen 1
 have f2:=hr.frozen 2
 have hlt:=hr.lt b rfl
 simp only at c0 c1 c2 hat
 have HR:=Lib.hid hr
 by_cases hn1:n < 1
 ·have hF:nxtF code (i,h) n = (0,i,h):=if_pos hn1
  rw [hF]
  clear hr hB hF
  go_enter Tryz.func53,Tryz.ntmps53
  go_wp2
  go_ret
  exact ⟨rfl,HR.out,qE0 w b⟩
 ·have hF:nxtF code (i,h) n = ((nxtX code i h).tmod n,if i < code.length then i + 1 else i,nxtH h):=if_neg hn1
  rw [hF]
  by_cases ha:i < code.length
  ·obtain ⟨b2,off,e,hne,hg⟩:=hB.2.resolve_left (fun e => by rw [e] at ha;cases ha)
   have hgi:=hg i ha
   clear hg
   have hc:=hB.1 code[i] (List.getElem_mem _)
   have hX:nxtX code i h = wrap64 (nxtB h + code[i]):=dif_pos ha
   rw [hX,if_pos ha]
   obtain ⟨c,hce⟩:∃ c,c = code[i]:=⟨_,rfl⟩
   rw [← hce] at hgi hc ⊢
   have hwc:wrap64 c = c:=by unfold wrap64;omega
   subst e
   clear hr hB hce hF hX
   go_enter Tryz.func53,Tryz.ntmps53
   go_wp2
   go_quiet (fail)
   go_wp2
   go_quiet (fail)
   go_wp2
   go_ret
   exact ⟨rfl,wX (row_drew (wX HR.out 2 _) _) 1 _,bel_set (bel_drew (bel_set (qE0 w b) 2 _) _) 1 _⟩
  ·have hX:nxtX code i h = nxtB h:=dif_neg ha
   rw [hX,if_neg ha]
   clear hr hB hF hX
   go_enter Tryz.func53,Tryz.ntmps53
   go_wp2
   go_quiet (fail)
   go_wp2
   go_ret
   exact ⟨rfl,row_drew (wX HR.out 2 _) _,bel_drew (bel_set (qE0 w b) 2 _) _⟩
def hshS (m:Int) (h c:Int):Int:=IntKind.u64.wrap (IntKind.u64.wrap (IntKind.u64.wrap (h * 1099511628211) + c) + m)
def hshF (m h0:Int) (code:List Int):Int:=code.foldl (hshS m) h0
theorem hshF_snoc (m h0:Int) (code:List Int) (k:Nat) (h:k < code.length):hshF m h0 (code.take (k + 1)) = hshS m (hshF m h0 (code.take k)) code[k]:=by
 unfold hshF
 rw [List.take_succ_eq_append_getElem h,List.foldl_append];rfl
def RetP (w:World) (oa:Option Addr) (cap:Nat) (code:List Int) (h:Int) (e:Ending) (w':World):Prop :=
 e = .returned (.pointer (some ⟨w.heap.size,0,none⟩))∧Row w' (slv (some w.heap.size) 1 1) 3 1 [.slice oa code.length cap,.int .i64 0,.int .u64 h] (some w.heap.size)∧Below w.heap.size w w'
theorem cell_lt {w:World} {b off:Nat} {v:Value} (h:w.cell? ⟨b,off,none⟩ = some v):b < w.heap.size:=by
 rcases Nat.lt_or_ge b w.heap.size with h1|h1
 ·exact h1
 ·rw [World.cell?] at h
  simp [Array.getElem?_eq_none h1] at h
theorem byt_below {w w':World} {n b off:Nat} {v:Value} (hb:Below n w w') (hlt:b < n) (h:w.cell? ⟨b,off,none⟩ = some v):w'.cell? ⟨b,off,none⟩ = some v:=by
 rw [World.cell?] at h ⊢
 rw [hb.block b hlt]
 exact h
theorem c_l01From (w:World) (oa:Option Addr) (code:List Int) (cap:Nat) (hB:Byt w w.heap.size oa code) (hcap:code.length ≤ cap) (hnil:oa = none→cap = 0) (hl:code.length ≤ 1000000000) :
  Calls Tryz.prog 64 #[.slice oa code.length cap] w (RetP w oa cap code (hshF 11 (5381 + code.length) (code.take 4096))):=by
 unfold RetP
 have HB:=Lib.hid hB
 obtain ⟨h0,hh0⟩:∃ h0,h0 = 5381 + (code.length:Int):=⟨_,rfl⟩
 rw [← hh0]
 have HH:=Lib.hid hh0
 clear hB hh0
 go_enter Tryz.func64,Tryz.ntmps64
 go_wp2
 go_loopw [4] (fun i wr => ∃ k:Nat,k ≤ code.length∧k ≤ 4096∧i = .int .i64 k∧Row wr (slv (some w.heap.size) 1 1) 3 1 [.slice oa code.length cap,.int .i64 0,.int .u64 (hshF 11 h0 (code.take k))] (some w.heap.size)∧Below w.heap.size w wr) (fun i _ => code.length - (intOf i).toNat)
 case atStart =>
  refine ⟨0,Nat.zero_le _,Nat.zero_le _,rfl,?_,?_⟩
  ·rw [List.take_zero]
   show Row _ _ 3 1 [_,_,.int .u64 h0] _
   rw [HH.out]
   exact Row.lit w #[.slice oa code.length cap,.int .i64 0,.int .u64 _] _ 3 1 (by decide) rfl
  ·exact (Below.refl _ _).alloc (Nat.le_refl _) _
 case round =>
  obtain ⟨k,hk,hk2,rfl,hrow,hbel⟩:=hrel
  have c0:=hrow.cells 0 _ rfl
  have c2:=hrow.cells 2 _ rfl
  have f2:=hrow.frozen 2
  have hlt:=hrow.lt _ rfl
  have HR:=Lib.hid hrow
  have HL:=Lib.hid hbel
  clear hrow hbel
  by_cases hlt1:k < code.length
  ·by_cases hlt2:k < 4096
   ·have hB:=HB.out
    obtain ⟨b2,off,e,hne,hg⟩:=hB.2.resolve_left (fun e => by rw [e] at hlt1;cases hlt1)
    have hgi:=byt_below HL.out (cell_lt (hg k hlt1)) (hg k hlt1)
    have hc:=hB.1 code[k] (List.getElem_mem _)
    have hst:=hshF_snoc 11 h0 code k hlt1
    obtain ⟨c,hce⟩:∃ c,c = code[k]:=⟨_,rfl⟩
    rw [← hce] at hgi hc hst
    subst e
    have HS:=Lib.hid hst
    clear hB hg hce hst
    obtain ⟨h,hh⟩:∃ h,h = hshF 11 h0 (code.take k):=⟨_,rfl⟩
    rw [← hh] at HR HS c2
    clear hh
    go_wp2_with fail
    go_region
    go_wp2_with fail
    go_roundw
    case rel =>
     refine ⟨k + 1,by omega,by omega,by go_num,?_,?_⟩
     ·rw [HS.out]
      exact wX HR.out 2 _
     ·have hz:Below w.heap.size w (wr.setCell ⟨w.heap.size,2,none⟩ (.int .u64 (hshS 11 h c))):=HL.out.setCell (Nat.le_refl _) _
      exact ⟨hz.os,hz.tape,hz.output,hz.size,hz.block⟩
    case measure => simp [intOf];omega
   ·obtain rfl:k = 4096:=by omega
    go_wp2_with fail
    go_ret
    exact ⟨rfl,HR.out,HL.out⟩
  ·have e:code.take 4096 = code.take k:=by rw [List.take_of_length_le (by omega),List.take_of_length_le (by omega)]
   have HE:=Lib.hid e
   clear e
   go_wp2_with fail
   go_ret
   rw [HE.out]
   exact ⟨rfl,HR.out,HL.out⟩
theorem c_roll (w:World) (seed:Int) (hs:0 ≤ seed∧seed < 1000000) (oa:Option Addr) (code:List Int) (cap:Nat) (hB:Byt w w.heap.size oa code) (hcap:code.length ≤ cap) (hnil:oa = none→cap = 0) (hl:code.length ≤ 1000000000) :
  Calls Tryz.prog 12 #[.slice oa code.length cap,.int .u64 seed] w (RetP w oa cap code (hshF 5 (seed * 8111 + code.length) code)):=by
 unfold RetP
 have HB:=Lib.hid hB
 obtain ⟨h0,hh0⟩:∃ h0,h0 = seed * 8111 + (code.length:Int):=⟨_,rfl⟩
 rw [← hh0]
 have HH:=Lib.hid hh0
 clear hB hh0
 go_enter Tryz.func12,Tryz.ntmps12
 go_wp2
 go_loopw [6] (fun i wr => ∃ k:Nat,k ≤ code.length∧i = .int .i64 k∧Row wr (slv (some w.heap.size) 1 1) 3 1 [.slice oa code.length cap,.int .i64 0,.int .u64 (hshF 5 h0 (code.take k))] (some w.heap.size)∧Below w.heap.size w wr) (fun i _ => code.length - (intOf i).toNat)
 case atStart =>
  refine ⟨0,Nat.zero_le _,rfl,?_,?_⟩
  ·rw [List.take_zero]
   show Row _ _ 3 1 [_,_,.int .u64 h0] _
   rw [HH.out]
   exact Row.lit w #[.slice oa code.length cap,.int .i64 0,.int .u64 _] _ 3 1 (by decide) rfl
  ·exact (Below.refl _ _).alloc (Nat.le_refl _) _
 case round =>
  obtain ⟨k,hk,rfl,hrow,hbel⟩:=hrel
  have c0:=hrow.cells 0 _ rfl
  have c2:=hrow.cells 2 _ rfl
  have f2:=hrow.frozen 2
  have hlt:=hrow.lt _ rfl
  have HR:=Lib.hid hrow
  have HL:=Lib.hid hbel
  clear hrow hbel
  by_cases hlt1:k < code.length
  ·by_cases hlt2:k < code.length
   ·have hB:=HB.out
    obtain ⟨b2,off,e,hne,hg⟩:=hB.2.resolve_left (fun e => by rw [e] at hlt1;cases hlt1)
    have hgi:=byt_below HL.out (cell_lt (hg k hlt1)) (hg k hlt1)
    have hc:=hB.1 code[k] (List.getElem_mem _)
    have hst:=hshF_snoc 5 h0 code k hlt1
    obtain ⟨c,hce⟩:∃ c,c = code[k]:=⟨_,rfl⟩
    rw [← hce] at hgi hc hst
    subst e
    have HS:=Lib.hid hst
    clear hB hg hce hst
    obtain ⟨h,hh⟩:∃ h,h = hshF 5 h0 (code.take k):=⟨_,rfl⟩
    rw [← hh] at HR HS c2
    clear hh
    go_wp2_with fail
    go_region
    go_wp2_with fail
    go_roundw
    case rel =>
     refine ⟨k + 1,by omega,by go_num,?_,?_⟩
     ·rw [HS.out]
      exact wX HR.out 2 _
     ·have hz:Below w.heap.size w (wr.setCell ⟨w.heap.size,2,none⟩ (.int .u64 (hshS 5 h c))):=HL.out.setCell (Nat.le_refl _) _
      exact ⟨hz.os,hz.tape,hz.output,hz.size,hz.block⟩
    case measure => simp [intOf];omega
   ·exact absurd hlt1 hlt2
  ·have e:code.take k = code:=List.take_of_length_le (by omega)
   have HE:=Lib.hid e
   clear e
   go_wp2_with fail
   go_ret
   have hq:=HR.out
   rw [HE.out] at hq
   exact ⟨rfl,hq,HL.out⟩
end
section
structure AFnP (P:Program) (f:FuncId) (ds:List (List D)) (r:List D):Prop where
 call:∀ args w,(callFunc f args).run P w = .ok (.enter f args) w
 fn:∀ (A:Nat→Prop) w vs,(∀ b,A b→b < w.heap.size)→jX A w ds vs →
  Calls P f vs.toArray w (fun e w' => ∃ b ds',e = .returned (.pointer (some ⟨b,0,none⟩))∧w.heap.size ≤ b∧Below w.heap.size w w'∧Row w' (slv (some b) 1 1) r.length 1 ds' (some b)∧0 < r.length∧rdCs (fun c => (A c ∨ w.heap.size ≤ c)∧c ≠ b) w' ds' r)
section
variable {P:Program} {cfg:Cfg} {M:Nat→Prop} {ops:Array Oper} {s s':St} {w0:W0} {w:World} {Ok:Nat→Prop} {N:Nat} {σ:Asg} {a:Act} {fs:List Fr} {Q:Exit→St→Prop} {T:Tab P} {H:List (Nat × Obj)}
theorem rdR_one {A:Nat→Prop} {w:World} {k:Nat} {ds:List Value} {r:List D} (h:rdR k A w ds [r]):rdCs A w ds r:=by
 obtain ⟨c,e,rfl,_,_,h1,h2⟩:=h.cons_inv
 have he:e = []:=List.eq_nil_of_length_eq_zero (by rw [h2.len];simp)
 rw [he,List.append_nil];exact h1
theorem qZ.callR (C:CfgOK P cfg) {o:Oper} {l:List Oper} {Q:St→Prop} (hg:o.guard = Option.none) {d:Nat} (hd:o.dst = some d) (hdN:d < cfg.N) {f:Operand} {args:Array Operand} {ts:Array TypeId} (ho:o.op = .call ⟨.value f,args,ts⟩) {g:FuncId} (hf:((opv s.regs f).bind avD).bind fnId = some g)
  {ds:List (List D)} (hds:aargs cfg (fun k => look k s.heap) s.regs args.toList ts.toList = some ds) (hs:jQ s.regs args.toList = []) {r:List D} (hfn:AFnP P g ds r) (hfr:fresh s d = true) (h:∀ b,qZ P cfg M ops l Q ⟨insR d (.optr d 0 0) s.regs,insR d (.pin (some b) 1 r.length [r]) s.heap⟩):qZ P cfg M ops (o :: l) Q s:=by
 intro w0 Ok σ a w Q' hM hS hQ
 refine wpList_step (fun K hK => ?_)
 have hw:qM ops s.regs o = some true:=by unfold qM;rw [hg]
 rw [xB hS hw]
 simp only [if_true]
 obtain ⟨_,l2⟩:=kC C hS hds
 have hfv:a.eval f = .func (.func g) #[] #[]:=qC0 hS hf
 have hrun:(execOp a.eval o).run P w = .ok (.enter g (args.map a.eval)) w:=by
  unfold execOp
  rw [ho]
  simp [resolve,Deferred.ofValue,hfv,invoke,hfn.call]
 have hcall:=hfn.fn (Zn σ s.heap w) w (args.toList.map a.eval) (fun _ h => h.1) (l2 hs)
 unfold Oper.wp
 rw [hrun,Oper.upon_enter]
 have e:(args.toList.map a.eval).toArray = args.map a.eval:=by rw [← Array.toList_map,Array.toArray_toList]
 rw [← e]
 refine hcall.mono ?_
 rintro e w' ⟨b,ds',rfl,hb,hB,hrow,hk,hrd⟩
 have hfree:=xO hfr
 obtain ⟨σ',k0,k1,k2,hZ,hS'⟩:=hS.new hB d (.row r.length [r] false) hfree (some b) 1 [] ds' hrow hk (fun σ' hok hF hg' hgo hZ hst => by
  show rdR r.length (Zn σ' _ w') w' ds' [r]
  refine rdR.single hk rfl (hrd.mono (fun c hc hlt => ?_))
  rcases hc.1 with h1|h1
  ·exact (hZ c h1).1
  ·refine ⟨hlt,by rw [hok];exact hS.ok1 c (.inl (Nat.le_trans hS.below.size h1)),fun q u hq e => ?_⟩
   simp only [look] at hq
   by_cases hqd:d = q
   ·subst hqd
    rw [hg'] at e
    cases e
    exact hc.2 rfl
   ·rw [if_neg hqd] at hq
    rw [hgo q (fun e => hqd e.symm)] at e
    have:=yO hS hq c (qL e)
    omega) (fun c hc => by
   have hc:c ∈ [b] ++ []:=hc
   rw [List.append_nil,List.mem_singleton] at hc
   rw [hc];exact hb) (by simp)
 have hS2:=Sim.setObj hS' (key:=d) (u:=.row r.length [r] false) (ob:=.pin (some b) 1 r.length [r]) (by simp [look]) rfl rfl rfl (fun H' hm _ ds _ hel => by
  have hel:rdR r.length (Zn σ' _ w') w' ds [r]:=hel
  exact ⟨k1,k2,hel.mono (fun c hc _ => hm c hc)⟩)
 have hS3:Sim w0 Ok cfg.N σ' ⟨s.regs,insR d (.pin (some b) 1 r.length [r]) s.heap⟩ a w':=hS2.forget (fun _ _ h => h) (fun q o' ho' => by
  rw [qR] at ho'
  rw [qR]
  by_cases e:d = q
  ·rw [if_pos e] at ho' ⊢;exact ho'
  ·rw [if_neg e] at ho' ⊢
   simp only [look]
   rw [if_neg e];exact ho')
 show K (a.put o.dst _) _
 rw [hd]
 refine hK _ _ (h b w0 Ok σ' _ _ Q' hM (Sim.ins hS3 hdN ?_) hQ)
 intro o' ho'
 rw [qR,if_pos rfl] at ho'
 cases ho'
 exact ⟨Nat.zero_lt_one,b,k1,by simp⟩
end
def eU (c:Int):List D:=[.raw (.int .u8 c)]
def dCode (code:List Int):D:=.sl 1 (code.map eU)
def eCode (code:List Int):List D:=[dCode code]
def srcD (code:List Int) (s:Nat × Int):List D:=[.sl 1 (code.map eU),.int s.1,.raw (.int .u64 s.2)]
def jW (code:List Int):Prop:=∀ c ∈ code,0 ≤ c∧c < 256
theorem rdU {A:Nat→Prop} {w:World}:∀ {code:List Int} {ds:List Value} {d:Nat} {hk:0 < 1},rdL (RK 1 hk (RC d)) A w ds (code.map eU)→ds = code.map fun c => Value.int .u8 c
 | [],_,_,_,h => h
 | c :: code,ds,d,hk,⟨c1,d1,e,h1,h2⟩ => by
  obtain ⟨_,_,h3⟩:=h1
  have h3:=wQ.1 h3
  have hc:c1 = [Value.int .u8 c]:=by
   have:rdV A w (c1.headD undef) (.raw (.int .u8 c)):=by
    obtain ⟨x,rfl⟩:∃ x,c1 = [x]:=by
     have:=(RC d).rd_len h3
     rw [RC_k] at this
     match c1,this with
     | [x],_ => exact ⟨x,rfl⟩
    exact ⟨d,h3⟩
   have hl:=(RC d).rd_len h3
   rw [RC_k] at hl
   match c1,hl,this with
   | [x],_,this => rw [show x = _ from (yM.1 this).1]
  rw [e,hc,rdU h2];rfl
theorem byt_of {A:Nat→Prop} {w:World} {v:Value} {code:List Int} {b:Nat} (hb:¬ A b) (hc:jW code) (h:rdV A w v (.sl 1 (code.map eU))):∃ oa cap,v = .slice oa code.length cap∧code.length ≤ cap∧cap ≤ maxLen∧(oa = none→cap = 0)∧Byt w b oa code:=by
 obtain ⟨oa,cap,ds,rfl,h1,h2,h3,h4,h5⟩:=yN.1 h
 rw [List.length_map] at h1 ⊢
 refine ⟨oa,cap,rfl,h1,h2,h3,hc,?_⟩
 obtain ⟨d,hk,h4⟩:=h4
 have e:=rdU h4
 rcases h5 with h5|⟨b2,off,h5,h6,h7⟩
 ·left
  rw [h5] at e
  cases code with
  | nil => rfl
  | cons => cases e
 ·by_cases hn:code = []
  ·exact .inl hn
  ·refine .inr ⟨b2,off,h5,fun e => hb (e ▸ h6),fun i hi => h7 i _ ?_⟩
   rw [e,List.getElem?_map,List.getElem?_eq_getElem hi];rfl
theorem jU {code:List Int} {s:Nat × Int} {n:Int} (h:s.1 ≤ code.length):(nxtF code s n).2.1 ≤ code.length:=by
 unfold nxtF
 split
 ·exact h
 ·show (if s.1 < code.length then s.1 + 1 else s.1) ≤ _
  split <;> omega
noncomputable def nxtG (code:List Int) (k:Nat) (xs:List (List D)) (post:List (List D)):Option (List Res × List (List D)):=by
 classical
 exact if h:∃ p:(Nat × Int) × Int,p.1.1 ≤ code.length∧k = 3∧xs = [srcD code p.1]∧post = [eI p.2] then some ([.val (.int (nxtF code h.choose.1 h.choose.2).1)],[srcD code (nxtF code h.choose.1 h.choose.2).2]) else none
noncomputable def nxtE (code:List Int):PinE:=⟨true,nxtG code⟩
theorem srcD_inj {code:List Int} {s s':Nat × Int} (h:srcD code s = srcD code s'):s = s':=by
 unfold srcD at h
 simp only [List.cons.injEq,D.int.injEq,D.raw.injEq,Value.int.injEq,true_and,and_true] at h
 exact Prod.ext (by omega) h.2
theorem yG (code:List Int) (s:Nat × Int) (n:Int) (h:s.1 ≤ code.length):nxtG code 3 [srcD code s] [eI n] = some ([.val (.int (nxtF code s n).1)],[srcD code (nxtF code s n).2]):=by
 unfold nxtG
 have hx:∃ p:(Nat × Int) × Int,p.1.1 ≤ code.length∧3 = 3∧[srcD code s] = [srcD code p.1]∧[eI n] = [eI p.2]:=⟨(s,n),h,rfl,rfl,rfl⟩
 rw [dif_pos hx]
 obtain ⟨_,_,h2,h3⟩:=hx.choose_spec
 have e1:=srcD_inj (List.cons.inj h2).1
 have e2:n = hx.choose.2:=by
  exact D.int.inj (List.cons.inj (List.cons.inj h3).1).1
 rw [← e1,← e2]
section
variable {P:Program} {f:FuncId} {code:List Int} (hc:jW code) (eg:∀ args w,(callFunc f args).run P w = .ok (.enter f args) w)
 (hw:∀ (w:World) (b:Nat) (oa:Option Addr) (cap cap0:Nat) (s:Nat × Int) (n:Int),Row w (slv (some b) 1 cap0) 3 1 [.slice oa code.length cap,.int .i64 s.1,.int .u64 s.2] (some b)→Byt w b oa code→qH n→s.1 ≤ code.length→code.length ≤ 1000000000 →
  Calls P f #[.pointer (some ⟨b,0,none⟩),.int .i64 n] w (RetN w b oa cap cap0 code (nxtF code s n)))
include hc eg hw
theorem nxt_ok (hl:code.length ≤ 1000000000) (k:Nat) (xs:List (List D)) (post:List (List D)) (x:List Res × List (List D)) (hx:(nxtE code).fn k xs post = some x):AEp P f (nxtE code).ptr k xs post (fun rs xs' => rs = x.1∧xs' = x.2):=by
 have hx:nxtG code k xs post = some x:=hx
 have key:∃ (s:Nat × Int) (n:Int),s.1 ≤ code.length∧k = 3∧xs = [srcD code s]∧post = [eI n]:=by
  unfold nxtG at hx
  split at hx
  ·rename_i h;obtain ⟨p,h1,h2,h3,h4⟩:=h;exact ⟨p.1,p.2,h1,h2,h3,h4⟩
  ·cases hx
 obtain ⟨s,n,h1,rfl,rfl,rfl⟩:=key
 rw [yG code s n h1] at hx
 cases hx
 refine ⟨eg,fun A w us og cap0 ds hA hu hrow hk hrd hb => ?_⟩
 obtain ⟨b,hog⟩:=hrow.some_of (j:=0) Nat.zero_lt_one
 subst hog
 obtain ⟨cap1,hcv,_,_⟩:=hrow.slice
 have hb:=hb b rfl
 obtain ⟨u,us',rfl,hu1,hu2⟩:=hu
 have hu2:us' = []:=hu2
 subst hu2
 obtain ⟨rfl,hn⟩:=jY.1 hu1
 have hrd:=rdR_one hrd
 obtain ⟨v0,ds1,rfl,hv0,hrd⟩:=hrd.cons_inv
 obtain ⟨v1,ds2,rfl,hv1,hrd⟩:=hrd.cons_inv
 obtain ⟨v2,ds3,rfl,hv2,hrd⟩:=hrd.cons_inv
 have hd3:ds3 = []:=List.eq_nil_of_length_eq_zero hrd.len
 subst hd3
 obtain ⟨rfl,hi⟩:=jY.1 hv1
 obtain ⟨rfl,_⟩:=yM.1 hv2
 obtain ⟨oa,cap,rfl,hcap,hcm,hnil,hB⟩:=byt_of hb hc hv0
 refine (hw w b oa cap cap0 s n hrow hB hn h1 hl).mono ?_
 rintro e w' ⟨rfl,hrow',hbel⟩
 have hbd:=jM hc s n
 have hin:qH (nxtF code s n).1:=by unfold qH at hn ⊢;omega
 have hat:=jU (n:=n) h1
 refine ⟨_,_,_,[.slice oa code.length cap,.int .i64 (nxtF code s n).2.1,.int .u64 (nxtF code s n).2.2],[.int .i64 (nxtF code s n).1],[],[],rfl,⟨rfl,rfl⟩,⟨hbel.os,hbel.tape,hbel.output,hbel.size,fun c hc hne => hbel.block c hc (fun e => hne (by show some b = some c;rw [show c = b from e]))⟩,rfl,List.nodup_nil,(by simp),?_,rfl,hrow',?_⟩
 ·exact ⟨_,[],[],[],[],[],rfl,rfl,rfl,rfl,⟨jY.2 ⟨rfl,hin⟩,rfl,rfl⟩,rfl,rfl,rfl⟩
 ·refine rdR.single (by decide) rfl (.cons ((hv0.frame (fun c hA' hlt => hbel.block c hlt (fun e => hb (e ▸ hA')))).mono (fun c hA' _ => ⟨.inl hA',by simp,fun e => hb (by cases e;exact hA')⟩)) (.cons (jY.2 ⟨rfl,?_⟩) (.cons (yM.2 ⟨rfl,rfl⟩) .nil)))
  unfold qH;omega
end
section
variable {P:Program} {f:FuncId} {code:List Int} (hc:jW code)
include hc
theorem frm_ok (eg:∀ args w,(callFunc f args).run P w = .ok (.enter f args) w) {xs:List (List D)} {us0:List Value} (hxs:∀ A w us,jX A w xs us→us = us0) {h:Int}
  (hw:∀ (w:World) (oa:Option Addr) (cap:Nat),Byt w w.heap.size oa code→code.length ≤ cap→(oa = none→cap = 0)→Calls P f (.slice oa code.length cap :: us0).toArray w (RetP w oa cap code h)) :
  AFnP P f (eCode code :: xs) (srcD code (0,h)):=by
 refine ⟨eg,fun A w vs hA hv => ?_⟩
 obtain ⟨v,us,rfl,hv1,hv2⟩:=hv
 obtain rfl:=hxs _ _ _ hv2
 have hv1:rdV A w v (.sl 1 (code.map eU)):=hv1
 obtain ⟨oa,cap,rfl,hcap,hcm,hnil,hB⟩:=byt_of (b:=w.heap.size) (fun h => Nat.lt_irrefl _ (hA _ h)) hc hv1
 refine (hw w oa cap hB hcap hnil).mono ?_
 rintro e w' ⟨rfl,hrow,hbel⟩
 refine ⟨_,_,rfl,Nat.le_refl _,hbel,hrow,(by show 0 < 3;omega),?_⟩
 refine .cons ((hv1.frame (fun c hA' hlt => hbel.block c hlt)).mono (fun c hA' _ => ⟨.inl hA',by have:=hA c hA';omega⟩)) (.cons (jY.2 ⟨rfl,by unfold qH;omega⟩) (.cons (yM.2 ⟨rfl,rfl⟩) .nil))
end
theorem kP {code:List Int} (hc:jW code) (hl:code.length ≤ 1000000000) (k:Nat) (xs:List (List D)) (post:List (List D)) (x:List Res × List (List D)) (hx:(nxtE code).fn k xs post = some x):AEp Tryz.prog 82 (nxtE code).ptr k xs post (fun rs xs' => rs = x.1∧xs' = x.2) :=
 nxt_ok hc (enters_of Tryz.func82 rfl rfl) (fun w b oa cap cap0 s n h1 h2 h3 h4 h5 => c_l01Next w b oa code cap cap0 s n h1 h2 h3 h4 h5) hl k xs post x hx
theorem nxt_below {code:List Int} (hc:jW code) (hl:code.length ≤ 1000000000) (k:Nat) (xs:List (List D)) (post:List (List D)) (x:List Res × List (List D)) (hx:(nxtE code).fn k xs post = some x):AEp Tryz.prog 53 (nxtE code).ptr k xs post (fun rs xs' => rs = x.1∧xs' = x.2) :=
 nxt_ok hc (enters_of Tryz.func53 rfl rfl) (fun w b oa cap cap0 s n h1 h2 h3 h4 h5 => c_below w b oa code cap cap0 s n h1 h2 h3 h4 h5) hl k xs post x hx
def src0 (code:List Int):Nat × Int:=(0,hshF 11 (5381 + code.length) (code.take 4096))
def dice0 (seed:Int) (code:List Int):Nat × Int:=(0,hshF 5 (seed * 8111 + code.length) code)
theorem p_l01From {code:List Int} (hc:jW code) (hl:code.length ≤ 1000000000):AFnP Tryz.prog 64 [eCode code] (srcD code (src0 code)) :=
 frm_ok (xs:=[]) hc (enters_of Tryz.func64 rfl rfl) (us0:=[]) (fun _ _ _ h => h) (fun w oa cap h1 h2 h3 => c_l01From w oa code cap h1 h2 h3 hl)
theorem p_roll {code:List Int} (hc:jW code) (hl:code.length ≤ 1000000000) (seed:Int) (hs:0 ≤ seed∧seed < 1000000):AFnP Tryz.prog 12 [eCode code,[.raw (.int .u64 seed)]] (srcD code (dice0 seed code)) :=
 frm_ok (xs:=[[.raw (.int .u64 seed)]]) hc (enters_of Tryz.func12 rfl rfl) (us0:=[.int .u64 seed]) (fun A w us h => by
  obtain ⟨v,us',rfl,h1,h2⟩:=h
  have h2:us' = []:=h2
  rw [h2,(yM.1 h1).1]) (fun w oa cap h1 h2 h3 => c_roll w seed hs oa code cap h1 h2 h3 hl)
end
section
theorem EndsP.mk {P:Program} {cfg:Cfg} {M:Nat→Prop} {fn:Func} {Q0:List Res→List (List D)→Prop} {og:Option Nat} {cap k n:Nat} {e:Exit} {s:St} {rs:List Res} {ks:List Nat} {xs':List (List D)} (he:e = .normal ∨ e = .ret) {rvs:List ResultVar} {ts:List TypeId} (h1:fn.results.toList = rvs) (h2:fn.resultTypes.toList = ts)
  (h:jG cfg s rvs ts = some (rs,ks)) (hk:ks.Nodup) (hz:0 ∉ ks) (hl:look 0 s.heap = some (.pin og cap k xs')) (hq:xs'.length = n∧Q0 rs xs'):outK P cfg M [] (EndsP cfg fn Q0 og cap k n) e s:=⟨he,rs,ks,xs',by rw [h1,h2];exact h,hk,hz,hl,hq.1,hq.2⟩
theorem srcD_len (code:List Int) (s:Nat × Int):(srcD code s).length = 3:=rfl
noncomputable def drwG (code:List Int) (F:(Nat × Int)→List (List D)→Option (List Res × (Nat × Int))) (k:Nat) (xs:List (List D)) (post:List (List D)):Option (List Res × List (List D)):=by
 classical
 exact if h:∃ s:Nat × Int,s.1 ≤ code.length∧k = 3∧xs = [srcD code s] then (F h.choose post).map (fun p => (p.1,[srcD code p.2])) else none
noncomputable def drwE (code:List Int) (F:(Nat × Int)→List (List D)→Option (List Res × (Nat × Int))):PinE:=⟨true,drwG code F⟩
theorem drwG_eq {code:List Int} {F:(Nat × Int)→List (List D)→Option (List Res × (Nat × Int))} {s:Nat × Int} (h:s.1 ≤ code.length) {post:List (List D)}:drwG code F 3 [srcD code s] post = (F s post).map (fun p => (p.1,[srcD code p.2])):=by
 unfold drwG
 have hx:∃ s':Nat × Int,s'.1 ≤ code.length∧3 = 3∧[srcD code s] = [srcD code s']:=⟨s,h,rfl,rfl⟩
 rw [dif_pos hx]
 obtain ⟨_,_,h2⟩:=hx.choose_spec
 rw [← srcD_inj (List.cons.inj h2).1]
def xT (P:Program) (f:FuncId) (code:List Int) (F:(Nat × Int)→List (List D)→Option (List Res × (Nat × Int))):Prop :=
 ∀ s post rs s',s.1 ≤ code.length→F s post = some (rs,s')→AEp P f true 3 [srcD code s] post (fun r x => r = rs∧x = [srcD code s'])
theorem xT.ok {P:Program} {f:FuncId} {code:List Int} {F:(Nat × Int)→List (List D)→Option (List Res × (Nat × Int))} (H:xT P f code F) (k:Nat) (xs:List (List D)) (post:List (List D)) (x:List Res × List (List D)) (hx:(drwE code F).fn k xs post = some x):AEp P f (drwE code F).ptr k xs post (fun rs xs' => rs = x.1∧xs' = x.2):=by
 have hx:drwG code F k xs post = some x:=hx
 unfold drwG at hx
 split at hx
 ·rename_i h
  obtain ⟨h1,h2,h3⟩:=h.choose_spec
  obtain ⟨p,hp,e⟩:=Option.map_eq_some_iff.1 hx
  subst h2
  rw [h3,← e]
  exact H _ _ _ _ h1 hp
 ·cases hx
def drw1 (G:(Nat × Int)→Int→List Res × (Nat × Int)) (s:Nat × Int):List (List D)→Option (List Res × (Nat × Int))
 | [[.int m]] => if -1000 ≤ m∧m ≤ 1000 then some (G s m) else none
 | _ => none
theorem vJ {code:List Int} {G:(Nat × Int)→Int→List Res × (Nat × Int)} {s:Nat × Int} (h:s.1 ≤ code.length) {m:Int} (hm:-1000 ≤ m∧m ≤ 1000):drwG code (drw1 G) 3 [srcD code s] [[.int m]] = some ((G s m).1,[srcD code (G s m).2]):=by
 rw [drwG_eq h]
 show Option.map _ (if -1000 ≤ m∧m ≤ 1000 then some (G s m) else none) = _
 rw [if_pos hm];rfl
theorem drw1_of {P:Program} {f:FuncId} {code:List Int} {G:(Nat × Int)→Int→List Res × (Nat × Int)} (h:∀ s m,s.1 ≤ code.length→-1000 ≤ m→m ≤ 1000→AEp P f true 3 [srcD code s] [[.int m]] (fun r x => r = (G s m).1∧x = [srcD code (G s m).2])):xT P f code (drw1 G):=by
 intro s post rs s' hs hp
 unfold drw1 at hp
 split at hp
 ·rename_i m
  split at hp
  ·rename_i hm
   have e:=Option.some.inj hp
   have e1:rs = (G s m).1:=by rw [e]
   have e2:s' = (G s m).2:=by rw [e]
   subst e1;subst e2
   exact h s m hs hm.1 hm.2
  ·cases hp
 ·cases hp
noncomputable def drwL (G:(Nat × Int)→List Int→List Res × (Nat × Int)) (s:Nat × Int) (post:List (List D)):Option (List Res × (Nat × Int)):=by
 classical
 exact if h:∃ l:List Int,l ≠ []∧l.length ≤ 1000∧post = [[.sl 1 (l.map eI)]] then some (G s h.choose) else none
theorem eI_inj {l l':List Int} (h:l.map eI = l'.map eI):l = l':=by
 induction l generalizing l' with
 | nil => cases l' with
  | nil => rfl
  | cons => cases h
 | cons a l ih => cases l' with
  | nil => cases h
  | cons b l' =>
   simp only [List.map_cons,List.cons.injEq] at h
   have h1:=D.int.inj (List.cons.inj h.1).1
   rw [h1,ih h.2]
theorem drwL_eq {code:List Int} {G:(Nat × Int)→List Int→List Res × (Nat × Int)} {s:Nat × Int} (h:s.1 ≤ code.length) {l:List Int} (h0:l ≠ []) (h1:l.length ≤ 1000):drwG code (drwL G) 3 [srcD code s] [[.sl 1 (l.map eI)]] = some ((G s l).1,[srcD code (G s l).2]):=by
 rw [drwG_eq h]
 unfold drwL
 have hx:∃ l':List Int,l' ≠ []∧l'.length ≤ 1000∧[[D.sl 1 (l.map eI)]] = [[.sl 1 (l'.map eI)]]:=⟨l,h0,h1,rfl⟩
 rw [dif_pos hx]
 obtain ⟨_,_,h2⟩:=hx.choose_spec
 have e:l.map eI = hx.choose.map eI:=by simpa using h2
 rw [← eI_inj e];rfl
theorem drwL_of {P:Program} {f:FuncId} {code:List Int} {G:(Nat × Int)→List Int→List Res × (Nat × Int)} (h:∀ s l,s.1 ≤ code.length→l ≠ []→l.length ≤ 1000→AEp P f true 3 [srcD code s] [[.sl 1 (l.map eI)]] (fun r x => r = (G s l).1∧x = [srcD code (G s l).2])):xT P f code (drwL G):=by
 intro s post rs s' hs hp
 unfold drwL at hp
 split at hp
 ·rename_i hx
  obtain ⟨h0,h1,h2⟩:=hx.choose_spec
  have e:=Option.some.inj hp
  have e1:rs = (G s hx.choose).1:=by rw [e]
  have e2:s' = (G s hx.choose).2:=by rw [e]
  rw [h2,e1,e2]
  exact h s _ hs h0 h1
 ·cases hp
def pickF (code:List Int) (s:Nat × Int) (l:List Int):Int × (Nat × Int):=(l.getD (nxtF code s l.length).1.toNat 0,(nxtF code s l.length).2)
def pickG (code:List Int) (s:Nat × Int) (l:List Int):List Res × (Nat × Int):=([.val (.int (pickF code s l).1)],(pickF code s l).2)
theorem pickF_ok {code:List Int} (hc:jW code) {s:Nat × Int} (hs:s.1 ≤ code.length) {l:List Int} (h0:l ≠ []):(pickF code s l).1 ∈ l∧(pickF code s l).2.1 ≤ code.length:=by
 have hb:=jM hc s l.length
 have hl:0 < l.length:=List.length_pos_iff.2 h0
 refine ⟨?_,jU hs⟩
 unfold pickF
 have hi:(nxtF code s l.length).1.toNat < l.length:=by omega
 rw [List.getD_eq_getElem?_getD,List.getElem?_eq_getElem hi]
 exact List.getElem_mem _
theorem p_l01Pick {code:List Int} (hc:jW code) (hl:code.length ≤ 1000000000):xT Tryz.prog 147 code (drwL (pickG code)):=by
 refine drwL_of fun s l hs h0 h1 => ?_
 have hpin:=kP hc hl
 have hlp:0 < l.length:=List.length_pos_iff.2 h0
 have hdr:=yG code s l.length hs
 have hbd:=jM hc s l.length
 unfold pickG pickF
 obtain ⟨⟨i,s1⟩,hp⟩:∃ p,p = nxtF code s l.length:=⟨_,rfl⟩
 rw [← hp] at hdr hbd ⊢
 simp only [eI] at hdr hbd ⊢
 have hlm:(l.map eI).length = l.length:=List.length_map _
 have i1:((0:Int) ≤ i) = True:=eq_true (by omega)
 have i2:(i < (l.length:Int)) = True:=eq_true (by omega)
 have hil:i.toNat < l.length:=by omega
 have hg:(l.map eI)[i.toNat]? = some [.int (l.getD i.toNat 0)]:=by rw [List.getElem?_map,List.getElem?_eq_getElem hil,List.getD_eq_getElem?_getD,List.getElem?_eq_getElem hil];rfl
 refine AEp.of_runs (qQ 12) Tryz.func147 rfl rfl rfl (fun _ => rfl) gz ?_
 have hres:Tryz.f147.results.toList = [.tmp 4]:=rfl
 have hrts:Tryz.f147.resultTypes.toList = [2]:=rfl
 simp only [List.length_cons,List.length_nil,jF,if_true,qV,qT,eL,eI,eLL,eB,Nat.zero_add,Nat.reduceAdd]
 intro M og cap
 refine qJ.of ?_
 refine gw199 (Y5 hdr i1 i2 hlm hg) ?_
 exact gw200
def growD (code:List Int):Nat→(Nat × Int)→List Int→List Int × (Nat × Int)
 | 0,s,t => (t,s)
 | k + 1,s,t => growD code k (nxtF code s (t.getLastD 0 + 1)).2 (t ++ [1 + (nxtF code s (t.getLastD 0 + 1)).1])
def drawF (code:List Int) (s:Nat × Int) (m:Int):List Int × (Nat × Int):=growD code (nxtF code s m).1.toNat (nxtF code s m).2 [0]
structure TOk (n:Nat) (t:List Int):Prop where
 pos:t ≠ []
 lev:qU t
 len:t.length ≤ n
 bd:∀ x ∈ t,0 ≤ x∧x < t.length
theorem getLastD_mem {t:List Int} (h:t ≠ []):t.getLastD 0 ∈ t:=by
 cases t with
 | nil => exact absurd rfl h
 | cons a t => rw [List.getLastD_cons];exact (by cases t <;> simp [List.getLastD])
theorem getLastD_getD {t:List Int} (h:t ≠ []):t.getLastD 0 = t.getD (t.length - 1) 0:=by
 rw [List.getD_eq_getElem?_getD,← List.getLast?_eq_getElem?]
 cases t with
 | nil => exact absurd rfl h
 | cons a t => rw [List.getLast?_cons,List.getLastD_cons,← List.getLastD_eq_getLast?];rfl
theorem growD_ok {code:List Int} (hc:jW code):∀ (k:Nat) {s:Nat × Int} {t:List Int} {n:Nat},TOk n t→s.1 ≤ code.length→TOk (n + k) (growD code k s t).1∧(growD code k s t).2.1 ≤ code.length
 | 0,_,_,_,h,hs => ⟨h,hs⟩
 | k + 1,s,t,n,h,hs => by
  have hl:=h.bd _ (getLastD_mem h.pos)
  have hb:=jM hc s (t.getLastD 0 + 1)
  have h1:TOk (n + 1) (t ++ [1 + (nxtF code s (t.getLastD 0 + 1)).1]):=⟨by simp,h.lev.snoc (by omega) (by rw [← getLastD_getD h.pos];omega),by have:=h.len;simp;omega,fun x hx => by
   rw [List.length_append,List.length_singleton]
   rcases List.mem_append.1 hx with hx|hx
   ·have:=h.bd x hx;omega
   ·rw [List.mem_singleton] at hx;subst hx;omega⟩
  have:=growD_ok hc k h1 (jU (n:=t.getLastD 0 + 1) hs)
  rw [show n + (k + 1) = n + 1 + k by omega]
  exact this
theorem qN0 {code:List Int} (hc:jW code) {s:Nat × Int} {m:Int} (hs:s.1 ≤ code.length):TOk (1 + m.toNat) (drawF code s m).1∧(drawF code s m).2.1 ≤ code.length:=by
 have hb:=jM hc s m
 have h:=growD_ok hc (nxtF code s m).1.toNat (s:=(nxtF code s m).2) (t:=[0]) (n:=1) ⟨by simp,by decide,by simp,by simp⟩ (jU hs)
 exact ⟨⟨h.1.pos,h.1.lev,Nat.le_trans h.1.len (by omega),h.1.bd⟩,h.2⟩
theorem drawF_len {code:List Int} (hc:jW code) {s:Nat × Int} {m:Int} (hs:s.1 ≤ code.length) (hm:1 ≤ m):(drawF code s m).1.length ≤ m.toNat:=by
 have hb:=jM hc s m
 have h:=growD_ok hc (nxtF code s m).1.toNat (s:=(nxtF code s m).2) (t:=[0]) (n:=1) ⟨by simp,by decide,by simp,by simp⟩ (jU hs)
 exact Nat.le_trans h.1.len (by omega)
def drawG (code:List Int) (s:Nat × Int) (m:Int):List Res × (Nat × Int):=([.own 1 ((drawF code s m).1.map eI) true],(drawF code s m).2)
theorem p_l03Draw {code:List Int} (hc:jW code) (hl:code.length ≤ 1000000000):xT Tryz.prog 126 code (drw1 (drawG code)):=by
 refine drw1_of fun s m hs hm1 hm2 => ?_
 have hpin:=kP hc hl
 have hdr:=yG code s m hs
 have hbd:=jM hc s m
 have hat:=jU (n:=m) hs
 unfold drawG drawF
 obtain ⟨⟨kk,s1⟩,hp⟩:∃ p,p = nxtF code s m:=⟨_,rfl⟩
 rw [← hp] at hdr hbd hat ⊢
 simp only at hdr hbd hat ⊢
 obtain ⟨k,rfl⟩:∃ k:Nat,kk = k:=⟨kk.toNat,by omega⟩
 rw [Int.toNat_natCast]
 have hk:k ≤ 1000:=by omega
 simp only [eI] at hdr
 refine AEp.of_runs (qQ 29) Tryz.func126 rfl rfl rfl (fun _ => rfl) gz ?_
 have hres:Tryz.f126.results.toList = [.tmp 4]:=rfl
 have hrts:Tryz.f126.resultTypes.toList = [24]:=rfl
 simp only [List.length_cons,List.length_nil,jF,if_true,qV,qT,eL,eI,eLL,eB,Nat.zero_add,Nat.reduceAdd]
 intro M og cap
 refine qJ.of ?_
 refine gw201 hdr ?_
 refine qJ.loop (β:=Nat × (Nat × Int) × List Int) (γ:=List Int × (Nat × Int)) (fun x => ⟨[(0,.optr 0 0 0),(5,.c (.own 5 x.2.2.length)),(6,.c (.val (.int x.1)))],[(0,.pin og cap 3 [srcD code x.2.1]),(5,.row 1 (x.2.2.map eI) true)]⟩)
  (fun x => x.1 ≤ k∧x.2.1.1 ≤ code.length∧TOk (1 + (k - x.1)) x.2.2∧growD code x.1 x.2.1 x.2.2 = growD code k s1 [0]) (fun x => x.1)
  (fun z => ⟨[(0,.optr 0 0 0),(5,.c (.own 5 z.1.length))],[(0,.pin og cap 3 [srcD code z.2]),(5,.row 1 (z.1.map eI) true)]⟩) (fun z => z = growD code k s1 [0]) (k,s1,[0]) ⟨Nat.le_refl _,hat,⟨by simp,by show qU [0];decide,by simp,by simp⟩,rfl⟩ ?_ ?_ ?_
 ·(repeat' (first|exact Qn|((with_reducible refine Qr ?_ ?_);focus first|with_reducible rfl|(simp only [Zz,Nat.reduceBEq];done)|rfl)|((with_reducible apply Qj);rfl)|((with_reducible refine Qw ?_ ?_);(focus first|with_reducible rfl|(simp only [Zv];done));first|exact id|exact nofun|exact fun _=>rfl)))
  all_goals first|exact ⟨rfl,rfl⟩|exact ⟨rfl,rfl,id⟩|exact ⟨rfl,rfl,rfl,rfl⟩
 ·rintro ⟨j,s,t⟩ ⟨hj,hs,ht,hgr⟩
  simp only at hj hs ht hgr
  by_cases h0:0 < j
  ·obtain ⟨j,rfl⟩:∃ i,j = i + 1:=⟨j - 1,by omega⟩
   have i1:(((j + 1:Nat):Int) > 0) = True:=eq_true (by omega)
   have hlb:=ht.bd _ (getLastD_mem ht.pos)
   have htl:=ht.len
   have htp:0 < t.length:=List.length_pos_iff.2 ht.pos
   have hdr:=yG code s (t.getLastD 0 + 1) hs
   have hbd:=jM hc s (t.getLastD 0 + 1)
   have hat:=jU (n:=t.getLastD 0 + 1) hs
   have hgr:growD code j (nxtF code s (t.getLastD 0 + 1)).2 (t ++ [1 + (nxtF code s (t.getLastD 0 + 1)).1]) = growD code k s1 [0]:=hgr
   have hnext:=(growD_ok hc 1 ht hs).1
   have hnext:TOk (1 + (k - (j + 1)) + 1) (t ++ [1 + (nxtF code s (t.getLastD 0 + 1)).1]):=hnext
   obtain ⟨⟨x,s2⟩,hp⟩:∃ p,p = nxtF code s (t.getLastD 0 + 1):=⟨_,rfl⟩
   rw [← hp] at hdr hbd hat hgr hnext
   simp only at hdr hbd hat hgr hnext
   simp only [eI] at hdr
   have hlm:(t.map eI).length = t.length:=List.length_map _
   have i2:((0:Int) ≤ (t.length:Int) - 1) = True:=eq_true (by omega)
   have i3:((t.length:Int) - 1 < (t.length:Int)) = True:=eq_true (by omega)
   have w1:w64 ((t.length:Int) - 1) = (t.length:Int) - 1:=qE (by omega)
   have w2:w64 (t.getLastD 0 + 1) = t.getLastD 0 + 1:=qE (by omega)
   have w3:w64 (1 + x) = 1 + x:=qE (by omega)
   have w4:w64 (((j + 1:Nat):Int) - 1) = j:=by rw [qE (by omega)];omega
   have hg:(t.map eI)[((t.length:Int) - 1).toNat]? = some [.int (t.getLastD 0)]:=by
    have e:((t.length:Int) - 1).toNat = t.length - 1:=by omega
    rw [e,List.getElem?_map,← List.getLast?_eq_getElem?]
    cases t with
    | nil => exact absurd rfl ht.pos
    | cons a t => rw [List.getLast?_cons,List.getLastD_cons,← List.getLastD_eq_getLast?];rfl
   have q1:=jJ (n:=t.length + 1) (by omega)
   have q2:=qP (n:=t.length + 1) (c:=8) (by omega) (by omega)
   refine gw201 (Y12 hdr i1 i2 i3 w1 w2 w3 w4 hg hlm q1 q2) ?_
   refine qY.on (j,s2,t ++ [1 + x]) ⟨⟨by omega,hat,by rw [show 1 + (k - j) = 1 + (k - (j + 1)) + 1 by omega];exact hnext,hgr⟩,by simp⟩ ?_
   (repeat' (first|exact Qn|((with_reducible refine Qr ?_ ?_);focus first|with_reducible rfl|(simp only [Zz,Nat.reduceBEq,List.map_append,List.map_cons,List.map_nil,List.length_append,List.length_singleton,eI];done)|rfl)|((with_reducible apply Qj);rfl)|((with_reducible refine Qw ?_ ?_);(focus first|with_reducible rfl|(simp only [Zv,List.map_append,List.map_cons,List.map_nil,List.length_append,List.length_singleton,eI];done));first|exact id|exact nofun|exact fun _=>rfl)))
   all_goals first|exact ⟨rfl,rfl⟩|exact ⟨rfl,rfl,id⟩|exact ⟨rfl,rfl,rfl,rfl⟩
  ·obtain rfl:j = 0:=by omega
   have i1:(((0:Nat):Int) > 0) = False:=eq_false (by omega)
   refine gw202 i1 ?_
   refine qY.out (t,s) hgr ?_
   (repeat' (first|exact Qn|((with_reducible refine Qr ?_ ?_);focus first|with_reducible rfl|(simp only [Zz,Nat.reduceBEq];done)|rfl)|((with_reducible apply Qj);rfl)|((with_reducible refine Qw ?_ ?_);(focus first|with_reducible rfl|(simp only [Zv];done));first|exact id|exact nofun|exact fun _=>rfl)))
   all_goals first|exact ⟨rfl,rfl⟩|exact ⟨rfl,rfl,id⟩|exact ⟨rfl,rfl,rfl,rfl⟩
 rintro z rfl
 refine gw202 Y0 ?_
 exact gw200
def xN (code:List Int) (s:Nat × Int) (m:Int):List Int × (Nat × Int) :=
 let p:=drawF code s m
 let c:=nxtF code p.2 24
 if c.1 = 0 then
  let i:=nxtF code c.2 p.1.length
  let v:=nxtF code i.2 6
  (p.1.set i.1.toNat (v.1 - 1),v.2)
 else if c.1 = 1 then ([],c.2)
 else if c.1 = 2 then (p.1 ++ List.replicate 8 1,c.2)
 else (p.1,c.2)
structure AOk (n:Nat) (t:List Int):Prop where
 len:t.length ≤ n
 bd:∀ x ∈ t,-1 ≤ x∧x ≤ n
theorem drawAnyF_ok {code:List Int} (hc:jW code) {s:Nat × Int} {m:Int} (hs:s.1 ≤ code.length):AOk (9 + m.toNat) (xN code s m).1∧(xN code s m).2.1 ≤ code.length:=by
 obtain ⟨h1,h2⟩:=qN0 hc (m:=m) hs
 unfold xN
 obtain ⟨p,hp⟩:∃ p,p = drawF code s m:=⟨_,rfl⟩
 rw [← hp] at h1 h2 ⊢
 simp only
 have hl:=h1.len
 have ha:AOk (9 + m.toNat) p.1:=⟨by omega,fun x hx => by have:=h1.bd x hx;omega⟩
 have h3:=jU (n:=24) h2
 have hcb:=jM hc p.2 24
 obtain ⟨c,hcd⟩:∃ c,c = nxtF code p.2 24:=⟨_,rfl⟩
 rw [← hcd] at h3 hcb ⊢
 split
 ·have h4:=jU (n:=(p.1.length:Int)) h3
  have h5:=jU (n:=6) h4
  have h6:=jM hc (nxtF code c.2 p.1.length).2 6
  refine ⟨⟨by simp;omega,fun x hx => ?_⟩,h5⟩
  rcases List.mem_or_eq_of_mem_set hx with hx|hx
  ·exact ha.bd x hx
  ·omega
 ·split
  ·exact ⟨⟨by simp,by simp⟩,h3⟩
  ·split
   ·refine ⟨⟨by simp;omega,fun x hx => ?_⟩,h3⟩
    rcases List.mem_append.1 hx with hx|hx
    ·exact ha.bd x hx
    ·rw [List.eq_of_mem_replicate hx];omega
   ·exact ⟨ha,h3⟩
def drawAnyG (code:List Int) (s:Nat × Int) (m:Int):List Res × (Nat × Int):=([.own 1 ((xN code s m).1.map eI) true],(xN code s m).2)
theorem p_l03DrawAny {code:List Int} (hc:jW code) (hl:code.length ≤ 1000000000):xT Tryz.prog 127 code (drw1 (drawAnyG code)):=by
 refine drw1_of fun s m hs hm1 hm2 => ?_
 have hpin:=kP hc hl
 have hdw:=(p_l03Draw hc hl).ok
 have hdt:drwG code (drw1 (drawG code)) 3 [srcD code s] [[.int m]] = some ([.own 1 ((drawF code s m).1.map eI) true],[srcD code (drawF code s m).2]):=vJ hs ⟨hm1,hm2⟩
 obtain ⟨h1,h2⟩:=qN0 hc (m:=m) hs
 have hdr:=yG code (drawF code s m).2 24 h2
 have hbd:=jM hc (drawF code s m).2 24
 have hat:=jU (n:=24) h2
 unfold drawAnyG xN
 obtain ⟨⟨t,s1⟩,hp⟩:∃ p,p = drawF code s m:=⟨_,rfl⟩
 rw [← hp] at h1 h2 hdr hbd hat hdt ⊢
 simp only at h1 h2 hdr hbd hat hdt ⊢
 obtain ⟨⟨c,s2⟩,hq⟩:∃ p,p = nxtF code s1 24:=⟨_,rfl⟩
 rw [← hq] at hdr hbd hat ⊢
 simp only at hdr hbd hat ⊢
 have htl:=h1.len
 have htp:0 < t.length:=List.length_pos_iff.2 h1.pos
 have hlm:(t.map eI).length = t.length:=List.length_map _
 simp only [eI] at hdr
 by_cases c0:c = 0
 ·subst c0
  have hdr2:=yG code s2 t.length hat
  have hbd2:=jM hc s2 t.length
  have hat2:=jU (n:=(t.length:Int)) hat
  obtain ⟨⟨i,s3⟩,hq2⟩:∃ p,p = nxtF code s2 t.length:=⟨_,rfl⟩
  rw [← hq2] at hdr2 hbd2 hat2 ⊢
  simp only at hdr2 hbd2 hat2 ⊢
  have hdr3:=yG code s3 6 hat2
  have hbd3:=jM hc s3 6
  obtain ⟨⟨v,s4⟩,hq3⟩:∃ p,p = nxtF code s3 6:=⟨_,rfl⟩
  rw [← hq3] at hdr3 hbd3 ⊢
  simp only [eI,if_true] at hdr2 hdr3 hbd3 ⊢
  have i1:((0:Int) ≤ i) = True:=eq_true (by omega)
  have i2:(i < (t.length:Int)) = True:=eq_true (by omega)
  have w1:w64 (v - 1) = v - 1:=qE (by omega)
  have hst:(t.set i.toNat (v - 1)).map eI = (t.map eI).set i.toNat [.int (v - 1)]:=by rw [List.map_set];rfl
  have hil:i.toNat < t.length:=by omega
  have hg:(t.map eI)[i.toNat]? = some [.int t[i.toNat]]:=by rw [List.getElem?_map,List.getElem?_eq_getElem hil];rfl
  rw [hst]
  refine AEp.of_runs (qQ 35) Tryz.func127 rfl rfl rfl (fun _ => rfl) gz ?_
  have hres:Tryz.f127.results.toList = [.tmp 4]:=rfl
  have hrts:Tryz.f127.resultTypes.toList = [24]:=rfl
  simp only [List.length_cons,List.length_nil,jF,if_true,qV,qT,eL,eI,eLL,eB,Nat.zero_add,Nat.reduceAdd]
  intro M og cap
  refine qJ.of ?_
  refine gw203 (Y9 hdr hdr2 hdr3 hdt i1 i2 w1 hlm hg) ?_
  exact gw200
 ·have e0:(c == 0) = false:=by simp [c0]
  by_cases c1:c = 1
  ·subst c1
   rw [if_neg c0,if_pos rfl]
   refine AEp.of_runs (qQ 35) Tryz.func127 rfl rfl rfl (fun _ => rfl) gz ?_
   have hres:Tryz.f127.results.toList = [.tmp 4]:=rfl
   have hrts:Tryz.f127.resultTypes.toList = [24]:=rfl
   simp only [List.length_cons,List.length_nil,jF,if_true,qV,qT,eL,eI,eLL,eB,Nat.zero_add,Nat.reduceAdd]
   intro M og cap
   refine qJ.of ?_
   refine gw203 (Y4 hdr hdt e0 hlm) ?_
   exact gw200
  ·by_cases c2:c = 2
   ·subst c2
    rw [if_neg c0,if_neg c1,if_pos rfl]
    refine AEp.of_runs (qQ 35) Tryz.func127 rfl rfl rfl (fun _ => rfl) gz ?_
    have hres:Tryz.f127.results.toList = [.tmp 4]:=rfl
    have hrts:Tryz.f127.resultTypes.toList = [24]:=rfl
    simp only [List.length_cons,List.length_nil,jF,if_true,qV,qT,eL,eI,eLL,eB,Nat.zero_add,Nat.reduceAdd]
    intro M og cap
    refine qJ.of ?_
    refine gw203 (Y4 hdr hdt e0 hlm) ?_
    refine qJ.loop (β:=Nat) (γ:=Unit) (fun j => ⟨[(0,.optr 0 0 0),(5,.c (.own 5 (t.length + j))),(6,.c (.val (.int j)))],[(0,.pin og cap 3 [srcD code s2]),(5,.row 1 ((t ++ List.replicate j 1).map eI) true)]⟩) (fun j => j ≤ 8) (fun j => 8 - j)
     (fun _ => ⟨[(0,.optr 0 0 0),(5,.c (.own 5 (t.length + 8)))],[(0,.pin og cap 3 [srcD code s2]),(5,.row 1 ((t ++ List.replicate 8 1).map eI) true)]⟩) (fun _ => True) 0 (Nat.zero_le _) ?_ ?_ ?_
    ·(repeat' (first|exact Qn|((with_reducible refine Qr ?_ ?_);focus first|with_reducible rfl|(simp only [Zz,Nat.reduceBEq,Nat.add_zero,List.replicate_zero,List.append_nil,Int.natCast_zero];done)|rfl)|((with_reducible apply Qj);rfl)|((with_reducible refine Qw ?_ ?_);(focus first|with_reducible rfl|(simp only [Zv,Nat.add_zero,List.replicate_zero,List.append_nil,Int.natCast_zero];done));first|exact id|exact nofun|exact fun _=>rfl)))
     all_goals first|exact ⟨rfl,rfl⟩|exact ⟨rfl,rfl,id⟩|exact ⟨rfl,rfl,rfl,rfl⟩
    ·intro j hj
     have hj:j ≤ 8:=hj
     have hw:=qB (n:=j) (by omega)
     by_cases hj8:j < 8
     ·have j1:((j:Int) < 8) = True:=eq_true (by omega)
      have hrl:((t ++ List.replicate j (1:Int)).map eI).length = t.length + j:=by simp
      have hrx:(t ++ List.replicate (j + 1) (1:Int)).map eI = (t ++ List.replicate j (1:Int)).map eI ++ [[.int 1]]:=by
       rw [List.replicate_succ',← List.append_assoc,List.map_append];rfl
      obtain ⟨R,hR⟩:∃ R,R = (t ++ List.replicate j (1:Int)).map eI:=⟨_,rfl⟩
      rw [← hR] at hrl hrx ⊢
      have q1:=jJ (n:=t.length + j + 1) (by omega)
      have q2:=qP (n:=t.length + j + 1) (c:=8) (by omega) (by omega)
      refine gw204 (Y5 j1 hw hrl q1 q2) ?_
      refine qY.on (j + 1) ⟨by omega,by omega⟩ ?_
      rw [hrx]
      (repeat' (first|exact Qn|((with_reducible refine Qr ?_ ?_);focus first|with_reducible rfl|(simp only [Zz,Nat.reduceBEq];done)|rfl)|((with_reducible apply Qj);rfl)|((with_reducible refine Qw ?_ ?_);(focus first|with_reducible rfl|(simp only [Zv];done));first|exact id|exact nofun|exact fun _=>rfl)))
      all_goals first|exact ⟨rfl,rfl⟩|exact ⟨rfl,rfl,id⟩|exact ⟨rfl,rfl,rfl,rfl⟩
     ·obtain rfl:j = 8:=by omega
      have j1:(((8:Nat):Int) < 8) = False:=eq_false (by omega)
      refine gw204 j1 ?_
      refine qY.out () trivial ?_
      (repeat' (first|exact Qn|((with_reducible refine Qr ?_ ?_);focus first|with_reducible rfl|(simp only [Zz,Nat.reduceBEq];done)|rfl)|((with_reducible apply Qj);rfl)|((with_reducible refine Qw ?_ ?_);(focus first|with_reducible rfl|(simp only [Zv];done));first|exact id|exact nofun|exact fun _=>rfl)))
      all_goals first|exact ⟨rfl,rfl⟩|exact ⟨rfl,rfl,id⟩|exact ⟨rfl,rfl,rfl,rfl⟩
    rintro _ _
    refine gw204 Y0 ?_
    exact gw200
   ·have e1:(c == 1) = false:=by simp [c1]
    have e2:(c == 2) = false:=by simp [c2]
    rw [if_neg c0,if_neg c1,if_neg c2]
    refine AEp.of_runs (qQ 35) Tryz.func127 rfl rfl rfl (fun _ => rfl) gz ?_
    have hres:Tryz.f127.results.toList = [.tmp 4]:=rfl
    have hrts:Tryz.f127.resultTypes.toList = [24]:=rfl
    simp only [List.length_cons,List.length_nil,jF,if_true,qV,qT,eL,eI,eLL,eB,Nat.zero_add,Nat.reduceAdd]
    intro M og cap
    refine qJ.of ?_
    refine gw203 (Y6 hdr hdt e0 e1 e2 hlm) ?_
    exact gw200
end
end Go.Proofs.YtedgfkpfhonlpaaGreat

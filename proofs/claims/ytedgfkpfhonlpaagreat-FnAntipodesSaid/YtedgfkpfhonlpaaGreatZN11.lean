/- Lemmas (11). -/
import Derived.Ground.SlsfProg
import Derived.Lib.AppendZeros
import Derived.Shelf.SlSortCmp.NoneTotal
import Derived.Shelf.SlSortCmp.WholeK
import Derived.Test.YtedgfkpfhonlpaaGreatZN3
import Derived.Test.YtedgfkpfhonlpaaGreatZN4
import Derived.Test.YtedgfkpfhonlpaaGreatZN7
import Derived.Test.YtedgfkpfhonlpaaGreatZN8
import Derived.Test.YtedgfkpfhonlpaaGreatZN9
import Derived.Test.YtedgfkpfhonlpaaGreatZN10
set_option maxHeartbeats 16000000
set_option maxRecDepth 100000
set_option linter.unusedSimpArgs false
set_option linter.unusedVariables false
namespace Go.Proofs.YtedgfkpfhonlpaaGreat
open Go.RowKit Go.Shelf
theorem flatMap_getG {α β:Type} (enc:α→List β) (k:Nat) (hk:∀ x,(enc x).length = k) (hp:0 < k):∀ (l:List α) (t:Nat),(l.flatMap enc)[t]? = (l[t / k]?).bind fun x => (enc x)[t % k]?
 | [],t => by simp
 | x :: l,t => by
  rw [List.flatMap_cons]
  by_cases h:t < k
  ·rw [List.getElem?_append_left (by rw [hk];exact h),Nat.div_eq_of_lt h,Nat.mod_eq_of_lt h];rfl
  ·rw [List.getElem?_append_right (by rw [hk];omega),hk,flatMap_getG enc k hk hp l (t - k)]
   have e1:t / k = (t - k) / k + 1:=by rw [Nat.div_eq_sub_div hp (by omega)]
   have e2:t % k = (t - k) % k:=Nat.mod_eq_sub_mod (by omega)
   rw [e1,e2,List.getElem?_cons_succ]
theorem flatK_listG {α:Type} [Inhabited α] (enc:α→List Value) (k:Nat) (hk:∀ x,(enc x).length = k) (hp:0 < k) (d:Array α):(Go.Sort.flatK enc k d).toList = d.toList.flatMap enc:=by
 have hl:∀ (l:List α),(l.flatMap enc).length = l.length * k:=by
  intro l
  induction l with
  | nil => simp
  | cons x l ih => rw [List.flatMap_cons,List.length_append,hk,ih,List.length_cons,Nat.succ_mul];omega
 refine List.ext_getElem? fun t => ?_
 by_cases h:t < d.size * k
 ·have hs:t < (Go.Sort.flatK enc k d).toList.length:=by simpa using h
  have hq:t / k < d.size:=Nat.div_lt_of_lt_mul (by rw [Nat.mul_comm];exact h)
  rw [flatMap_getG enc k hk hp,List.getElem?_eq_getElem hs]
  have e1:=Go.Sort.get_flatK enc k d t h
  rw [getElem!_pos (Go.Sort.flatK enc k d) t (by simpa using h),getElem!_pos d (t / k) hq] at e1
  have hm:t % k < (enc d[t / k]).length:=by rw [hk];exact Nat.mod_lt _ hp
  rw [getElem!_pos (enc d[t / k]) (t % k) hm] at e1
  rw [List.getElem?_eq_getElem (by simpa using hq),Option.bind_some]
  simp only [Array.getElem_toList]
  rw [List.getElem?_eq_getElem hm,e1]
 ·rw [List.getElem?_eq_none (by simpa using h),List.getElem?_eq_none (by rw [hl];simpa using h)]
section
variable {α:Type} [Inhabited α] (enc:α→List Value) (k:Nat) (w:World) (blk m:Nat) (dk:Array α) (os:Array Go.Obj)
theorem sg_block {b:Nat} (hne:b ≠ blk) (hb:b < w.heap.size):(sortWorldK enc k w blk 0 m dk os).heap[b]? = w.heap[b]?:=by
 show ((w.heap.modify blk _) ++ os)[b]? = _
 rw [Array.getElem?_append_left (by simpa using hb),Array.getElem?_modify,if_neg (fun e => hne e.symm)]
theorem sg_size:w.heap.size ≤ (sortWorldK enc k w blk 0 m dk os).heap.size:=by
 show _ ≤ ((w.heap.modify blk _) ++ os).size
 simp
theorem sg_row {n cap:Nat} {ds:List Value} (h:Row w (slv (some blk) n cap) k n ds (some blk)) (hs:dk.size = n) (hlt:blk < w.heap.size) :
  Row (sortWorldK enc k w blk 0 m dk os) (slv (some blk) n cap) k n (Go.Sort.flatK enc k dk).toList (some blk):=by
 obtain ⟨h0,h⟩:=h
 rcases h with ⟨_,_,h⟩|⟨g,cap',cur,e,hv,hg,hh,hc1,hc2,hc3,hc4⟩
 ·cases h
 ·cases hg
  refine ⟨by simp [hs],.inr ⟨blk,cap',Sort.putCells id 0 (Go.Sort.flatK enc k dk) cur,e,hv,rfl,?_,hc1,hc2,by simpa [Sort.putCells] using hc3,?_⟩⟩
  ·show ((w.heap.modify blk _) ++ os)[blk]? = _
   rw [Array.getElem?_append_left (by simpa using hlt),Array.getElem?_modify,if_pos rfl,hh]
   rfl
  ·have hle:n * k ≤ cap' * k:=Nat.mul_le_mul_right k hc1
   refine List.ext_getElem? fun t => ?_
   by_cases ht:t < n * k
   ·rw [List.getElem?_take_of_lt ht,List.getElem?_eq_getElem (by simp [Sort.putCells];omega),List.getElem?_eq_getElem (by simp [hs];omega)]
    simp only [Array.getElem_toList,Sort.putCells,Array.getElem_mapIdx,id]
    rw [if_pos ⟨Nat.zero_le _,by simp [hs];omega⟩,Nat.sub_zero,getElem!_pos _ t (by simp [hs];omega)]
   ·rw [List.getElem?_eq_none (by simp;omega),List.getElem?_eq_none (by simp [hs];omega)]
end
abbrev ElC {β:Type} (e:β→List D) (ok:β→Prop) (A:Nat→Prop) (w:World):Type:={ x:List Value × β // rdCs A w x.1 (e x.2)∧ok x.2 }
theorem elc_of {β:Type} {e:β→List D} {ok:β→Prop} {A:Nat→Prop} {w:World} {k:Nat}:∀ {zs:List β} {ds:List Value},rdR k A w ds (zs.map e)→(∀ z ∈ zs,ok z)→∃ xs:List (ElC e ok A w),ds = xs.flatMap (·.1.1)∧zs = xs.map (·.1.2)
 | [],ds,h,_ => ⟨[],by have:=h.len;simpa using this,rfl⟩
 | z :: zs,ds,h,hz => by
  obtain ⟨c,e',rfl,hy,hc,k1,k2⟩:=h.cons_inv
  obtain ⟨xs,e1,e2⟩:=elc_of k2 (fun z hz' => hz z (by simp [hz']))
  exact ⟨⟨(c,z),k1,hz z (by simp)⟩ :: xs,by rw [e1];rfl,congrArg (z :: ·) e2⟩
theorem elc_to {β:Type} {e:β→List D} {ok:β→Prop} {A:Nat→Prop} {w w':World} {k:Nat} (hkp:0 < k) (hk:∀ z,(e z).length = k) (hf:∀ b,A b→b < w.heap.size→w'.heap[b]? = w.heap[b]?):∀ (xs:List (ElC e ok A w)),rdR k A w' (xs.flatMap (·.1.1)) ((xs.map (·.1.2)).map e)
 | [] => rdR.nil hkp
 | x :: xs => by
  have h1:=x.2.1.frame hf
  have h2:=elc_to hkp hk hf xs
  rw [List.flatMap_cons]
  exact (rdR.single hkp (hk x.1.2) h1).append h2
section
variable {P:Program} {ρ:Ren} (L:SlLaysF0.n6 P ρ) {β κ:Type} (e:β→List D) {k:Nat} (hkp:0 < k) (hk:∀ z,(e z).length = k) (aE:∀ w,(isAgg (ρ.t 24)).run P w = .ok true w) (zE:∀ w,(Go.sizeOf (ρ.t 24)).run P w = .ok k w)
 {c:κ→κ→Int} (hc:Cmp c) (key:β→κ) (ok:β→Prop) (z0:β) (u0:List Value) (h0:∀ A w,rdCs A w u0 (e z0)) (hz0:ok z0) (g:Nat) (eg:∀ args w,(callFunc g args).run P w = .ok (.enter g args) w)
 (hcmp:∀ (W:World) (A:Nat→Prop) (x y:β) (us vs:List Value),(∀ b,A b→b < W.heap.size)→ok x→ok y→rdCs A W us (e x)→rdCs A W vs (e y) →
   Calls P g #[.agg us.toArray,.agg vs.toArray] W fun e w' => e = .returned (.int .i64 (c (key x) (key y)))∧∃ q os',w' = Sort.grow (W.drewN q) os')
include L hkp hk aE zE hc h0 hz0 eg hcmp
theorem a_SortG (call:∀ args w,(callFunc (ρ.f 6) args).run P w = .ok (.enter (ρ.f 6) args) w) (zs:List β) (hok:∀ z ∈ zs,ok z) (hn:zs.length ≤ 1000000000) :
  AEf P (ρ.f 6) false [] k (zs.map e) [[.raw (.func (.func g) #[] #[])]] (fun rs oc => rs = []∧∃ zs':List β,oc = some (zs'.map e)∧zs'.Perm zs∧zs'.Pairwise (fun a b => c (key a) (key b) ≤ 0)):=by
 refine ⟨call,fun A w vs us og cap ds hA hv hu hrow _ hel hog => ?_⟩
 have hv:vs = []:=hv
 subst hv
 obtain ⟨u,us',rfl,hu1,hu2⟩:=hu
 have hu2:us' = []:=hu2
 subst hu2
 have hu1:u = .func (.func g) #[] #[]:=(yJ.1 hu1).1
 subst hu1
 have fin:∀ w' (zs':List β) ds',zs'.Perm zs→zs'.Pairwise (fun a b => c (key a) (key b) ≤ 0)→Row w' (slv og zs.length cap) k zs.length ds' og→rdR k A w' ds' (zs'.map e)→Bel ⟨w,fun b => og = some b⟩ w' →
   ∃ v rs oc,(Ending.returned (.tuple #[]):Ending) = .returned v∧(rs = []∧∃ zs':List β,oc = some (zs'.map e)∧zs'.Perm zs∧zs'.Pairwise (fun a b => c (key a) (key b) ≤ 0))∧Bel ⟨w,fun b => og = some b⟩ w' ∧
    kL A (fun b => w.heap.size ≤ b ∨ (oc = none∧og = some b)) w' rs v∧Left A w' og cap k oc∧∀ ys,oc = some ys→ys.length = zs.length:=by
  intro w' zs' ds' hp hso hrow' hrd' hb
  have hl:(zs'.map e).length = (zs.map e).length:=by rw [List.length_map,List.length_map,hp.length_eq]
  refine ⟨.tuple #[],[],some (zs'.map e),rfl,⟨rfl,zs',rfl,hp,hso⟩,hb,⟨[],[],[],rfl,List.nodup_nil,by simp,rfl,rfl,rfl⟩,⟨ds',?_,hrd'⟩,fun ys e => by cases e;rw [hl,List.length_map]⟩
  rw [hl,List.length_map]
  exact hrow'
 rw [List.length_map] at hrow ⊢
 cases og with
 | none =>
  have hz:zs = []:=List.eq_nil_of_length_eq_zero hrow.len0
  subst hz
  refine (AnyF.slices_SortFunc_none L none 0 _ w).mono ?_
  rintro e' w' ⟨rfl,rfl⟩
  exact fin w' [] ds (List.Perm.refl _) List.Pairwise.nil hrow hel ⟨rfl,rfl,rfl,Nat.le_refl _,fun _ _ _ _ => rfl⟩
 | some blk =>
  haveI:Inhabited (ElC e ok A w):=⟨⟨(u0,z0),h0 A w,hz0⟩⟩
  obtain ⟨xs,e1,e2⟩:=elc_of hel hok
  have hlen:xs.toArray.size = zs.length:=by rw [e2];simp
  have hlt:=hrow.lt blk rfl
  have hek:∀ x:ElC e ok A w,x.1.1.length = k:=fun x => by rw [x.2.1.len,hk]
  have hH:Go.Sort.HoldsK (fun x:ElC e ok A w => x.1.1) k w blk 0 xs.toArray:=fun j hj => by
   rw [Nat.zero_add]
   refine ⟨?_,hrow.frozen j⟩
   have hf:=flatK_listG (fun x:ElC e ok A w => x.1.1) k hek hkp xs.toArray
   rw [List.toList_toArray] at hf
   rw [getElem!_pos _ j hj]
   refine hrow.cells j _ ?_
   rw [e1,← hf,List.getElem?_eq_getElem (by simpa using hj)]
   simp
  have hswo:Go.Sort.SWO (ltOf fun x y:ElC e ok A w => c (key x.1.2) (key y.1.2)) :=
   { irrefl:=fun x => decide_eq_false (by show ¬ c _ _ < 0;rw [hc.refl];omega)
     trans:=fun x y z h1 h2 => decide_eq_true (by
     have h1:c (key x.1.2) (key y.1.2) < 0:=of_decide_eq_true h1
     have h2:c (key y.1.2) (key z.1.2) < 0:=of_decide_eq_true h2
     have a1:=hc.anti (key x.1.2) (key y.1.2)
     have a2:=hc.anti (key y.1.2) (key z.1.2)
     have a3:=hc.anti (key z.1.2) (key x.1.2)
     have a4:=hc.anti (key x.1.2) (key z.1.2)
     have t1:=hc.trans (key x.1.2) (key y.1.2) (key z.1.2) (by omega) (by omega)
     rcases Int.lt_or_eq_of_le t1 with t|t
     ·exact t
     ·have e3:=hc.zero _ _ t
      rw [e3] at h1
      omega)
     ntrans:=fun x y z h1 h2 => decide_eq_false (by
     have h1:¬ c (key x.1.2) (key y.1.2) < 0:=of_decide_eq_false h1
     have h2:¬ c (key y.1.2) (key z.1.2) < 0:=of_decide_eq_false h2
     show ¬ c (key x.1.2) (key z.1.2) < 0
     intro h
     have a1:=hc.anti (key x.1.2) (key y.1.2)
     have a2:=hc.anti (key y.1.2) (key z.1.2)
     have:=hc.trans (key z.1.2) (key y.1.2) (key x.1.2) (by have:=hc.anti (key y.1.2) (key z.1.2);omega) (by have:=hc.anti (key x.1.2) (key y.1.2);omega)
     have a3:=hc.anti (key x.1.2) (key z.1.2)
     omega) }
  have hC:CmpLays P g #[] (fun x:ElC e ok A w => x.1.1) k (fun x y:ElC e ok A w => c (key x.1.2) (key y.1.2)) blk 0 xs.toArray.size w:=fun m os dk _ x y => by
   have hfr:∀ b,A b→b < w.heap.size→(sortWorldK (fun x:ElC e ok A w => x.1.1) k w blk 0 m dk os).heap[b]? = w.heap[b]?:=fun b hb hl => sg_block _ k w blk m dk os (fun e => hog b (by rw [e]) hb) hl
   exact hcmp _ A x.1.2 y.1.2 _ _ (fun b hb => Nat.lt_of_lt_of_le (hA b hb) (sg_size _ k w blk m dk os)) x.2.2 y.2.2 (x.2.1.frame hfr) (y.2.1.frame hfr)
  have hs:=AnyQ.slices_SortFunc L k aE zE (fun x:ElC e ok A w => x.1.1) hek (fun x v hv => x.2.1.one v hv) (fun x y:ElC e ok A w => c (key x.1.2) (key y.1.2)) hswo g #[] blk 0 cap xs.toArray w eg hC hH hlt (by rw [hlen];omega)
  rw [hlen] at hs
  have hm:=Calls.mono hs (R':=fun e' w' => ∃ v rs oc,e' = .returned v∧(rs = []∧∃ zs':List β,oc = some (zs'.map e)∧zs'.Perm zs∧zs'.Pairwise (fun a b => c (key a) (key b) ≤ 0))∧Bel ⟨w,fun b => some blk = some b⟩ w' ∧
    kL A (fun b => w.heap.size ≤ b ∨ (oc = none∧some blk = some b)) w' rs v∧Left A w' (some blk) cap k oc∧∀ ys,oc = some ys→ys.length = zs.length) ?_
  ·exact hm
  rintro e' w' ⟨rfl,d',n,os,⟨hp1,_,hp3⟩,hsd,rfl⟩
  have hd:d'.size = zs.length:=by rw [hp1,hlen]
  refine fin _ (d'.toList.map (·.1.2)) _ ?_ ?_ (sg_row _ k w blk n d' os hrow hd hlt) ?_ ⟨rfl,rfl,rfl,sg_size _ k w blk n d' os,fun b hb hne _ => sg_block _ k w blk n d' os (fun e => hne (by rw [e])) hb⟩
  ·rw [e2]
   refine List.Perm.map _ ?_
   rw [← hlen] at hp3
   rw [show d'.extract 0 xs.toArray.size = d' by rw [← hp1];simp,show xs.toArray.extract 0 xs.toArray.size = xs.toArray by simp,List.toList_toArray] at hp3
   exact hp3
  ·rw [List.pairwise_iff_getElem]
   intro i j hi hj hij
   have hi':i < d'.size:=by simpa using hi
   have hj':j < d'.size:=by simpa using hj
   have h1:=hsd i j (Nat.zero_le _) hij (by omega)
   rw [getElem!_pos d' i hi',getElem!_pos d' j hj'] at h1
   have h1:¬ c (key d'[j].1.2) (key d'[i].1.2) < 0:=of_decide_eq_false h1
   have h2:=hc.anti (key d'[j].1.2) (key d'[i].1.2)
   simp only [List.getElem_map,Array.getElem_toList]
   omega
  ·rw [flatK_listG _ k hek hkp]
   exact elc_to hkp hk (fun b hb hl => sg_block _ k w blk n d' os (fun e => hog b (by rw [e]) hb) hl) d'.toList
end
end Go.Proofs.YtedgfkpfhonlpaaGreat
namespace Go.Proofs
open Go.Shelf
def Tryz.sortSp_ren:Go.Shelf.Ren:=⟨fun|6 => 122|15 => 160|14 => 182|28 => 212|29 => 213|20 => 221|21 => 222|22 => 223|23 => 224|24 => 225|25 => 226|26 => 227|27 => 228|46 => 261|47 => 251|48 => 252|49 => 262|50 => 263|57 => 276|n => n,fun|22 => 33|24 => 42|25 => 144|3 => 3|39 => 137|0 => 0|53 => 214|55 => 28|4 => 4|46 => 208|45 => 207|50 => 185|5 => 5|9 => 9|66 => 236|70 => 240|76 => 252|77 => 253|n => n,fun|n => n⟩
theorem Tryz.sortSp:Go.Proofs.SlLaysF0.n6 Tryz.prog Tryz.sortSp_ren:={
 mixed:=by kernel_rfl
 f6:=⟨Tryz.f122.name,by decide,Tryz.func122.trans (congrArg some (by kernel_rfl))⟩
 f14:=⟨Tryz.f182.name,by decide,Tryz.func182.trans (congrArg some (by kernel_rfl))⟩
 f15:=Tryz.func160.trans (congrArg some (by kernel_rfl))
 f20:=⟨Tryz.f221.name,by decide,Tryz.func221.trans (congrArg some (by kernel_rfl))⟩
 f21:=⟨Tryz.f222.name,by decide,Tryz.func222.trans (congrArg some (by kernel_rfl))⟩
 f22:=⟨Tryz.f223.name,by decide,Tryz.func223.trans (congrArg some (by kernel_rfl))⟩
 f23:=⟨Tryz.f224.name,by decide,Tryz.func224.trans (congrArg some (by kernel_rfl))⟩
 f24:=⟨Tryz.f225.name,by decide,Tryz.func225.trans (congrArg some (by kernel_rfl))⟩
 f25:=⟨Tryz.f226.name,by decide,Tryz.func226.trans (congrArg some (by kernel_rfl))⟩
 f26:=⟨Tryz.f227.name,by decide,Tryz.func227.trans (congrArg some (by kernel_rfl))⟩
 f27:=⟨Tryz.f228.name,by decide,Tryz.func228.trans (congrArg some (by kernel_rfl))⟩
 f28:=Tryz.func212.trans (congrArg some (by kernel_rfl))
 f29:=Tryz.func213.trans (congrArg some (by kernel_rfl))
 f46:=⟨Tryz.f261.name,by decide,Tryz.func261.trans (congrArg some (by kernel_rfl))⟩
 f47:=Tryz.func251.trans (congrArg some (by kernel_rfl))
 f48:=Tryz.func252.trans (congrArg some (by kernel_rfl))
 f49:=⟨Tryz.f262.name,by decide,Tryz.func262.trans (congrArg some (by kernel_rfl))⟩
 f50:=⟨Tryz.f263.name,by decide,Tryz.func263.trans (congrArg some (by kernel_rfl))⟩
 f57:=⟨Tryz.f276.name,by decide,Tryz.func276.trans (congrArg some (by kernel_rfl))⟩
 t0:=Tryz.underlying0
 a0:=Tryz.isAgg0
 z0:=Tryz.sizeOf0
 v0:=Tryz.zeroValue0
 t3:=Tryz.underlying3
 a3:=Tryz.isAgg3
 z3:=Tryz.sizeOf3
 v3:=Tryz.zeroValue3
 t4:=Tryz.underlying4
 a4:=Tryz.isAgg4
 z4:=Tryz.sizeOf4
 v4:=Tryz.zeroValue4
 t5:=Tryz.underlying5
 a5:=Tryz.isAgg5
 z5:=Tryz.sizeOf5
 v5:=Tryz.zeroValue5
 t9:=Tryz.underlying9
 a9:=Tryz.isAgg9
 z9:=Tryz.sizeOf9
 v9:=Tryz.zeroValue9
 t22:=Tryz.underlying33
 a22:=Tryz.isAgg33
 z22:=Tryz.sizeOf33
 v22:=Tryz.zeroValue33
 t25:=Tryz.underlying144
 a25:=Tryz.isAgg144
 z25:=Tryz.sizeOf144
 v25:=Tryz.zeroValue144
 t39:=Tryz.underlying137
 a39:=Tryz.isAgg137
 z39:=Tryz.sizeOf137
 v39:=Tryz.zeroValue137
 t45:=Tryz.underlying207
 a45:=Tryz.isAgg207
 z45:=Tryz.sizeOf207
 v45:=Tryz.zeroValue207
 t46:=Tryz.underlying208
 a46:=Tryz.isAgg208
 z46:=Tryz.sizeOf208
 v46:=Tryz.zeroValue208
 t50:=Tryz.underlying185
 a50:=Tryz.isAgg185
 z50:=Tryz.sizeOf185
 v50:=Tryz.zeroValue185
 t53:=Tryz.underlying214
 a53:=Tryz.isAgg214
 z53:=Tryz.sizeOf214
 v53:=Tryz.zeroValue214
 t55:=Tryz.underlying28
 a55:=Tryz.isAgg28
 z55:=Tryz.sizeOf28
 v55:=Tryz.zeroValue28
 t66:=Tryz.underlying236
 a66:=Tryz.isAgg236
 z66:=Tryz.sizeOf236
 v66:=Tryz.zeroValue236
 t70:=Tryz.underlying240
 a70:=Tryz.isAgg240
 z70:=Tryz.sizeOf240
 v70:=Tryz.zeroValue240
 t76:=Tryz.underlying252
 a76:=Tryz.isAgg252
 z76:=Tryz.sizeOf252
 v76:=Tryz.zeroValue252
 t77:=Tryz.underlying253
 a77:=Tryz.isAgg253
 z77:=Tryz.sizeOf253
 v77:=Tryz.zeroValue253 }
end Go.Proofs
namespace Go.Proofs.YtedgfkpfhonlpaaGreat
open Go.RowKit
section
variable {P:Program} {cfg:Cfg} {M:Nat→Prop} {ops:Array Oper} {s:St} {w0:W0} {w:World} {Ok:Nat→Prop} {N:Nat} {σ:Asg} {a:Act} {fs:List Fr} {Q:Exit→St→Prop}
theorem relCs_repl {H:List (Nat × Obj)} {x y:AC} {post:List AC}:∀ {pre:List AC} {us:List Value},relCs σ H w (pre ++ x :: post) us→(∀ v,us[pre.length]? = some v→relAC σ H w x v→relAC σ H w y v)→relCs σ H w (pre ++ y :: post) us
 | [],us,h,hy => by
  obtain ⟨v,us',rfl,h1,h2,h3⟩:=h
  exact ⟨v,us',rfl,h1,hy v rfl h2,h3⟩
 | p :: pre,us,h,hy => by
  obtain ⟨v,us',rfl,h1,h2,h3⟩:=h
  exact ⟨v,us',rfl,h1,h2,relCs_repl h3 (fun u hu hx => hy u (by simpa using hu) hx)⟩
theorem relCs_at {H:List (Nat × Obj)} {x:AC} {post:List AC}:∀ {pre:List AC} {us:List Value},relCs σ H w (pre ++ x :: post) us→∀ v,us[pre.length]? = some v→relAC σ H w x v
 | [],us,h,v,hv => by
  obtain ⟨u,us',rfl,h1,h2,h3⟩:=h
  have:u = v:=by simpa using hv
  subst this;exact h2
 | p :: pre,us,h,v,hv => by
  obtain ⟨u,us',rfl,h1,h2,h3⟩:=h
  exact relCs_at h3 v (by simpa using hv)
theorem Sim.markA (h:Sim w0 Ok N σ s a w) {r key k n:Nat} {xs:List (List D)} {pre post:List AC} (hr:look r s.regs = some (.agg (pre ++ .own key n :: post))) (hk:look key s.heap = some (.row k xs true)) :
  Sim w0 Ok N σ ⟨insR r (.agg (pre ++ .val (.tag (fp σ key (.row k xs true)) (.sl k xs)) :: post)) s.regs,drop key s.heap⟩ a w:=by
 have hro:=h.rows key _ hk
 obtain ⟨ds,hrow,hkp,hel⟩:=hro.row
 have hel:ownR k w ds xs (σ.F key):=hel
 have hrow:Row w (slv (σ.g key) xs.length (σ.cap key)) k xs.length ds (σ.g key):=hrow
 have hs:∀ q o,look q (drop key s.heap) = some o→q ≠ key∧look q s.heap = some o:=fun q o hq => by
  rw [yU] at hq
  by_cases e:q = key
  ·rw [if_pos e] at hq;cases hq
  ·rw [if_neg e] at hq;exact ⟨e,hq⟩
 have h1:=h.forget (regs':=s.regs) (H':=drop key s.heap) (fun _ _ h => h) (fun q o hq => (hs q o hq).2)
 refine ⟨h1.below,h1.ok1,h1.ok2,h1.defers,h1.size,fun q av hq => ?_,h1.rows,h1.disj,h1.inv,h1.hid⟩
 rw [jU] at hq
 by_cases e:r = q
 ·rw [if_pos e] at hq
  subst e
  cases hq
  obtain ⟨us,hv1,hv2⟩:=h.regs r _ hr
  obtain ⟨us',hv1',hv2'⟩:=h1.regs r _ hr
  have eu:us' = us:=by rw [hv1] at hv1';simpa using hv1'.symm
  subst eu
  refine ⟨us',hv1,relCs_repl hv2' (fun v hv _ => ?_)⟩
  obtain ⟨e1,e2⟩:=relCs_at hv2 v hv _ hk
  have e1:n = xs.length:=e1
  show rdV _ w v (.tag _ (.sl k xs))
  rw [e2,e1]
  refine kW.2 ⟨fun b hb => ⟨?_,?_,fun q o hq e => ?_⟩,kS.2 ⟨σ.g key,ds,σ.F key,hrow,hel,rfl⟩⟩
  ·rcases List.mem_append.1 hb with hb|hb
   ·exact hrow.lt b (by simpa using hb)
   ·exact hel.lt b hb
  ·exact h.ok1 b (hro.fresh b hb)
  ·obtain ⟨hne,hq⟩:=hs q o hq
   exact h.disj key _ q o hk hq (fun e => hne e.symm) b hb (qI e)
 ·rw [if_neg e] at hq
  exact h1.regs q av hq
theorem qW.markA2 {l:List Oper} {Q:St→Prop} {r key1 key2 k1 k2 n1 n2:Nat} {xs ys:List (List D)} {z:List AC} (hr:look r s.regs = some (.agg (.own key1 n1 :: .own key2 n2 :: z))) (hk1:look key1 s.heap = some (.row k1 xs true))
  (hk2:look key2 s.heap = some (.row k2 ys true)) (hk:key1 ≠ key2)
  (h:∀ F G,(F ++ G).Nodup→(∀ b ∈ F ++ G,M b)→qW P cfg M ops l Q ⟨insR r (.agg (.val (.tag F (.sl k1 xs)) :: .val (.tag G (.sl k2 ys)) :: z)) (insR r (.agg (.val (.tag F (.sl k1 xs)) :: .own key2 n2 :: z)) s.regs),drop key2 (drop key1 s.heap)⟩):qW P cfg M ops l Q s:=by
 intro w0 Ok σ a w Q' hM hS hQ
 have h1:=hS.markA (r:=r) (pre:=[]) hr hk1
 have hk2':look key2 (drop key1 s.heap) = some (.row k2 ys true):=by rw [yU,if_neg (fun e => hk e.symm)];exact hk2
 have h2:=h1.markA (r:=r) (key:=key2) (n:=n2) (k:=k2) (xs:=ys) (pre:=[.val (.tag (fp σ key1 (.row k1 xs true)) (.sl k1 xs))]) (post:=z) (by rw [jU,if_pos rfl];rfl) hk2'
 have f1:=hS.rows key1 _ hk1
 have f2:=hS.rows key2 _ hk2
 refine h (fp σ key1 (.row k1 xs true)) (fp σ key2 (.row k2 ys true)) ?_ (fun b hb => ?_) w0 Ok σ a w Q' hM h2 hQ
 ·refine List.nodup_append.2 ⟨f1.nodup,f2.nodup,fun b hb c hc e => ?_⟩
  subst e
  exact hS.disj key1 _ key2 _ hk1 hk2 hk b hb hc
 ·rcases List.mem_append.1 hb with hb|hb
  ·exact hM.1 ▸ f1.fresh b hb
  ·exact hM.1 ▸ f2.fresh b hb
end
abbrev SpT:=(Spl × Int) × (List Nat × List Nat)
def eSpT (q:SpT):List D:=[.tag q.2.1 (.sl 1 (q.1.1.1.map eL)),.tag q.2.2 (.sl 1 (q.1.1.2.map eL)),.int q.1.2]
def SpT.bl (q:SpT):List Nat:=q.2.1 ++ q.2.2
theorem tag_mkS:∀ (zs:List SpT),TagL ((zs.map (·.1)).map eSp) (zs.map eSpT) ((zs.map SpT.bl).flatten)
 | [] => ⟨rfl,rfl⟩
 | z :: zs => ⟨_,_,SpT.bl z,_,rfl,rfl,⟨_,_,z.2.1,z.2.2,rfl,rfl,.inl rfl,⟨_,_,z.2.2,[],rfl,(List.append_nil _).symm,.inl rfl,⟨_,[],[],[],rfl,rfl,.inr ⟨rfl,rfl,rfl⟩,rfl,rfl⟩⟩⟩,tag_mkS zs⟩
theorem c_gathered1 (W:World) (n m:Int) (u1 u2 v1 v2:Value) (f g h k:List (List Int)) (h1:Rd (RS (RS RI)) W [u1] f) (h2:Rd (RS (RS RI)) W [u2] g) (h3:Rd (RS (RS RI)) W [v1] h) (h4:Rd (RS (RS RI)) W [v2] k) (s1:qQ f ≤ 1000000) (s2:qQ h ≤ 1000000) :
  Calls Tryz.prog 120 #[.agg #[u1,u2,.int .i64 n],.agg #[v1,v2,.int .i64 m]] W fun e w' => e = .returned (.int .i64 (cmpS (f,g) (h,k)))∧∃ q os',w' = Sort.grow (W.drewN q) os':=by
 obtain ⟨o1,c1,rfl,_,_⟩:=h1.val
 obtain ⟨o2,c2,rfl,_,_⟩:=h2.val
 obtain ⟨o3,c3,rfl,_,_⟩:=h3.val
 obtain ⟨o4,c4,rfl,_,_⟩:=h4.val
 have b1:Below W.heap.size W (W.alloc (.cells #[.slice o1 f.length c1,.slice o2 g.length c2,.int .i64 n] 42)):=(Below.refl _ _).alloc (Nat.le_refl _) _
 have b2:Below W.heap.size W ((W.alloc (.cells #[.slice o1 f.length c1,.slice o2 g.length c2,.int .i64 n] 42)).alloc (.cells #[.slice o3 h.length c3,.slice o4 k.length c4,.int .i64 m] 42)):=b1.alloc (by simp) _
 have hc:=jF0 _ _ f h _ (h1.below b2 (Nat.le_refl _)) (h3.below b2 (Nat.le_refl _)) (by omega) (by omega)
 have hd:=xK0 _ _ g k _ (h2.below b2 (Nat.le_refl _)) (h4.below b2 (Nat.le_refl _))
 have HC:=Lib.hid hc
 have HD:=Lib.hid hd
 have hcs:cmpS (f,g) (h,k) = if cmpF f h = 0 then cmpN g k else cmpF f h:=rfl
 by_cases hz:cmpF f h = 0
 ·have hb:(cmpF f h != 0) = false:=by simp [hz]
  rw [if_pos hz] at hcs
  have HS:=Lib.hid hcs
  clear hc hd b1 b2 h1 h2 h3 h4 hcs
  go_enter Tryz.func120,Tryz.ntmps120
  go_wp2_with (first|(go_at_call 87;refine HC.out.mono ?_;rintro e w' ⟨rfl,rfl⟩)|(go_at_call 121;refine HD.out.mono ?_;rintro e w' ⟨rfl,rfl⟩))
  go_ret
  exact ⟨by rw [HS.out] <;> rfl,0,_,by rw [Sort.alloc_eq_grow,Sort.alloc_eq_grow,Sort.grow_grow];rfl⟩
 ·have hb:(cmpF f h != 0) = true:=bne_iff_ne.2 hz
  rw [if_neg hz] at hcs
  have HS:=Lib.hid hcs
  clear hc hd b1 b2 h1 h2 h3 h4 hcs
  go_enter Tryz.func120,Tryz.ntmps120
  go_wp2_with (first|(go_at_call 87;refine HC.out.mono ?_;rintro e w' ⟨rfl,rfl⟩)|(go_at_call 121;refine HD.out.mono ?_;rintro e w' ⟨rfl,rfl⟩))
  go_ret
  exact ⟨by rw [HS.out] <;> rfl,0,_,by rw [Sort.alloc_eq_grow,Sort.alloc_eq_grow,Sort.grow_grow];rfl⟩
theorem a_compareTrunks (f g:List (List Int)) (hf:SmF f) (hg:SmF g):AFn Tryz.prog 121 [eLL f,eLL g] (· = [.val (.int (cmpN f g))]):=by
 refine ⟨enters_of Tryz.func121 rfl rfl,fun A w vs hA ⟨v1,_,e1,h1,v2,_,e2,h2,e3⟩ => ?_⟩
 subst e3;subst e2;subst e1
 have r1:=Rd.of (rdLL h1)
 have r2:=Rd.of (rdLL h2)
 obtain ⟨oa,c1,k1,m1,m2⟩:=r1.val
 obtain ⟨ob,c2,k2,m3,m4⟩:=r2.val
 refine (xK0 v1 v2 f g w r1 r2).mono ?_
 rintro e w' ⟨rfl,rfl⟩
 have hle:∀ {f:List (List Int)},SmF f→∀ t ∈ f,t.length ≤ maxLen:=fun h t ht => Nat.le_trans (jK ht) (Nat.le_trans h.2 (by decide))
 have hin:qH (cmpN f g):=by
  rw [cmpN_eq]
  have h3:=cmpF_in64 (f:=f) (g:=g) (by have:=hf.2;omega) (by have:=hg.2;omega) (by omega) (by omega) (hle hf) (hle hg)
  have hf1:=hf.1
  have hg1:=hg.1
  split
  ·rename_i e
   by_cases hs:(qQ f:Int) = qQ g
   ·rw [cmpF_N,if_pos hs,cmpN_eq,if_pos e] at h3;exact h3
   ·exact lexC_in64 f g (hle hf) (hle hg)
  ·unfold qH;omega
 exact ⟨_,_,rfl,rfl,Below.refl _ _,[_],[],[],rfl,List.nodup_nil,by simp,_,[],[],[],[],[],rfl,rfl,rfl,rfl,⟨jJ.2 ⟨rfl,hin⟩,rfl,rfl⟩,rfl,rfl,rfl⟩
end Go.Proofs.YtedgfkpfhonlpaaGreat
namespace Go.Proofs.YtedgfkpfhonlpaaGreat
open Go.RowKit
def stepQ (out:List SpT) (q:SpT):List SpT:=match out.getLast? with
 | some p => if cmpS p.1.1 q.1.1 = 0 then out.dropLast ++ [((p.1.1,p.1.2 + 1),p.2)] else out ++ [q]
 | none => [q]
def runQ (zs:List SpT):List SpT:=zs.foldl stepQ []
theorem stepQ_nil (q:SpT):stepQ [] q = [q]:=rfl
theorem stepQ_eq (out:List SpT) (p q:SpT) (h:cmpS p.1.1 q.1.1 = 0):stepQ (out ++ [p]) q = out ++ [((p.1.1,p.1.2 + 1),p.2)]:=by simp [stepQ,h]
theorem stepQ_ne (out:List SpT) (p q:SpT) (h:¬ cmpS p.1.1 q.1.1 = 0):stepQ (out ++ [p]) q = out ++ [p] ++ [q]:=by simp [stepQ,h]
theorem runQ_snoc (zs:List SpT) (q:SpT):runQ (zs ++ [q]) = stepQ (runQ zs) q:=by unfold runQ;rw [List.foldl_append];rfl
theorem runQ_spec:∀ (n:Nat) (zs:List SpT),zs.length = n→(∀ q ∈ zs,q.1.2 = 1)→(runQ zs).map (·.1) = runsN cmpS (zs.map (·.1.1))∧((runQ zs).map SpT.bl).Sublist (zs.map SpT.bl)∧(runQ zs).length ≤ zs.length∧∀ q ∈ runQ zs,(1 ≤ q.1.2∧q.1.2 ≤ (n:Int))∧∃ p ∈ zs,p.1.1 = q.1.1
 | 0,zs,hn,_ => by
  obtain rfl:=List.eq_nil_of_length_eq_zero hn
  exact ⟨rfl,List.Sublist.refl _,Nat.le_refl _,fun q hq => nomatch hq⟩
 | n + 1,zs,hn,h1 => by
  obtain ⟨zs,q,rfl⟩:=snocN (l:=zs) (by rintro rfl;cases hn)
  have hn':zs.length = n:=by simpa using hn
  obtain ⟨i1,i2,i3,i4⟩:=runQ_spec n zs hn' (fun q hq => h1 q (by simp [hq]))
  have hq1:q.1.2 = 1:=h1 q (by simp)
  rw [runQ_snoc,List.map_append,List.map_cons,List.map_nil,runsN_snoc,← i1,List.map_append,List.map_cons,List.map_nil]
  by_cases h0:runQ zs = []
  ·rw [h0]
   refine ⟨?_,?_,by simp [stepQ],fun z hz => ?_⟩
   ·show [q.1] = [(q.1.1,1)]
    rw [← hq1]
   ·exact List.sublist_append_right _ _
   ·have hz:z = q:=by simpa [stepQ] using hz
    subst hz
    exact ⟨by omega,z,by simp,rfl⟩
  ·obtain ⟨out,p,e⟩:=snocN h0
   rw [e] at i2 i3 i4 ⊢
   have hp:=i4 p (by simp)
   by_cases hc:cmpS p.1.1 q.1.1 = 0
   ·rw [stepQ_eq _ _ _ hc,List.map_append,List.map_append,List.map_cons,List.map_nil,List.map_cons,List.map_nil,stepN_eq _ _ _ hc]
    refine ⟨rfl,?_,by simp at i3 ⊢;omega,fun z hz => ?_⟩
    ·have e2:(out ++ [p]).map SpT.bl = out.map SpT.bl ++ [SpT.bl ((p.1.1,p.1.2 + 1),p.2)]:=by rw [List.map_append];rfl
     rw [List.map_append,List.map_cons,List.map_nil,← e2]
     exact i2.trans (List.sublist_append_left _ _)
    ·rcases List.mem_append.1 hz with hz|hz
     ·obtain ⟨a,b,hb,hb2⟩:=i4 z (by simp [hz])
      exact ⟨by omega,b,by simp [hb],hb2⟩
     ·obtain rfl:=List.mem_singleton.1 hz
      obtain ⟨a,b,hb,hb2⟩:=hp
      exact ⟨by simp only;omega,b,by simp [hb],hb2⟩
   ·rw [stepQ_ne _ _ _ hc]
    refine ⟨?_,?_,by simp at i3 ⊢;omega,fun z hz => ?_⟩
    ·simp only [List.map_append,List.map_cons,List.map_nil]
     rw [stepN_ne _ _ _ hc]
     congr 1
     show [q.1] = [(q.1.1,1)]
     rw [← hq1]
    ·rw [List.map_append]
     exact List.Sublist.append i2 (List.Sublist.refl _)
    ·rcases List.mem_append.1 hz with hz|hz
     ·obtain ⟨a,b,hb,hb2⟩:=i4 z hz
      exact ⟨by omega,b,by simp [hb],hb2⟩
     ·obtain rfl:=List.mem_singleton.1 hz
      exact ⟨by omega,z,by simp,rfl⟩
noncomputable def TGa1:Tab Tryz.prog :=
 (Tab.none.add 87 (tab2 codLL codLL fun f g => if SmF f∧SmF g then some [.val (.int (cmpF f g))] else none) (yH fun f g rs h => by split at h;cases h;rename_i hs;exact yQ0 f g (by have:=hs.1.2;omega) (by have:=hs.2.2;omega);cases h)).add
  121 (tab2 codLL codLL fun f g => if SmF f∧SmF g then some [.val (.int (cmpN f g))] else none) (yH fun f g rs h => by split at h;cases h;rename_i hs;exact a_compareTrunks f g hs.1 hs.2;cases h)
theorem a_gathered1 (z y:Spl × Int) (hz:SmS z.1) (hy:SmS y.1):AFn Tryz.prog 120 [eSp z,eSp y] (· = [.val (.int (cmpS z.1 y.1))]):=by
 obtain ⟨⟨f,g⟩,n⟩:=z
 obtain ⟨⟨f',g'⟩,n'⟩:=y
 have e1:=eq_true (And.intro hz.1 hy.1)
 have e2:=eq_true (And.intro hz.2 hy.2)
 simp only at e1 e2
 have hcs:cmpS (f,g) (f',g') = if cmpF f f' = 0 then cmpN g g' else cmpF f f':=rfl
 simp only
 rw [hcs]
 refine AFn.of_runs (qX 19) Tryz.func120 rfl rfl rfl gz ?_
 have hres:Tryz.f120.results.toList = [.tmp 4]:=rfl
 have hrts:Tryz.f120.resultTypes.toList = [3]:=rfl
 simp only [qU,qT,eL,eI,eLL,eB,Nat.zero_add,Nat.reduceAdd,eSp]
 intro M
 refine qJ.of ?_
 by_cases h0:cmpF f f' = 0
 ·have hb:(cmpF f f' != 0) = false:=by simp [h0]
  rw [if_pos h0]
  refine gw67 (kk 6) (Y3 e1 e2 hb) ?_
  exact gw8
 ·have hb:(cmpF f f' != 0) = true:=bne_iff_ne.2 h0
  rw [if_neg h0]
  refine gw67 (kk 6) (Y3 e1 e2 hb) ?_
  exact gw8
theorem aggSp (w:World):(isAgg 42).run Tryz.prog w = .ok true w:=by
 simp [isAgg,run_underlying Tryz.underlying42]
theorem tSplit:ST Tryz.prog 33 42 (.agg #[.slice none 0 0,.slice none 0 0,.int .i64 0]) 3 56:=ST.mk' (by kernel_rfl) (by kernel_rfl) rfl (by decide)
theorem sizeSp (w:World):(Go.sizeOf 42).run Tryz.prog w = .ok 3 w:=by
 obtain ⟨_,⟨i,hi,_,hs,_⟩,_,_⟩:=tSplit
 simp [Go.sizeOf,typeInfo,hi,hs]
theorem rd_eSpT {A:Nat→Prop} {W:World} {us:List Value} {x:SpT} (hA:∀ b,A b→b < W.heap.size) (h:rdCs A W us (eSpT x)):∃ u1 u2,us = [u1,u2,.int .i64 x.1.2]∧Rd (RS (RS RI)) W [u1] x.1.1.1∧Rd (RS (RS RI)) W [u2] x.1.1.2:=by
 have hl:=h.len
 match us,hl with
 | [u1,u2,u3],_ =>
  obtain ⟨v1,e1,h1⟩:=h.get 0 (by show 0 < 3;decide)
  obtain ⟨v2,e2,h2⟩:=h.get 1 (by show 1 < 3;decide)
  obtain ⟨v3,e3,h3⟩:=h.get 2 (by show 2 < 3;decide)
  obtain rfl:u1 = v1:=by simpa using e1
  obtain rfl:u2 = v2:=by simpa using e2
  obtain rfl:u3 = v3:=by simpa using e3
  have h1:rdV A W u1 (.tag x.2.1 (.sl 1 (x.1.1.1.map eL))):=h1
  have h2:rdV A W u2 (.tag x.2.2 (.sl 1 (x.1.1.2.map eL))):=h2
  have h3:rdV A W u3 (.int x.1.2):=h3
  have r1:=rdLL (xs:=x.1.1.1) h1.un
  have r2:=rdLL (xs:=x.1.1.2) h2.un
  refine ⟨u1,u2,?_,Rd.of r1,Rd.of r2⟩
  rw [(jJ.1 h3).1]
theorem a_sortSp (zs:List SpT) (hok:∀ z ∈ zs,SmS z.1.1) (hn:zs.length ≤ 1000000000) :
  AEf Tryz.prog 122 false [] 3 (zs.map eSpT) [[.raw (.func (.func 120) #[] #[])]] (fun rs oc => rs = []∧∃ zs':List SpT,oc = some (zs'.map eSpT)∧zs'.Perm zs∧zs'.Pairwise (fun a b => cmpS a.1.1 b.1.1 ≤ 0)):=by
 refine a_SortG Tryz.sortSp (k:=3) eSpT (by decide) (fun _ => rfl) aggSp sizeSp xC (·.1.1) (fun z => SmS z.1.1) ((([],[]),0),([],[])) [.slice none 0 0,.slice none 0 0,.int .i64 0] (fun A w => ?_) (by decide) 120 (enters_of Tryz.func120 rfl rfl)
  (fun W A x y us vs hA hx hy hu hv => ?_) (enters_of Tryz.func122 rfl rfl) zs hok hn
 ·have hnil:rdV A w (.slice none 0 0) (.tag [] (.sl 1 [])):=kW.2 ⟨by simp,kS.2 ⟨none,[],[],Row.nil _ 1,ownR.nil (by decide),rfl⟩⟩
  exact rdCs.cons hnil (rdCs.cons hnil (rdCs.cons (jJ.2 ⟨rfl,by show qH 0;unfold qH;omega⟩) rdCs.nil))
 ·obtain ⟨u1,u2,rfl,r1,r2⟩:=rd_eSpT hA hu
  obtain ⟨v1,v2,rfl,r3,r4⟩:=rd_eSpT hA hv
  exact c_gathered1 W _ _ _ _ _ _ _ _ _ _ r1 r2 r3 r4 (Nat.le_trans hx.1.2 (by decide)) (Nat.le_trans hy.1.2 (by decide))
end Go.Proofs.YtedgfkpfhonlpaaGreat
namespace Go.Proofs.YtedgfkpfhonlpaaGreat
open Go.RowKit
theorem sub_flatN {α:Type} {l1 l2:List (List α)} (h:l1.Sublist l2):l1.flatten.Sublist l2.flatten:=by
 induction h with
 | slnil => exact .slnil
 | cons a _ ih => rw [List.flatten_cons];exact ih.trans (List.sublist_append_right _ _)
 | cons_cons a _ ih => rw [List.flatten_cons,List.flatten_cons];exact List.Sublist.append (List.Sublist.refl _) ih
def eS0 (s:Spl):List D:=[.sl 1 (s.1.map eL),.sl 1 (s.2.map eL),.int 0]
noncomputable def TGa2:Tab Tryz.prog :=
 (Tab.none.add 102 (tab1 codLL fun f => if SmF f then some [.own 1 ((forest f).map eL) true] else none) (yA fun f rs h => by split at h;cases h;rename_i hs;exact a_forestOf f hs.1 (by have:=hs.2;omega);cases h)).add
  120 (tab2 codSp codSp fun z y => if SmS z.1∧SmS y.1 then some [.val (.int (cmpS z.1 y.1))] else none) (yH fun z y rs h => by split at h;cases h;rename_i hs;exact a_gathered1 z y hs.1 hs.2;cases h)
structure Ga1 (M:Nat→Prop) (L:List Spl) (i:Nat) (qs:List SpT):Prop where
 le:i ≤ L.length
 eq:qs.map (·.1) = (L.take i).map fun s => (nrmS s,1)
 nd:((qs.map SpT.bl).flatten).Nodup
 mi:∀ b ∈ (qs.map SpT.bl).flatten,M b
theorem Ga1.len {M:Nat→Prop} {L:List Spl} {i:Nat} {qs:List SpT} (h:Ga1 M L i qs):qs.length = i:=by
 have:=congrArg List.length h.eq
 rw [List.length_map,List.length_map,List.length_take] at this
 have:=h.le
 omega
theorem marks_eSpT:∀ (qs:List SpT),kO (qs.map eSpT) = (qs.map SpT.bl).flatten
 | [] => rfl
 | q :: qs => by
  have ih:=marks_eSpT qs
  unfold kO at ih ⊢
  rw [List.map_cons,List.flatMap_cons,ih,List.map_cons,List.flatten_cons]
  congr 1
  simp [eSpT,D.marks,SpT.bl]
theorem rowMarks_left {xs ys:List (List D)} {b:Nat} (h:b ∈ kO xs):b ∈ kO (xs ++ ys):=by
 unfold kO at h ⊢
 rw [List.flatMap_append];exact List.mem_append_left _ h
theorem a_gathered (L:List Spl) (hl:L.length ≤ 100000) (hL:∀ s ∈ L,SmS s):AOw Tryz.prog 60 [] 3 (L.map eS0) [] (· = [.own 3 ((gathS L).map eSp) true]):=by
 refine AOw.of_runs (qX 68) Tryz.func60 rfl rfl rfl gz ?_
 have hres:Tryz.f60.results.toList = [.tmp 2]:=rfl
 have hrts:Tryz.f60.resultTypes.toList = [33]:=rfl
 simp only [List.length_cons,List.length_nil,List.nil_append,List.cons_append,qU,qT,eL,eI,eLL,eB,Nat.zero_add,Nat.reduceAdd]
 intro M
 refine qJ.of ?_
 refine gw34 (kk 35) Y0 ?_
 refine qJ.loop (β:=Nat × List SpT) (γ:=List SpT) (fun x => ⟨[(0,.c (.own 0 L.length)),(10,.c (.own 0 L.length)),(11,.c (.val (.int L.length))),(12,.c (.val (.int x.1)))],[(0,.row 3 (x.2.map eSpT ++ (L.drop x.1).map eS0) false)]⟩) (fun x => Ga1 M L x.1 x.2) (fun x => L.length - x.1)
  (fun qs => ⟨[(0,.c (.own 0 L.length))],[(0,.row 3 (qs.map eSpT) false)]⟩) (fun qs => Ga1 M L L.length qs) (0,[]) ⟨Nat.zero_le _,rfl,List.nodup_nil,fun b hb => nomatch hb⟩ ?_ ?_ ?_
 ·exact gw68
 ·rintro ⟨i,qs⟩ hI
  have hil:=hI.le
  have hqn:=hI.len
  simp only at hil hqn ⊢
  have hw:=qD (n:=i) (by omega)
  have hrl:(qs.map eSpT ++ (L.drop i).map eS0).length = L.length:=by rw [List.length_append,List.length_map,List.length_map,List.length_drop];omega
  by_cases h:i < L.length
  ·have i1:((i:Int) < (L.length:Int)) = True:=eq_true (by omega)
   have i2:((0:Int) ≤ (i:Int)) = True:=eq_true (by omega)
   refine qJ.fresh rfl ?_
   intro M' hM' hold
   have hold:=hold 0 3 (qs.map eSpT ++ (L.drop i).map eS0) rfl
   obtain ⟨s,hs⟩:∃ s,s = L[i]:=⟨_,rfl⟩
   have hsm:=hL L[i] (List.getElem_mem _)
   have hdr:L.drop i = s :: L.drop (i + 1):=by rw [hs];exact List.drop_eq_getElem_cons h
   rw [← hs] at hsm
   have hg:(qs.map eSpT ++ (L.drop i).map eS0)[i]? = some [.sl 1 (s.1.map eL),.sl 1 (s.2.map eL),.int 0]:=by
    rw [List.getElem?_append_right (by rw [List.length_map];omega),List.length_map,hqn,Nat.sub_self,hdr];rfl
   have e1:=eq_true hsm.1
   have e2:=eq_true hsm.2
   refine gw38 (kk 35) (Y4 i1 i2 hg hrl) ?_
   ((with_reducible refine qJ.wFz (qX 68) TGa2 qK [] (tr:=?_) (s1:=?_) (rest:=?_) ?_ ?_ ?_);rotate_left 3;(focus ((with_reducible refine QW ?_);simp only [Zg,Zd,Zi,seval,drunF,kM,vV,valD,wZ,List.contains_cons,List.contains_nil,TGa2,TGa2,i1,i2,hg,hrl,e1,e2,Int.toNat_natCast];with_reducible rfl));focus ((with_reducible refine QK ?_);simp only [Zk];kernel_rfl))
   refine qW.markA2 (r:=25) (key1:=21) (key2:=24) (z:=[.val (.int 1)]) rfl rfl rfl (by decide) ?_
   intro F G hnd hFG
   refine qW.opsT (qX 68) (T:=Tab.none) (s':=?_) ?_ ?_
   rotate_left 1
   focus (simp only [Zg,Zi,seval,hg,hrl];with_reducible rfl)
   refine gw29 (kk 35) hw ?_
   have hset:(qs.map eSpT ++ (L.drop i).map eS0).set i [.tag F (.sl 1 ((forest s.1).map eL)),.tag G (.sl 1 ((forest s.2).map eL)),.int 1] = (qs ++ [((nrmS s,1),(F,G))]).map eSpT ++ (L.drop (i + 1)).map eS0:=by
    rw [List.set_append_right _ _ (by rw [List.length_map];omega),List.length_map,hqn,Nat.sub_self,hdr,List.map_cons,List.set_cons_zero,List.map_append,List.append_assoc]
    rfl
   refine qY.on (i + 1,qs ++ [((nrmS s,1),(F,G))]) ⟨⟨h,?_,?_,?_⟩,by show L.length - (i + 1) < L.length - i;omega⟩ ?_
   ·show List.map (fun q:SpT => q.1) (qs ++ [((nrmS s,1),(F,G))]) = (L.take (i + 1)).map fun s => (nrmS s,1)
    have:=hI.eq
    simp only at this
    rw [List.map_append,this,List.take_succ_eq_append_getElem h,List.map_append,← hs];rfl
   ·show (((qs ++ [((nrmS s,1),(F,G))]).map SpT.bl).flatten).Nodup
    rw [List.map_append,List.flatten_append]
    refine List.nodup_append.2 ⟨hI.nd,by simpa [SpT.bl] using hnd,fun b hb c hc e => ?_⟩
    subst e
    refine hold b (rowMarks_left ?_) (hFG b (by simpa [SpT.bl] using hc))
    rw [marks_eSpT];exact hb
   ·intro b hb
    have hb:b ∈ ((qs ++ [((nrmS s,1),(F,G))]).map SpT.bl).flatten:=hb
    rw [List.map_append,List.flatten_append] at hb
    rcases List.mem_append.1 hb with hb|hb
    ·exact hI.mi b hb
    ·exact hM' b (hFG b (by simpa [SpT.bl] using hb))
   ·rw [← hset]
    exact gw6 Y0
  ·have i1:((i:Int) < (L.length:Int)) = False:=eq_false (by omega)
   obtain rfl:i = L.length:=by omega
   have hd0:L.drop L.length = []:=List.drop_length
   refine gw29 (kk 35) i1 ?_
   refine qY.out qs hI ?_
   rw [hd0,List.map_nil,List.append_nil]
   exact gw6 Y0
 ·intro qs hJ
  have hqn:=hJ.len
  have hq1:∀ q ∈ qs,q.1.2 = 1∧SmS q.1.1:=fun q hq => by
   have hm:q.1 ∈ qs.map (·.1):=List.mem_map.2 ⟨q,hq,rfl⟩
   rw [hJ.eq,List.take_length,List.mem_map] at hm
   obtain ⟨s,hs,e⟩:=hm
   rw [← e]
   have:=hL s hs
   refine ⟨rfl,⟨?_,?_⟩,?_,?_⟩
   ·show (sortC cmpT s.1).length ≤ 19
    rw [wN];exact this.1.1
   ·show qQ (sortC cmpT s.1) ≤ 100
    rw [vD (jH _)];exact this.1.2
   ·show (sortC cmpT s.2).length ≤ 19
    rw [wN];exact this.2.1
   ·show qQ (sortC cmpT s.2) ≤ 100
    rw [vD (jH _)];exact this.2.2
  have hso:=a_sortSp qs (fun q hq => (hq1 q hq).2) (by omega)
  refine gw29 (kk 35) Y0 ?_
  refine qJ.regCut (qX 68) Tab.none 2 (s1:=?_) ?_ ?_
  rotate_left 1
  focus (refine Work.mk ?_;simp only [Zg,Zi,seval];with_reducible rfl)
  simp only [List.toList_toArray,List.drop_succ_cons,List.drop_zero]
  refine qW.callEf (qX 68) rfl rfl (by decide) rfl rfl (x:=.tmp 28) (xpost:=[.tmp 29]) rfl rfl (post:=[[.raw (.func (.func 120) #[] #[])]]) ?_ ?_ rfl rfl ?_ hso (R:=fun ys => ∃ zs:List SpT,ys = zs.map eSpT∧zs.Perm qs∧zs.Pairwise (fun a b => cmpS a.1.1 b.1.1 ≤ 0)) ?_ ?_
  ·simp only [Zg,Zi,seval]
  ·rfl
  ·intro q u hq hu
   rw [look,if_neg (fun e => hq e.symm)] at hu
   cases hu
  ·rintro rs oc ⟨rfl,zs,rfl,h1,h2⟩
   exact ⟨rfl,_,rfl,zs,rfl,h1,h2⟩
  rintro _ ⟨zs,rfl,hperm,hsort⟩
  have hzl:zs.length = L.length:=by rw [hperm.length_eq];exact hqn
  have hzz:∀ z ∈ zs,z.1.2 = 1∧SmS z.1.1:=fun z hz => hq1 z (hperm.mem_iff.1 hz)
  refine qW.opsT (qX 68) (T:=Tab.none) (s':=?_) ?_ ?_
  rotate_left 1
  focus (simp only [Zg,Zi,seval];with_reducible rfl)
  refine gw29 (kk 35) Y0 ?_
  obtain ⟨R,hR⟩:∃ R,R = fun i => runQ (zs.take i):=⟨_,rfl⟩
  have hRi:∀ i,i ≤ zs.length→(R i).length ≤ 100000∧∀ q ∈ R i,(1 ≤ q.1.2∧q.1.2 ≤ 100000)∧SmS q.1.1:=fun i hi => by
   rw [hR]
   obtain ⟨_,_,h3,h4⟩:=runQ_spec _ (zs.take i) rfl (fun q hq => (hzz q (List.mem_of_mem_take hq)).1)
   rw [List.length_take] at h3 h4
   refine ⟨by show (runQ (zs.take i)).length ≤ 100000;omega,fun q hq => ?_⟩
   obtain ⟨h5,p,hp,h6⟩:=h4 q hq
   exact ⟨by omega,h6 ▸ (hzz p (List.mem_of_mem_take hp)).2⟩
  refine qJ.loop (β:=Nat) (γ:=Unit) (fun i => ⟨[(5,.c (.val (.raw (.func (.func 120) #[] #[])))),(6,.c (.own 6 (R i).length)),(32,.c (.own 0 L.length)),(33,.c (.val (.int L.length))),(34,.c (.val (.int i)))],[(0,.row 3 (zs.map eSpT) false),(6,.row 3 ((R i).map eSpT) false)]⟩) (fun i => i ≤ L.length) (fun i => L.length - i)
   (fun _ => ⟨[(6,.c (.own 6 (R L.length).length))],[(6,.row 3 ((R L.length).map eSpT) false)]⟩) (fun _ => True) 0 (Nat.zero_le _) ?_ ?_ ?_
  ·have e0:R 0 = []:=by rw [hR];rfl
   rw [e0]
   exact gw69
  ·intro i hi
   have hi:i ≤ L.length:=hi
   have hw:=qD (n:=i) (by omega)
   obtain ⟨hb1,hb2⟩:=hRi i (by omega)
   have hzml:(zs.map eSpT).length = L.length:=by rw [List.length_map,hzl]
   by_cases h:i < L.length
   ·have hz':i < zs.length:=by omega
    have i1:((i:Int) < (L.length:Int)) = True:=eq_true (by omega)
    have i2:((0:Int) ≤ (i:Int)) = True:=eq_true (by omega)
    obtain ⟨p,hp⟩:∃ p,p = zs[i]:=⟨_,rfl⟩
    have hpz:=hzz zs[i] (List.getElem_mem _)
    have hst:R (i + 1) = stepQ (R i) p:=by
     rw [hR]
     show runQ (zs.take (i + 1)) = stepQ (runQ (zs.take i)) p
     rw [List.take_succ_eq_append_getElem hz',← hp,runQ_snoc]
    have hg:(zs.map eSpT)[i]? = some (eSpT p):=by rw [qE hz',hp]
    rw [← hp] at hpz
    obtain ⟨⟨⟨pf,pg⟩,pn⟩,⟨pF,pG⟩⟩:=p
    simp only [eSpT] at hg
    simp only at hpz
    have hpz2:=hpz.2
    have q1:=jW (n:=(R i).length + 1) (by omega)
    have q2:=jZ (n:=(R i).length + 1) (c:=56) (by omega) (by omega)
    by_cases h0:R i = []
    ·rw [h0,stepQ_nil] at hst
     have j1:(((0:Nat):Int) > 0) = False:=eq_false (by omega)
     rw [h0] at q1 q2 ⊢
     simp only [List.length_nil] at q1 q2
     refine gw70 (kk 35) (Y8 i1 i2 hg hzml hw j1 q1 q2) ?_
     refine qY.on (i + 1) ⟨h,by omega⟩ ?_
     rw [hst]
     exact gw71
    ·obtain ⟨qo,q,eq⟩:=snocN h0
     have hlq:(R i).length = qo.length + 1:=by rw [eq];simp
     obtain ⟨hz1,hz3⟩:=hb2 q (by rw [eq];simp)
     obtain ⟨⟨⟨qf,qg⟩,qn⟩,⟨qF,qG⟩⟩:=q
     simp only at hz1 hz3
     have j1:((((qo.length + 1:Nat)):Int) > 0) = True:=eq_true (by omega)
     have hw1:w64 (((qo.length + 1:Nat):Int) - 1) = ((qo.length:Nat):Int):=by rw [qL (by omega)];omega
     have i3:((0:Int) ≤ ((qo.length:Nat):Int)) = True:=eq_true (by omega)
     have i4:(((qo.length:Nat):Int) < ((qo.length + 1:Nat):Int)) = True:=eq_true (by omega)
     have hgz:((R i).map eSpT)[qo.length]? = some [.tag qF (.sl 1 (qf.map eL)),.tag qG (.sl 1 (qg.map eL)),.int qn]:=by
      rw [eq,List.map_append,List.getElem?_append_right (by simp)];simp [eSpT]
     have hxl:((R i).map eSpT).length = qo.length + 1:=by rw [List.length_map,hlq]
     have hk2:=eq_true (And.intro hz3 hpz2)
     rw [hlq] at hb1 q1 q2 ⊢
     by_cases he:cmpS (qf,qg) (pf,pg) = 0
     ·have hd:(cmpS (qf,qg) (pf,pg) == 0) = true:=beq_iff_eq.2 he
      have hwz:=qL (n:=qn + 1) (by omega)
      refine gw72 (kk 35) (Y12 i1 i2 i3 i4 hg hzml hgz hxl hw hw1 hd (Y3 hwz j1 hk2)) ?_
      have hR2:R (i + 1) = qo ++ [(((qf,qg),qn + 1),(qF,qG))]:=by rw [hst,eq];exact stepQ_eq qo _ _ he
      have hse:((R i).map eSpT).set qo.length [.tag qF (.sl 1 (qf.map eL)),.tag qG (.sl 1 (qg.map eL)),.int (qn + 1)] = (R (i + 1)).map eSpT:=by
       rw [hR2,eq,List.map_append,List.set_append_right _ _ (by simp)];simp [eSpT]
      refine qY.on (i + 1) ⟨h,by omega⟩ ?_
      have hl2:(R (i + 1)).length = qo.length + 1:=by rw [hR2];simp
      rw [hl2,← hse]
      exact gw6 Y0
     ·have hd:(cmpS (qf,qg) (pf,pg) == 0) = false:=beq_eq_false_iff_ne.2 he
      refine gw72 (kk 35) (Y12 i1 i2 i3 i4 hg hzml hgz hxl hw hw1 hd (Y4 j1 hk2 q1 q2)) ?_
      have hR2:R (i + 1) = R i ++ [(((pf,pg),pn),(pF,pG))]:=by rw [hst,eq];exact stepQ_ne qo _ _ he
      refine qY.on (i + 1) ⟨h,by omega⟩ ?_
      rw [hR2,List.length_append,hlq]
      exact gw73
   ·have i1:((i:Int) < (L.length:Int)) = False:=eq_false (by omega)
    obtain rfl:i = L.length:=by omega
    refine gw29 (kk 35) i1 ?_
    refine qY.out () trivial ?_
    exact gw6 Y0
  ·rintro _ _
   have hRL:R L.length = runQ zs:=by rw [hR];show runQ (zs.take L.length) = _;rw [← hzl,List.take_length]
   obtain ⟨k1,k2,_,_⟩:=runQ_spec _ zs rfl (fun q hq => (hzz q hq).1)
   rw [hRL]
   refine gw29 (kk 35) Y0 ?_
   refine Ends.un (by simp) hres hrts (r:=?_) (r':=.own 3 ((gathS L).map eSp) true) (l:=[]) (ks:=?_) ?_ ?_ (by simp) ?_ rfl
   rotate_left 2
   focus (simp only [jI,ares,Zg,Zi,seval];with_reducible rfl)
   focus simp
   have hx:gathS L = (runQ zs).map (·.1):=by
    rw [k1]
    refine IsN.ext xC (yY L) (runsN_sorted xC (M:=L.map nrmS) ?_ ?_) (List.Perm.refl _)
    ·refine (hperm.map (·.1.1)).trans ?_
     have:=congrArg (List.map (·.1)) hJ.eq
     rw [List.map_map,List.map_map,List.take_length] at this
     rw [show (qs.map fun x => x.1.1) = qs.map ((fun x => x.1) ∘ fun x => x.1) from rfl,this]
     exact List.Perm.refl _
    ·exact List.pairwise_map.2 hsort
   rw [hx]
   have hp2:=(hperm.map SpT.bl).flatten
   refine ⟨((runQ zs).map SpT.bl).flatten,?_,fun b hb => hJ.mi b ?_,.inl ⟨3,_,_,rfl,rfl,tag_mkS _⟩⟩
   ·exact (hp2.nodup_iff.2 hJ.nd).sublist (sub_flatN k2)
   ·exact hp2.mem_iff.1 ((sub_flatN k2).subset hb)
end Go.Proofs.YtedgfkpfhonlpaaGreat
namespace Go.Proofs.YtedgfkpfhonlpaaGreat
open Go.RowKit
theorem c_slicesGrowL (n:Nat) (w:World) (hn:n ≤ 1000000000):Calls Tryz.prog 183 #[.slice none 0 0,.int .i64 n] w (RetO (RS (RS RI)) w []):=by
 by_cases h0:n = 0
 ·subst h0
  go_enter Tryz.func183,Tryz.ntmps183
  go_wp2_with fail
  go_ret
  exact ⟨_,rfl,Own.nil _ _,Below.refl _ _⟩
 ·obtain ⟨ht,⟨i,hi,hz,hsz,hby⟩,_,_⟩:=tI64S
  have hr:=Lib.run_append_nil_zeros (P:=Tryz.prog) w 36 3 36 24 i (.slice none 0 0) .i64 .i64 ht Tryz.underlying3 hi hz n (by omega) (by omega) (by omega) (by rw [hby];omega)
  have hge:=grownCap_ge w n 0 24
  have hcm:grownCap w n 0 24 ≤ maxLen:=grownCap_le_maxLen w n 0 24 (by unfold maxLen;omega)
  obtain ⟨cp,hcp⟩:∃ cp,cp = grownCap w n 0 24:=⟨_,rfl⟩
  rw [← hcp] at hr hge hcm
  obtain ⟨cur,hcur⟩:∃ cur,cur = Builtin.zeroCells (Value.slice none 0 0).cells n ++ Builtin.zeroCells (Value.slice none 0 0).cells (cp - n):=⟨_,rfl⟩
  have hcs:cur.size = cp * 1:=by
   rw [hcur,Array.size_append,size_zeroCells,size_zeroCells]
   show n * 1 + (cp - n) * 1 = cp * 1
   omega
  rw [← hcur] at hr
  have hrow:Row (w.drew.alloc (.cells cur 24)) (.slice (some ⟨w.heap.size,0,none⟩) 0 cp) 1 0 [] (some w.heap.size) :=
   ⟨rfl,.inr ⟨w.heap.size,cp,cur,24,rfl,rfl,Go.heap_alloc_new w.drew _,Nat.zero_le _,hcm,hcs,by simp⟩⟩
  have hown:Own (RS (RS RI)) w.heap.size (w.drew.alloc (.cells cur 24)).heap.size (w.drew.alloc (.cells cur 24)) [.slice (some ⟨w.heap.size,0,none⟩) 0 cp] [] :=
   Own.mk' (og:=some w.heap.size) (F:=[]) (ds:=[]) hrow ⟨rfl,rfl⟩ (by simp) (fun b hb => by simp at hb;subst hb;simp)
  have hbel:Below w.heap.size w (w.drew.alloc (.cells cur 24)):=⟨rfl,rfl,rfl,by simp,fun k hk => Below.heap_alloc w.drew _ k hk⟩
  have HR:=Lib.hid hr
  have HO:=Lib.hid hown
  have hp:(0:Int) < (n:Int):=by omega
  have hp2:¬ ((n:Int) < 0):=by omega
  unfold maxLen at hcm
  clear hr hown hrow hcp hcur hi hz hsz hby ht hcs
  go_enter Tryz.func183,Tryz.ntmps183
  go_wp2_with (at_builtin;refine yP (o:=⟨some 22,_,_,_,_,_⟩) ?_)
  refine jA.go ?_
  refine Lib.wpList_append_run w rfl _ _ _ _ rfl _ _ rfl rfl _ _ HR.out ?_
  go_wp2_with fail
  go_ret
  exact ⟨_,rfl,HO.out,hbel⟩
theorem a_slicesGrowL (n:Nat) (hn:n ≤ 1000000000):AFn Tryz.prog 183 [[.raw (.slice none 0 0)],eI n] (· = [.own 1 [] true]) :=
 AFn.of_o (xs:=[]) (encS encI) (enters_of Tryz.func183 rfl rfl) (fun w A vs ⟨v1,_,e1,h1,v2,_,e2,h2,e3⟩ => by
  subst e3;subst e2;subst e1
  rw [arg_int h2,(yJ.1 h1).1]
  exact c_slicesGrowL n w hn)
def eLLL' (x:List (List Int)):List D:=[.sl 1 (x.map eL)]
def cntL (bs:List (List (List Int))):Nat:=(bs.map List.length).sum
theorem vZ0 (bs:List (List (List Int))) (k:Nat) (h:k < bs.length):cntL (bs.take (k + 1)) = cntL (bs.take k) + bs[k].length:=by
 unfold cntL
 rw [List.take_succ_eq_append_getElem h,List.map_append,List.sum_append];simp
theorem cntL_flat (bs:List (List (List Int))):bs.flatten.length = cntL bs:=by simp [cntL,List.length_flatten]
theorem cntL_take (bs:List (List (List Int))) (k:Nat):cntL (bs.take k) ≤ cntL bs:=by
 rw [← cntL_flat,← cntL_flat]
 conv => rhs;rw [← List.take_append_drop k bs]
 rw [List.flatten_append,List.length_append]
 omega
theorem kY0 (bs:List (List (List Int))) (hsz:cntL bs ≤ 1000000) (hl:bs.length ≤ 1000000):AFn Tryz.prog 123 [[.sl 1 (bs.map eLLL')]] (· = [.own 1 (bs.flatten.map eL) false]):=by
 refine AFn.of_runs (qX 36) Tryz.func123 rfl rfl rfl gz ?_
 have hres:Tryz.f123.results.toList = [.tmp 2]:=rfl
 have hrts:Tryz.f123.resultTypes.toList = [36]:=rfl
 simp only [qU,qT,eL,eI,eLL,eB,Nat.zero_add,Nat.reduceAdd]
 intro M
 refine qJ.of ?_
 refine gw5 (kk 28) Y0 ?_
 refine qJ.loop (β:=Nat) (γ:=Unit) (fun i => ⟨[(0,.c (.val (.sl 1 (bs.map eLLL')))),(3,.c (.val (.int (cntL (bs.take i):Nat)))),(9,.c (.val (.sl 1 (bs.map eLLL')))),(10,.c (.val (.int bs.length))),(11,.c (.val (.int i)))],[]⟩) (fun i => i ≤ bs.length) (fun i => bs.length - i)
  (fun _ => ⟨[(0,.c (.val (.sl 1 (bs.map eLLL')))),(3,.c (.val (.int (cntL bs:Nat))))],[]⟩) (fun _ => True) 0 (Nat.zero_le _) ?_ ?_ ?_
 ·exact gw74 (show cntL [] = 0 from rfl)
 ·intro i hi
  have hi:i ≤ bs.length:=hi
  have hw:=qD (n:=i) (by omega)
  by_cases h:i < bs.length
  ·have i1:((i:Int) < (bs.length:Int)) = True:=eq_true (by omega)
   have i2:((0:Int) ≤ (i:Int)) = True:=eq_true (by omega)
   obtain ⟨f,hf⟩:∃ f,f = bs[i]:=⟨_,rfl⟩
   have hg:(bs.map eLLL')[i]? = some [.sl 1 (f.map eL)]:=by rw [qE h,hf];rfl
   have hst:=vZ0 bs i h
   have hle:=cntL_take bs (i + 1)
   rw [← hf] at hst
   have hws:w64 ((cntL (bs.take i):Int) + (f.length:Int)) = ((cntL (bs.take (i + 1)):Nat):Int):=by rw [qL (by omega)];omega
   have j1:(((cntL (bs.take (i + 1)):Nat):Int) < 0) = False:=eq_false (by omega)
   refine gw75 (kk 28) (Y6 i1 i2 hg hw hws j1) ?_
   refine qY.on (i + 1) ⟨h,by omega⟩ ?_
   exact gw6 Y0
  ·have i1:((i:Int) < (bs.length:Int)) = False:=eq_false (by omega)
   obtain rfl:i = bs.length:=by omega
   rw [List.take_length]
   refine gw7 (kk 28) i1 ?_
   refine qY.out () trivial ?_
   exact gw6 Y0
 ·rintro _ _
  have hgr:=a_slicesGrowL (cntL bs) (by omega)
  refine gw5 (kk 28) Y0 ?_
  refine qJ.regCut (qX 36) Tab.none 1 (s1:=?_) ?_ ?_
  rotate_left 1
  focus (refine Work.mk ?_;simp only [Zg,Zi,seval];with_reducible rfl)
  simp only [List.toList_toArray,List.drop_succ_cons,List.drop_zero]
  refine qW.callNilP (qX 36) (d:=24) (g:=183) (xs:=[]) (tx:=[]) (pre:=[]) (ys:=[.tmp 23]) (ty:=[3]) (post:=[eI (cntL bs:Nat)]) rfl (by decide) rfl rfl rfl rfl rfl rfl rfl rfl hgr rfl ?_
  refine qW.opsT (qX 36) (T:=Tab.none) (s':=?_) ?_ ?_
  rotate_left 1
  focus (simp only [Zg,Zi,seval];with_reducible rfl)
  refine gw5 (kk 28) Y0 ?_
  refine qJ.loop (β:=Nat) (γ:=Unit) (fun i => ⟨[(6,.c (.own 6 (bs.take i).flatten.length)),(25,.c (.val (.sl 1 (bs.map eLLL')))),(26,.c (.val (.int bs.length))),(27,.c (.val (.int i)))],[(6,.row 1 ((bs.take i).flatten.map eL) false)]⟩) (fun i => i ≤ bs.length) (fun i => bs.length - i)
   (fun _ => ⟨[(6,.c (.own 6 bs.flatten.length))],[(6,.row 1 (bs.flatten.map eL) false)]⟩) (fun _ => True) 0 (Nat.zero_le _) ?_ ?_ ?_
  ·exact gw76
  ·intro i hi
   have hi:i ≤ bs.length:=hi
   have hw:=qD (n:=i) (by omega)
   by_cases h:i < bs.length
   ·have i1:((i:Int) < (bs.length:Int)) = True:=eq_true (by omega)
    have i2:((0:Int) ≤ (i:Int)) = True:=eq_true (by omega)
    obtain ⟨f,hf⟩:∃ f,f = bs[i]:=⟨_,rfl⟩
    have hg:(bs.map eLLL')[i]? = some [.sl 1 (f.map eL)]:=by rw [qE h,hf];rfl
    have hst:=vZ0 bs i h
    have hle:=cntL_take bs (i + 1)
    rw [← hf] at hst
    have hfl:(bs.take (i + 1)).flatten = (bs.take i).flatten ++ f:=by rw [List.take_succ_eq_append_getElem h,List.flatten_append,hf];simp
    have hcl:=cntL_flat (bs.take i)
    have q1:=jW (n:=(bs.take i).flatten.length + f.length) (by omega)
    have q2:=jZ (n:=(bs.take i).flatten.length + f.length) (c:=24) (by omega) (by omega)
    refine gw75 (kk 28) (Y6 i1 i2 hg hw q1 q2) ?_
    refine qY.on (i + 1) ⟨h,by omega⟩ ?_
    rw [hfl]
    exact gw6 Y0
   ·have i1:((i:Int) < (bs.length:Int)) = False:=eq_false (by omega)
    obtain rfl:i = bs.length:=by omega
    rw [List.take_length]
    refine gw7 (kk 28) i1 ?_
    refine qY.out () trivial ?_
    exact gw6 Y0
  ·rintro _ _
   refine gw7 (kk 28) Y0 ?_
   exact gw8
end Go.Proofs.YtedgfkpfhonlpaaGreat
namespace Go.Proofs.YtedgfkpfhonlpaaGreat
open Go.RowKit
def codLLL:Cod (List (List (List Int))):=codS 1 codLL
theorem codLLL_d (f g:List (List Int)):codLLL.d [.sl 1 [[.sl 1 (f.map eL)],[.sl 1 (g.map eL)]]] = some [f,g]:=codLLL.de [f,g]
def cat2:List (List (List Int))→Option (List Res)
 | [f,g] => if SmF f∧SmF g then some [.val (.sl 1 ((f ++ g).map eL))] else none
 | _ => none
theorem cat2_eq (f g:List (List Int)):cat2 [f,g] = if SmF f∧SmF g then some [.val (.sl 1 ((f ++ g).map eL))] else none:=rfl
noncomputable def TCat:Tab Tryz.prog :=
 Tab.none.add 123 (tab1 codLLL cat2) (yA fun bs rs h => by
  unfold cat2 at h
  split at h
  ·rename_i f g
   split at h
   ·rename_i hs
    cases h
    have hc:=AFn.val1 (kY0 [f,g] (by simp [cntL];have:=hs.1.1;have:=hs.2.1;omega) (by simp))
    simp only [List.flatten_cons,List.flatten_nil,List.append_nil] at hc
    exact hc
   ·cases h
  ·cases h)
theorem a_branchesOf (t:List Int) (h:qZ t) (hl:t.length ≤ 1000):AFn Tryz.prog 103 [eL t] (· = [.own 1 ((brs t).map eL) true]) :=
 afn_L_oo (enters_of Tryz.func103 rfl rfl) (fun u w h' => xB0 u t w h' h (by omega))
theorem foldS_snoc (A:List Spl) (Ls:List (List Spl)) (L:List Spl):foldS A (Ls ++ [L]) = (foldS A Ls).flatMap fun s => L.map (catS s):=by unfold foldS;rw [List.foldl_append];rfl
theorem flatS_len (A L:List Spl):(A.flatMap fun s => L.map (catS s)).length = A.length * L.length:=by
 induction A with
 | nil => simp
 | cons a A ih => rw [List.flatMap_cons,List.length_append,ih,List.length_map,List.length_cons,Nat.succ_mul,Nat.add_comm]
theorem xO0:∀ (n:Nat),n ≤ 8→∀ t:List Int,qZ t→t.length ≤ n→AFn Tryz.prog 117 [eL t] (· = [.own 3 ((split t).map eS0) false])
 | 0,_,t,h,hn => by have:=h.pos;omega
 | n + 1,hn8,t,h,hn => by
  have hsb:=kG h
  have hlev:=jC h
  have hbr:=AFn.valT (a_branchesOf t h (by omega))
  have hbl:(brs t).length ≤ 8:=by have:=brs_few h;omega
  have hca:=AFn.valT (vX0 t h (by omega))
  simp only [eL,eLL] at hbr hca
  have hAg:∀ k,(∀ s ∈ prodS (((brs t).take k).map split),yS (qQ ((brs t).take k)) s)∧(prodS (((brs t).take k).map split)).length ≤ 256∧qQ ((brs t).take k) ≤ 7:=fun k => by
   have h1:=xI0 (brs t) k
   exact ⟨kD (qE0 hlev),qZ0 (qE0 hlev) (by omega),by omega⟩
  rw [wK h]
  refine AFn.of_runs (qX 80) Tryz.func117 rfl rfl rfl gz ?_
  have hres:Tryz.f117.results.toList = [.tmp 2]:=rfl
  have hrts:Tryz.f117.resultTypes.toList = [33]:=rfl
  simp only [qU,qT,eL,eI,eLL,eB,Nat.zero_add,Nat.reduceAdd]
  intro M
  refine qJ.of ?_
  refine gw77 (kk 59) ?_
  refine qJ.loop (β:=Nat) (γ:=Unit) (fun k => ⟨[(0,.c (.val (.sl 1 (t.map eI)))),(3,.c (.own 3 (prodS (((brs t).take k).map split)).length)),(16,.c (.val (.sl 1 ((brs t).map eL)))),(17,.c (.val (.int (brs t).length))),(18,.c (.val (.int k)))],[(3,.row 3 ((prodS (((brs t).take k).map split)).map eS0) false)]⟩) (fun k => k ≤ (brs t).length) (fun k => (brs t).length - k)
   (fun _ => ⟨[(0,.c (.val (.sl 1 (t.map eI)))),(3,.c (.own 3 (prodS ((brs t).map split)).length))],[(3,.row 3 ((prodS ((brs t).map split)).map eS0) false)]⟩) (fun _ => True) 0 (Nat.zero_le _) ?_ ?_ ?_
  ·exact gw78 (show prodS [] = [([],[])] from rfl)
  ·intro k hk
   have hk:k ≤ (brs t).length:=hk
   have hwk:=qD (n:=k) (by omega)
   obtain ⟨g1,g2,g3⟩:=hAg k
   by_cases hkb:k < (brs t).length
   ·have i1:((k:Int) < ((brs t).length:Int)) = True:=eq_true (by omega)
    have i2:((0:Int) ≤ (k:Int)) = True:=eq_true (by omega)
    obtain ⟨b,hb⟩:∃ b,b = (brs t)[k]:=⟨_,rfl⟩
    have hbm:b ∈ brs t:=by rw [hb];exact List.getElem_mem _
    have hg:((brs t).map eL)[k]? = some [.sl 1 (b.map eI)]:=by rw [qE hkb,hb];rfl
    have hle:((brs t).map eL).length = (brs t).length:=List.length_map _
    have hblen:=yN h b hbm
    have hih:=AFn.val1 (xO0 n (by omega) b (hlev b hbm) (by omega))
    have hgB:=xI _ (Nat.le_refl _) (hlev b hbm)
    have hlB:(split b).length ≤ 256:=by
     have h1:=kX _ (Nat.le_refl _) (hlev b hbm)
     have h2:2 ^ b.length ≤ 2 ^ 8:=Nat.pow_le_pow_right (by decide) (by omega)
     omega
    have htk:prodS (((brs t).take (k + 1)).map split) = (prodS (((brs t).take k).map split)).flatMap fun s => (split b).map (catS s):=by
     rw [hb,List.take_succ_eq_append_getElem hkb,List.map_append];exact foldS_snoc _ _ _
    have hn2:(prodS (((brs t).take (k + 1)).map split)).length ≤ 256:=(hAg (k + 1)).2.1
    obtain ⟨A,hA⟩:∃ A,A = prodS (((brs t).take k).map split):=⟨_,rfl⟩
    obtain ⟨B,hB⟩:∃ B,B = split b:=⟨_,rfl⟩
    rw [← hA] at g1 g2 htk ⊢
    rw [← hB] at hih hgB hlB htk
    rw [htk] at hn2
    simp only [eL] at hih
    have hsA:∀ s ∈ A,SmS s:=fun s hs => ((g1 s hs).ha (by omega)).sm
    have hsB:∀ s ∈ B,SmS s:=fun s hs => ((hgB s hs).ha (by omega)).sm
    have hAl:(A.map eS0).length = A.length:=List.length_map _
    refine gw79 (kk 59) (Y4 i1 i2 hg hle) ?_
    refine qJ.loop (β:=Nat) (γ:=Unit) (fun i => ⟨[(0,.c (.val (.sl 1 (t.map eI)))),(3,.c (.own 3 A.length)),(5,.c (.val (.sl 1 (b.map eI)))),(6,.c (.own 6 ((A.take i).flatMap fun s => B.map (catS s)).length)),(16,.c (.val (.sl 1 ((brs t).map eL)))),(17,.c (.val (.int (brs t).length))),(18,.c (.val (.int k))),(23,.c (.own 3 A.length)),(24,.c (.val (.int A.length))),(25,.c (.val (.int i)))],
      [(3,.row 3 (A.map eS0) false),(6,.row 3 (((A.take i).flatMap fun s => B.map (catS s)).map eS0) false)]⟩) (fun i => i ≤ A.length) (fun i => A.length - i)
     (fun _ => ⟨[(0,.c (.val (.sl 1 (t.map eI)))),(6,.c (.own 6 (A.flatMap fun s => B.map (catS s)).length)),(16,.c (.val (.sl 1 ((brs t).map eL)))),(17,.c (.val (.int (brs t).length))),(18,.c (.val (.int k)))],[(6,.row 3 ((A.flatMap fun s => B.map (catS s)).map eS0) false)]⟩) (fun _ => True) 0 (Nat.zero_le _) ?_ ?_ ?_
    ·exact gw80
    ·intro i hi
     have hi:i ≤ A.length:=hi
     have hwi:=qD (n:=i) (by omega)
     by_cases hiA:i < A.length
     ·have j1:((i:Int) < (A.length:Int)) = True:=eq_true (by omega)
      have j2:((0:Int) ≤ (i:Int)) = True:=eq_true (by omega)
      obtain ⟨s,hs⟩:∃ s,s = A[i]:=⟨_,rfl⟩
      have hsm:=hsA A[i] (List.getElem_mem _)
      have hgs:(A.map eS0)[i]? = some [.sl 1 (s.1.map eL),.sl 1 (s.2.map eL),.int 0]:=by rw [qE hiA,hs];rfl
      have htkA:(A.take (i + 1)).flatMap (fun s => B.map (catS s)) = ((A.take i).flatMap fun s => B.map (catS s)) ++ B.map (catS s):=by
       rw [hs,List.take_succ_eq_append_getElem hiA,List.flatMap_append];simp
      have hXl:((A.take i).flatMap fun s => B.map (catS s)).length + B.length ≤ 256:=by
       rw [flatS_len] at hn2 ⊢
       rw [List.length_take,Nat.min_eq_left hi]
       have:(i + 1) * B.length ≤ A.length * B.length:=Nat.mul_le_mul_right _ hiA
       rw [Nat.succ_mul] at this;omega
      rw [← hs] at hsm
      obtain ⟨X,hX⟩:∃ X,X = (A.take i).flatMap fun s => B.map (catS s):=⟨_,rfl⟩
      rw [← hX] at htkA hXl ⊢
      have hBl:(B.map eS0).length = B.length:=List.length_map _
      refine gw81 (kk 59) (Y5 j1 j2 hgs hAl hBl) ?_
      refine qJ.loop (β:=Nat) (γ:=Unit) (fun j => ⟨[(0,.c (.val (.sl 1 (t.map eI)))),(3,.c (.own 3 A.length)),(5,.c (.val (.sl 1 (b.map eI)))),(6,.c (.own 6 (X ++ (B.take j).map (catS s)).length)),(8,.optr 8 0 0),(16,.c (.val (.sl 1 ((brs t).map eL)))),(17,.c (.val (.int (brs t).length))),(18,.c (.val (.int k))),(23,.c (.own 3 A.length)),(24,.c (.val (.int A.length))),(25,.c (.val (.int i))),(30,.c (.val (.sl 3 (B.map eS0)))),(31,.c (.val (.int B.length))),(32,.c (.val (.int j)))],
        [(3,.row 3 (A.map eS0) false),(6,.row 3 ((X ++ (B.take j).map (catS s)).map eS0) false),(8,.row 3 [[.sl 1 (s.1.map eL),.sl 1 (s.2.map eL),.int 0]] false)]⟩) (fun j => j ≤ B.length) (fun j => B.length - j)
       (fun _ => ⟨[(0,.c (.val (.sl 1 (t.map eI)))),(3,.c (.own 3 A.length)),(5,.c (.val (.sl 1 (b.map eI)))),(6,.c (.own 6 (X ++ B.map (catS s)).length)),(16,.c (.val (.sl 1 ((brs t).map eL)))),(17,.c (.val (.int (brs t).length))),(18,.c (.val (.int k))),(23,.c (.own 3 A.length)),(24,.c (.val (.int A.length))),(25,.c (.val (.int i)))],
        [(3,.row 3 (A.map eS0) false),(6,.row 3 ((X ++ B.map (catS s)).map eS0) false)]⟩) (fun _ => True) 0 (Nat.zero_le _) ?_ ?_ ?_
      ·exact gw39
      ·intro j hj
       have hj:j ≤ B.length:=hj
       have hwj:=qD (n:=j) (by omega)
       by_cases hjB:j < B.length
       ·have l1:((j:Int) < (B.length:Int)) = True:=eq_true (by omega)
        have l2:((0:Int) ≤ (j:Int)) = True:=eq_true (by omega)
        obtain ⟨c,hc⟩:∃ c,c = B[j]:=⟨_,rfl⟩
        have hcm:=hsB B[j] (List.getElem_mem _)
        have hgc:(B.map eS0)[j]? = some [.sl 1 (c.1.map eL),.sl 1 (c.2.map eL),.int 0]:=by rw [qE hjB,hc];rfl
        have htkB:X ++ (B.take (j + 1)).map (catS s) = (X ++ (B.take j).map (catS s)) ++ [catS s c]:=by
         rw [hc,List.take_succ_eq_append_getElem hjB,List.map_append,List.append_assoc];rfl
        rw [← hc] at hcm
        have hYl:(X ++ (B.take j).map (catS s)).length ≤ 256:=by rw [List.length_append,List.length_map,List.length_take];omega
        obtain ⟨Y,hY⟩:∃ Y,Y = X ++ (B.take j).map (catS s):=⟨_,rfl⟩
        rw [← hY] at htkB hYl ⊢
        have q1:=jW (n:=Y.length + 1) (by omega)
        have q2:=jZ (n:=Y.length + 1) (c:=56) (by omega) (by omega)
        have hYm:(Y.map eS0).length = Y.length:=List.length_map _
        have e1:=eq_true (And.intro hsm.1 hcm.1)
        have e2:=eq_true (And.intro hsm.2 hcm.2)
        refine gw38 (kk 59) (Y4 l1 l2 hgc hBl) ?_
        (((with_reducible refine qJ.wFz (qX 80) TCat qK [41,47] (tr:=?_) (s1:=?_) (rest:=?_) ?_ ?_ ?_);rotate_left 3;(focus ((with_reducible refine QW ?_);simp only [Zg,Zd,Zi,seval,drunF,kM,vV,valD,wZ,List.contains_cons,List.contains_nil,TCat,TCat,codLLL_d,cat2_eq,e1,e2,q1,q2,hYm];with_reducible rfl));focus ((with_reducible refine QK ?_);simp only [Zk];kernel_rfl));(refine qW.opsT (qX 80) (T:=TCat) (s':=?_) ?_ ?_;rotate_left 1;focus (simp only [Zg,Zi,seval,TCat,TCat,codLLL_d,cat2_eq,e1,e2,q1,q2,hYm];with_reducible rfl)))
        refine gw29 (kk 59) hwj ?_
        refine qY.on (j + 1) ⟨hjB,by omega⟩ ?_
        rw [htkB]
        exact gw82
       ·have l1:((j:Int) < (B.length:Int)) = False:=eq_false (by omega)
        obtain rfl:j = B.length:=by omega
        rw [List.take_length]
        refine gw29 (kk 59) l1 ?_
        refine qY.out () trivial ?_
        exact gw6 Y0
      ·rintro _ _
       refine gw29 (kk 59) hwi ?_
       refine qY.on (i + 1) ⟨hiA,by omega⟩ ?_
       rw [htkA]
       exact gw6 Y0
     ·have j1:((i:Int) < (A.length:Int)) = False:=eq_false (by omega)
      obtain rfl:i = A.length:=by omega
      rw [List.take_length]
      refine gw29 (kk 59) j1 ?_
      refine qY.out () trivial ?_
      exact gw6 Y0
    ·rintro _ _
     refine gw29 (kk 59) hwk ?_
     refine qY.on (k + 1) ⟨hkb,by omega⟩ ?_
     rw [htk]
     exact gw6 Y0
   ·have i1:((k:Int) < ((brs t).length:Int)) = False:=eq_false (by omega)
    obtain rfl:k = (brs t).length:=by omega
    rw [List.take_length]
    refine gw29 (kk 59) i1 ?_
    refine qY.out () trivial ?_
    exact gw6 Y0
  ·rintro _ _
   have g1:=kD hlev
   have g2:=qZ0 hlev (by omega)
   obtain ⟨A,hA⟩:∃ A,A = prodS ((brs t).map split):=⟨_,rfl⟩
   rw [← hA] at g1 g2 ⊢
   refine gw29 (kk 59) Y0 ?_
   refine qJ.loop (β:=Nat) (γ:=Unit) (fun i => ⟨[(0,.c (.val (.sl 1 (t.map eI)))),(3,.c (.own 3 A.length)),(56,.c (.own 3 A.length)),(57,.c (.val (.int A.length))),(58,.c (.val (.int i)))],[(3,.row 3 ((A.take i).map (fun s => eS0 (rootS s)) ++ (A.drop i).map eS0) false)]⟩) (fun i => i ≤ A.length) (fun i => A.length - i)
    (fun _ => ⟨[(0,.c (.val (.sl 1 (t.map eI)))),(3,.c (.own 3 A.length))],[(3,.row 3 (A.map fun s => eS0 (rootS s)) false)]⟩) (fun _ => True) 0 (Nat.zero_le _) ?_ ?_ ?_
   ·exact gw83
   ·intro i hi
    have hi:i ≤ A.length:=hi
    have hwi:=qD (n:=i) (by omega)
    have hrl:((A.take i).map (fun s => eS0 (rootS s)) ++ (A.drop i).map eS0).length = A.length:=by rw [List.length_append,List.length_map,List.length_map,List.length_take,List.length_drop];omega
    by_cases hiA:i < A.length
    ·have j1:((i:Int) < (A.length:Int)) = True:=eq_true (by omega)
     have j2:((0:Int) ≤ (i:Int)) = True:=eq_true (by omega)
     obtain ⟨s,hs⟩:∃ s,s = A[i]:=⟨_,rfl⟩
     have hgood:=g1 A[i] (List.getElem_mem _)
     have hdr:A.drop i = s :: A.drop (i + 1):=by rw [hs];exact List.drop_eq_getElem_cons hiA
     have hti:((A.take i).map fun s => eS0 (rootS s)).length = i:=by rw [List.length_map,List.length_take];omega
     have hgs:((A.take i).map (fun s => eS0 (rootS s)) ++ (A.drop i).map eS0)[i]? = some [.sl 1 (s.1.map eL),.sl 1 (s.2.map eL),.int 0]:=by
      rw [List.getElem?_append_right (by omega),hti,Nat.sub_self,hdr];rfl
     rw [← hs] at hgood
     have hlv:∀ b ∈ s.2,qZ b:=fun b hb => (hgood.1 b (by simp [hb])).1
     have hsum:=hgood.2
     have hro:=AFn.valT (a_rootOn s.2 (fun b hb => (hlv b hb).small (by have:=jK hb;omega)) (by omega))
     have hcr:=AFn.valT (vX0 (qB s.2) (vU hlv) (by rw [xS];omega))
     simp only [eL,eLL] at hro hcr
     refine gw84 (kk 59) (Y5 j1 j2 hgs hrl hwi) ?_
     have hset:((A.take i).map (fun s => eS0 (rootS s)) ++ (A.drop i).map eS0).set i [.sl 1 (s.1.map eL),.sl 1 [[.sl 1 ((canon (qB s.2)).map eI)]],.int 0] = (A.take (i + 1)).map (fun s => eS0 (rootS s)) ++ (A.drop (i + 1)).map eS0:=by
      rw [List.set_append_right _ _ (by omega),hti,Nat.sub_self,hdr,List.map_cons,List.set_cons_zero,List.take_succ_eq_append_getElem hiA,List.map_append,List.append_assoc,← hs]
      rfl
     refine qY.on (i + 1) ⟨hiA,by omega⟩ ?_
     rw [← hset]
     exact gw6 Y0
    ·have j1:((i:Int) < (A.length:Int)) = False:=eq_false (by omega)
     obtain rfl:i = A.length:=by omega
     have hd0:A.drop A.length = []:=List.drop_length
     refine gw29 (kk 59) j1 ?_
     refine qY.out () trivial ?_
     rw [List.take_length,hd0,List.map_nil,List.append_nil]
     exact gw6 Y0
   ·rintro _ _
    have q1:=jW (n:=A.length + 1) (by omega)
    have q2:=jZ (n:=A.length + 1) (c:=56) (by omega) (by omega)
    have hml:(A.map fun s => eS0 (rootS s)).length = A.length:=List.length_map _
    refine gw85 (kk 59) (Y3 q1 q2 hml) ?_
    exact gw86
end Go.Proofs.YtedgfkpfhonlpaaGreat
namespace Go.Proofs.YtedgfkpfhonlpaaGreat
open Go.RowKit
section
variable {α:Type} (f g:α→List (List D)) (n:α→Int)
def e3 (x:α):List D:=[.sl 1 (f x),.sl 1 (g x),.int (n x)]
def e3T (q:α × (List Nat × List Nat)):List D:=[.tag q.2.1 (.sl 1 (f q.1)),.tag q.2.2 (.sl 1 (g q.1)),.int (n q.1)]
def bl3 (q:α × (List Nat × List Nat)):List Nat:=q.2.1 ++ q.2.2
theorem tag_mk3:∀ (zs:List (α × (List Nat × List Nat))),TagL ((zs.map (·.1)).map (e3 f g n)) (zs.map (e3T f g n)) ((zs.map bl3).flatten)
 | [] => ⟨rfl,rfl⟩
 | z :: zs => ⟨_,_,bl3 z,_,rfl,rfl,⟨_,_,z.2.1,z.2.2,rfl,rfl,.inl rfl,⟨_,_,z.2.2,[],rfl,(List.append_nil _).symm,.inl rfl,⟨_,[],[],[],rfl,rfl,.inr ⟨rfl,rfl,rfl⟩,rfl,rfl⟩⟩⟩,tag_mk3 zs⟩
theorem tag_rows3:∀ {L:List α} {xs':List (List D)} {F:List Nat},TagL (L.map (e3 f g n)) xs' F→PlainL (L.map (e3 f g n)) xs'→∃ zs:List (α × (List Nat × List Nat)),L = zs.map (·.1)∧xs' = zs.map (e3T f g n)∧F = (zs.map bl3).flatten
 | [],xs',F,⟨h1,h2⟩,_ => ⟨[],rfl,h1,h2⟩
 | p :: L,xs',F,⟨y,ys,G,H,h1,h2,h3,h4⟩,⟨y',ys',p1,p2,p3⟩ => by
  obtain ⟨e1,e2⟩:y = y'∧ys = ys':=by rw [h1] at p1;simpa using p1
  subst e1;subst e2
  obtain ⟨zs,e1,e2,e3'⟩:=tag_rows3 h4 p3
  obtain ⟨y0,ys0,G0,H0,k1,k2,k3,y1,ys1,G1,H1,k4,k5,k6,y2,ys2,G2,H2,m4,m5,m6,m7,m8⟩:=h3
  obtain ⟨x0,xs0,a1,_,x1,xs1,a2,_,x2,xs2,a3,a4,_⟩:=p2
  obtain ⟨b1,b2⟩:y0 = x0∧ys0 = xs0:=by rw [k1] at a1;simpa using a1
  subst b1;subst b2
  obtain ⟨b1,b2⟩:y1 = x1∧ys1 = xs1:=by rw [k4] at a2;simpa using a2
  subst b1;subst b2
  obtain ⟨b1,b2⟩:y2 = x2∧ys2 = xs2:=by rw [m4] at a3;simpa using a3
  subst b1;subst b2
  have hy2:=a4 rfl
  subst m7;subst m8
  have hG2:G2 = []:=by
   rcases m6 with m6|⟨_,_,m6⟩
   ·rw [m6] at hy2;cases hy2
   ·exact m6
  subst hG2;subst hy2
  rcases k3 with rfl|⟨k3,_⟩
  ·rcases k6 with rfl|⟨k6,_⟩
   ·exact ⟨(p,(G0,G1)) :: zs,by rw [e1];rfl,by rw [h1,k1,k4,m4,e2];rfl,by rw [h2,k2,k5,m5,e3'];simp [bl3]⟩
   ·cases k6
  ·cases k3
end
abbrev Cu:=(List (List Int) × List Int) × Int
def eCu:Cu→List D:=e3 (fun c:Cu => c.1.1.map eL) (fun c => c.1.2.map eI) (·.2)
def cutS (z:Spl × Int):Cu:=((z.1.1,z.1.2.headD []),z.2)
def cutsL (t:List Int):List Cu:=(gathS (split t)).map cutS
section
variable {P:Program} {cfg:Cfg} {M:Nat→Prop} {ops:Array Oper} {s:St} {w0:W0} {w:World} {Ok:Nat→Prop} {N:Nat} {σ:Asg} {a:Act} {fs:List Fr} {Q:Exit→St→Prop}
theorem qW.nilA {l:List Oper} {Q:St→Prop} {r k:Nat} {pre post:List AC} (hk:0 < k) (hr:look r s.regs = some (.agg (pre ++ .nil :: post)))
  (h:qW P cfg M ops l Q ⟨insR r (.agg (pre ++ .val (.tag [] (.sl k [])) :: post)) s.regs,s.heap⟩):qW P cfg M ops l Q s:=by
 intro w0 Ok σ a w Q' hM hS hQ
 refine h w0 Ok σ a w Q' hM ⟨hS.below,hS.ok1,hS.ok2,hS.defers,hS.size,fun q av hq => ?_,hS.rows,hS.disj,hS.inv,hS.hid⟩ hQ
 rw [jU] at hq
 by_cases e:r = q
 ·rw [if_pos e] at hq
  subst e
  cases hq
  obtain ⟨us,hv1,hv2⟩:=hS.regs r _ hr
  refine ⟨us,hv1,relCs_repl hv2 (fun v _ hn => ?_)⟩
  have hn:v = .slice none 0 0:=hn
  subst hn
  exact kW.2 ⟨by simp,kS.2 ⟨none,[],[],Row.nil _ k,ownR.nil hk,rfl⟩⟩
 ·rw [if_neg e] at hq
  exact hS.regs q av hq
theorem qW.openR {l:List Oper} {Q:St→Prop} {r k:Nat} {G:List Nat} {xs:List (List D)} (hr:look r s.regs = some (.c (.val (.tag G (.sl k xs)))))
  (h:∀ xs' F,TagL xs xs' F→PlainL xs xs'→F.Sublist G→qW P cfg M ops l Q ⟨insR r (.c (.val (.sl k xs'))) s.regs,s.heap⟩):qW P cfg M ops l Q s:=by
 intro w0 Ok σ a w Q' hM hS hQ
 obtain ⟨xs',F,h1,h2,h3,h4⟩:=hS.openR hr
 exact h xs' F h1 h2 h3 w0 Ok σ a w Q' hM h4 hQ
end
theorem tag_one {t:List Int} {xs':List (List D)} {F:List Nat} (h:TagL [[.sl 1 (t.map eI)]] xs' F):xs' = [[.tag F (.sl 1 (t.map eI))]]:=by
 obtain ⟨y,ys,G,H,h1,h2,⟨y0,ys0,G0,H0,k1,k2,k3,k4,k5⟩,h3,h4⟩:=h
 subst h3;subst h4;subst k4;subst k5
 rcases k3 with rfl|⟨k3,_⟩
 ·rw [h1,k1,h2,k2];simp
 ·cases k3
theorem split_trunk (t:List Int) (h:qZ t):∀ s ∈ split t,s.2.length ≤ 1:=fun s hs => by
 rw [wK h] at hs
 rcases List.mem_append.1 hs with hs|hs
 ·obtain ⟨a,_,rfl⟩:=List.mem_map.1 hs
  exact Nat.le_refl _
 ·obtain rfl:=List.mem_singleton.1 hs
  exact Nat.zero_le _
theorem jL0 (t:List Int) (h:qZ t):∀ z ∈ gathS (split t),z.1.2.length ≤ 1:=fun z hz => by
 obtain ⟨s,hs,e⟩:=List.mem_map.1 ((yY (split t)).key z hz)
 rw [← e]
 show (sortC cmpT s.2).length ≤ 1
 rw [wN];exact split_trunk t h s hs
theorem a_cutsOf (t:List Int) (h:qZ t) (hl:t.length ≤ 8):AFn Tryz.prog 58 [eL t] (· = [.own 3 ((cutsL t).map eCu) true]):=by
 have hsp:=xO0 8 (Nat.le_refl _) t h hl
 have hlen:(split t).length ≤ 256:=by
  have h1:=kX _ (Nat.le_refl _) h
  have h2:2 ^ t.length ≤ 2 ^ 8:=Nat.pow_le_pow_right (by decide) hl
  omega
 have hga:=a_gathered (split t) (by omega) (fun s hs => ((xI _ (Nat.le_refl _) h s hs).ha (by omega)).sm)
 have hgl:(gathS (split t)).length ≤ 256:=by have:=(yY (split t)).len;rw [List.length_map] at this;omega
 have htr:=jL0 t h
 obtain ⟨L,hL⟩:∃ L,L = gathS (split t):=⟨_,rfl⟩
 have hcl:cutsL t = L.map cutS:=by rw [hL];rfl
 rw [hcl]
 rw [← hL] at hga hgl htr
 simp only [eL] at hsp
 refine AFn.of_runs (qX 36) Tryz.func58 rfl rfl rfl gz ?_
 have hres:Tryz.f58.results.toList = [.tmp 2]:=rfl
 have hrts:Tryz.f58.resultTypes.toList = [29]:=rfl
 simp only [qU,qT,eL,eI,eLL,eB,Nat.zero_add,Nat.reduceAdd]
 intro M
 refine qJ.of ?_
 refine gw87 (kk 13) ?_
 refine qJ.tag' 10 (k:=3) (xs:=L.map eSp) rfl ?_
 intro xs' F ht hpl hnd hF
 obtain ⟨zs,e1,e2,e3'⟩:=tag_rows3 _ _ _ ht hpl
 subst e2;subst e3'
 have hzl:zs.length = L.length:=by rw [e1,List.length_map]
 refine qJ.loop (β:=Nat × List (Cu × (List Nat × List Nat))) (γ:=List (Cu × (List Nat × List Nat))) (fun x => ⟨[(3,.c (.own 3 x.2.length)),(10,.c (.own 10 L.length)),(11,.c (.val (.int L.length))),(12,.c (.val (.int x.1)))],[(3,.row 3 (x.2.map (e3T (fun c:Cu => c.1.1.map eL) (fun c => c.1.2.map eI) (·.2))) false),(10,.row 3 (zs.map (e3T (fun z:Spl × Int => z.1.1.map eL) (fun z => z.1.2.map eL) (·.2))) false)]⟩)
  (fun x => x.1 ≤ L.length∧x.2.map (fun q => q.1) = (L.take x.1).map cutS∧((x.2.map bl3).flatten).Sublist ((zs.take x.1).map bl3).flatten) (fun x => L.length - x.1)
  (fun qs => ⟨[(3,.c (.own 3 qs.length))],[(3,.row 3 (qs.map (e3T (fun c:Cu => c.1.1.map eL) (fun c => c.1.2.map eI) (·.2))) false)]⟩) (fun qs => qs.map (fun q => q.1) = L.map cutS∧((qs.map bl3).flatten).Sublist (zs.map bl3).flatten) (0,[]) ⟨Nat.zero_le _,rfl,List.Sublist.refl _⟩ ?_ ?_ ?_
 ·exact gw69
 ·rintro ⟨i,qs⟩ ⟨hi,hq,hsub⟩
  simp only at hi hq hsub ⊢
  have hw:=qD (n:=i) (by omega)
  have hqn:qs.length = i:=by
   have:=congrArg List.length hq
   rw [List.length_map,List.length_map,List.length_take] at this;omega
  have hzm:(zs.map (e3T (fun z:Spl × Int => z.1.1.map eL) (fun z => z.1.2.map eL) (·.2))).length = L.length:=by rw [List.length_map,hzl]
  by_cases hiL:i < L.length
  ·have hiz:i < zs.length:=by omega
   have i1:((i:Int) < (L.length:Int)) = True:=eq_true (by omega)
   have i2:((0:Int) ≤ (i:Int)) = True:=eq_true (by omega)
   obtain ⟨z,hz⟩:∃ z,z = zs[i]:=⟨_,rfl⟩
   have hLi:L[i] = z.1:=by simp only [e1,List.getElem_map,hz]
   have hg:(zs.map (e3T (fun z:Spl × Int => z.1.1.map eL) (fun z => z.1.2.map eL) (·.2)))[i]? = some (e3T (fun z:Spl × Int => z.1.1.map eL) (fun z => z.1.2.map eL) (·.2) z):=by rw [qE hiz,hz]
   have hone:=htr L[i] (List.getElem_mem _)
   have htkz:(zs.take (i + 1)).map bl3 = (zs.take i).map bl3 ++ [bl3 z]:=by rw [List.take_succ_eq_append_getElem hiz,List.map_append,← hz];rfl
   have htkL:(L.take (i + 1)).map cutS = (L.take i).map cutS ++ [cutS z.1]:=by rw [List.take_succ_eq_append_getElem hiL,List.map_append,hLi];rfl
   rw [hLi] at hone
   obtain ⟨⟨⟨f,g⟩,n⟩,⟨F,G⟩⟩:=z
   simp only [e3T] at hg
   simp only at hone
   have q1:=jW (n:=qs.length + 1) (by omega)
   have q2:=jZ (n:=qs.length + 1) (c:=56) (by omega) (by omega)
   match g,hone with
   | [],_ =>
    have j1:((([]:List (List Int)).length:Int) > 0) = False:=eq_false (by simp)
    ((refine gw88 (kk 13) i1 ?_);with_reducible (apply QS (qX 36) Tab.none;refine QW ?_;simp only [Zg,Zi,seval,i1];rfl);(refine gw88 (kk 13) i1 ?_))
    ((refine gw89 (kk 13) (Y4 i1 i2 hg hzm) ?_);with_reducible (apply QS (qX 36) Tab.none;refine QW ?_;simp only [Zg,Zi,seval,i1,i2,hg,hzm,Int.toNat_natCast];rfl);(refine gw89 (kk 13) (Y4 i1 i2 hg hzm) ?_))
    refine qJ.regCut (qX 36) Tab.none 5 (s1:=?_) ?_ ?_
    rotate_left 1
    focus (refine Work.mk ?_;simp only [Zg,Zi,seval];with_reducible rfl)
    simp only [List.toList_toArray,List.drop_succ_cons,List.drop_zero]
    refine qW.nilA (r:=20) (k:=1) (pre:=[.val (.tag F (.sl 1 (f.map eL)))]) (post:=[.val (.int n)]) (by decide) rfl ?_
    refine qW.opsT (qX 36) (T:=Tab.none) (s':=?_) ?_ ?_
    rotate_left 1
    focus (simp only [Zg,Zi,seval];with_reducible rfl)
    refine gw90 (kk 13) (Y4 j1 hw q1 q2) ?_
    refine qY.on (i + 1,qs ++ [(((f,[]),n),(F,[]))]) ⟨⟨hiL,?_,?_⟩,by show L.length - (i + 1) < L.length - i;omega⟩ ?_
    ·show List.map (fun q:Cu × (List Nat × List Nat) => q.1) (qs ++ [(((f,[]),n),(F,[]))]) = _
     rw [List.map_append,hq,htkL];rfl
    ·show (((qs ++ [(((f,[]),n),(F,[]))]).map bl3).flatten).Sublist _
     rw [htkz,List.map_append,List.flatten_append,List.flatten_append]
     refine List.Sublist.append hsub ?_
     simp [bl3]
    ·exact gw91
   | [tr],_ =>
    have j1:((([tr]:List (List Int)).length:Int) > 0) = True:=eq_true (by simp)
    ((refine gw88 (kk 13) i1 ?_);with_reducible (apply QS (qX 36) Tab.none;refine QW ?_;simp only [Zg,Zi,seval,i1];rfl);(refine gw88 (kk 13) i1 ?_))
    ((refine gw89 (kk 13) (Y4 i1 i2 hg hzm) ?_);with_reducible (apply QS (qX 36) Tab.none;refine QW ?_;simp only [Zg,Zi,seval,i1,i2,hg,hzm,Int.toNat_natCast];rfl);(refine gw89 (kk 13) (Y4 i1 i2 hg hzm) ?_))
    ((refine gw88 (kk 13) Y0 ?_);with_reducible (apply QS (qX 36) Tab.none;refine QW ?_;simp only [Zg,Zi,seval];rfl);(refine gw88 (kk 13) Y0 ?_))
    ((refine gw92 (kk 13) j1 ?_);with_reducible (apply QS (qX 36) Tab.none;refine QW ?_;simp only [Zg,Zi,seval,j1,List.length_map];rfl);(refine gw92 (kk 13) j1 ?_))
    refine qJ.regCut (qX 36) Tab.none 2 (s1:=?_) ?_ ?_
    rotate_left 1
    focus (refine Work.mk ?_;simp only [Zg,Zi,seval];with_reducible rfl)
    simp only [List.toList_toArray,List.drop_succ_cons,List.drop_zero]
    refine qW.openR (r:=26) (k:=1) (G:=G) (xs:=[tr].map eL) rfl ?_
    intro ys G' ht1 _ hG'
    have hys:=tag_one ht1
    subst hys
    refine qW.opsT (qX 36) (T:=Tab.none) (s':=?_) ?_ ?_
    rotate_left 1
    focus (simp only [Zg,Zi,seval,List.length_map];with_reducible rfl)
    refine gw5 (kk 13) (Y3 hw q1 q2) ?_
    refine qY.on (i + 1,qs ++ [(((f,tr),n),(F,G'))]) ⟨⟨hiL,?_,?_⟩,by show L.length - (i + 1) < L.length - i;omega⟩ ?_
    ·show List.map (fun q:Cu × (List Nat × List Nat) => q.1) (qs ++ [(((f,tr),n),(F,G'))]) = _
     rw [List.map_append,hq,htkL];rfl
    ·show (((qs ++ [(((f,tr),n),(F,G'))]).map bl3).flatten).Sublist _
     rw [htkz,List.map_append,List.flatten_append,List.flatten_append]
     refine List.Sublist.append hsub ?_
     simp only [bl3,List.map_cons,List.map_nil,List.flatten_cons,List.flatten_nil,List.append_nil]
     exact List.Sublist.append (List.Sublist.refl _) hG'
    ·exact gw91
  ·have i1:((i:Int) < (L.length:Int)) = False:=eq_false (by omega)
   obtain rfl:i = L.length:=by omega
   rw [List.take_length] at hq
   rw [← hzl,List.take_length] at hsub
   refine gw7 (kk 13) i1 ?_
   refine qY.out qs ⟨hq,hsub⟩ ?_
   exact gw6 Y0
 ·rintro qs ⟨hq,hsub⟩
  refine gw7 (kk 13) Y0 ?_
  refine Ends.un (by simp) hres hrts (r:=?_) (r':=.own 3 ((L.map cutS).map eCu) true) (l:=[]) (ks:=?_) ?_ ?_ (by simp) ?_ rfl
  rotate_left 2
  focus (simp only [jI,ares,Zg,Zi,seval];with_reducible rfl)
  focus simp
  rw [← hq]
  exact ⟨(qs.map bl3).flatten,hnd.sublist hsub,fun b hb => hF b (hsub.subset hb),.inl ⟨3,_,_,rfl,rfl,tag_mk3 _ _ _ qs⟩⟩
end Go.Proofs.YtedgfkpfhonlpaaGreat
namespace Go.Proofs.YtedgfkpfhonlpaaGreat
open Go.RowKit
theorem a_l05Cuts (t:List Int) (h:qZ t) (hc:canon t = t) (hl:t.length ≤ 8):AFn Tryz.prog 138 [eL t] (· = [.own 3 ((cutsL t).map eCu) false]):=by
 have htr:=a_l05Tree 8 (Nat.le_refl _) t h hc hl
 have hone:=jL0 t h
 have hgood:=kI (xI _ (Nat.le_refl _) h)
 have hgl:(gathS (split t)).length ≤ 256:=by
  have h0:=(yY (split t)).len
  rw [List.length_map] at h0
  have h1:=kX _ (Nat.le_refl _) h
  have h2:2 ^ t.length ≤ 2 ^ 8:=Nat.pow_le_pow_right (by decide) hl
  omega
 obtain ⟨L,hL⟩:∃ L,L = gathS (split t):=⟨_,rfl⟩
 have hcl:cutsL t = L.map cutS:=by rw [hL];rfl
 rw [hcl]
 rw [← hL] at htr hone hgood hgl
 simp only [eL] at htr
 have hLm:(L.map eSp).length = L.length:=List.length_map _
 refine AFn.of_runs (qX 49) Tryz.func138 rfl rfl rfl gz ?_
 have hres:Tryz.f138.results.toList = [.tmp 2]:=rfl
 have hrts:Tryz.f138.resultTypes.toList = [29]:=rfl
 simp only [qU,qT,eL,eI,eLL,eB,Nat.zero_add,Nat.reduceAdd]
 intro M
 refine qJ.of ?_
 refine gw93 (kk 7) ?_
 refine qJ.loop (β:=Nat) (γ:=Unit) (fun i => ⟨[(3,.c (.val (.sl 3 (L.map eSp)))),(4,.c (.own 4 i)),(5,.c (.val (.int i)))],[(4,.row 3 (((L.take i).map cutS).map eCu) false)]⟩) (fun i => i ≤ L.length) (fun i => L.length - i)
  (fun _ => ⟨[(4,.c (.own 4 L.length))],[(4,.row 3 ((L.map cutS).map eCu) false)]⟩) (fun _ => True) 0 (Nat.zero_le _) ?_ ?_ ?_
 ·exact gw37 Y0
 ·intro i hi
  have hi:i ≤ L.length:=hi
  have hw:=qD (n:=i) (by omega)
  have hrl:(((L.take i).map cutS).map eCu).length = i:=by rw [List.length_map,List.length_map,List.length_take];omega
  by_cases hiL:i < L.length
  ·have i1:((i:Int) < (L.length:Int)) = True:=eq_true (by omega)
   have i2:((0:Int) ≤ (i:Int)) = True:=eq_true (by omega)
   obtain ⟨z,hz⟩:∃ z,z = L[i]:=⟨_,rfl⟩
   have hg:(L.map eSp)[i]? = some [.sl 1 (z.1.1.map eL),.sl 1 (z.1.2.map eL),.int z.2]:=by rw [qE hiL,hz];rfl
   have htk:((L.take (i + 1)).map cutS).map eCu = ((L.take i).map cutS).map eCu ++ [eCu (cutS z)]:=by
    rw [hz,List.take_succ_eq_append_getElem hiL,List.map_append,List.map_append];rfl
   have hz1:=hone L[i] (List.getElem_mem _)
   have hz2:=(hgood L[i] (List.getElem_mem _)).2.2
   rw [← hz] at hz1 hz2
   have hha:=hz2.ha (by omega)
   have how:=AFn.val1 (yT0 z.1.1 (by have:=hha.1.1;omega) (fun b hb => by have:=jK hb;have:=hha.1.2;omega))
   have q1:=jW (n:=i + 1) (by omega)
   have q2:=jZ (n:=i + 1) (c:=56) (by omega) (by omega)
   obtain ⟨⟨f,g⟩,n⟩:=z
   simp only at hg hz1 how hha
   simp only [eLL] at how
   match g,hz1 with
   | [],_ =>
    have j1:((([]:List (List Int)).length:Int) > 0) = False:=eq_false (by simp)
    refine gw94 (kk 7) (Y9 i1 i2 j1 hg hLm hw hrl q1 q2) ?_
    refine qY.on (i + 1) ⟨hiL,by omega⟩ ?_
    rw [htk]
    exact gw95
   | [tr],_ =>
    have j1:((([tr]:List (List Int)).length:Int) > 0) = True:=eq_true (by simp)
    have hot:=AFn.valT (a_l01Own tr (by have h6:qQ [tr] ≤ 50:=hha.2.2;have h5:qQ [tr] = tr.length + 0:=rfl;omega))
    simp only [eL] at hot
    refine gw96 (kk 7) (Y9 i1 i2 j1 hg hLm hw hrl q1 q2) ?_
    refine qY.on (i + 1) ⟨hiL,by omega⟩ ?_
    rw [htk]
    exact gw97
  ·have i1:((i:Int) < (L.length:Int)) = False:=eq_false (by omega)
   obtain rfl:i = L.length:=by omega
   refine gw29 (kk 7) (Yp i1 hLm) ?_
   refine qY.out () trivial ?_
   rw [List.take_length]
   exact gw6 Y0
 ·rintro _ _
  refine gw29 (kk 7) Y0 ?_
  exact gw8
end Go.Proofs.YtedgfkpfhonlpaaGreat
namespace Go.Proofs.YtedgfkpfhonlpaaGreat
open Go.RowKit
def brOf (t:List Int):List (List Int) × Int:=if lev8 t = true then (forest (brs (canon t)),0) else ([],1)
end Go.Proofs.YtedgfkpfhonlpaaGreat
namespace Go.Proofs.YtedgfkpfhonlpaaGreat
open Go.RowKit
section
variable {κ:Type} {c:κ→κ→Int} (hc:Cmp c)
include hc
end
def wF (F:Spl→Int) (f:List (List Int)):Int:=((prodS (f.map split)).map fun s => F (nrmS s)).sum
theorem sum_perm {l m:List Int} (h:l.Perm m):l.sum = m.sum:=by
 induction h with
 | nil => rfl
 | cons q _ ih => rw [List.sum_cons,List.sum_cons,ih]
 | swap p q L => simp only [List.sum_cons];omega
 | trans _ _ h1 h2 => rw [h1,h2]
theorem exp_lin {κ:Type} (F:κ→Int):∀ (L:List (κ × Int)),(∀ z ∈ L,1 ≤ z.2)→((expN L).map F).sum = (L.map fun z => z.2 * F z.1).sum
 | [],_ => rfl
 | z :: L,h => by
  have hz:=h z (by simp)
  rw [yK,List.map_append,List.map_replicate,List.map_cons,List.sum_cons,← exp_lin F L fun q hq => h q (by simp [hq])]
  have e:∀ (n:Nat) (x:Int) (l:List Int),(List.replicate n x ++ l).sum = n * x + l.sum:=by
   intro n x l
   induction n with
   | zero => simp
   | succ n ih => rw [List.replicate_succ,List.cons_append,List.sum_cons,ih,Int.natCast_succ,Int.add_mul];omega
  rw [e,Int.toNat_of_nonneg (by omega)]
theorem gath_lin (F:Spl→Int) (L:List Spl):((gathS L).map fun z => z.2 * F z.1).sum = (L.map fun s => F (nrmS s)).sum:=by
 rw [← exp_lin F _ (yY L).1.2,sum_perm ((yY L).2.map F),List.map_map]
 rfl
theorem lin_copP (F:Spl→Int) (p:Int × List (List Int)):Eqm (lin F (copP p)) (p.1 * wF F p.2):=by
 unfold wF copP
 rw [← gath_lin F]
 generalize gathS (prodS (p.2.map split)) = G
 induction G with
 | nil => simp [lin];exact Eqm.refl _
 | cons z G ih =>
  rw [List.map_cons,jP,List.map_cons,List.sum_cons,Int.mul_add]
  refine Eqm.add ?_ ih
  have h:=(eqm_mP (p.1 * z.2)).mulR (F z.1)
  rw [Int.mul_assoc] at h
  exact h
theorem lin_copM (F:Spl→Int):∀ (e:Elt),Eqm (lin F (copM e)) (lin (wF F) e)
 | [] => Eqm.refl _
 | p :: e => by
  have e1:copM (p :: e) = copP p ++ copM e:=by unfold copM;rw [List.flatMap_cons]
  rw [e1,jJ0,jP]
  exact (lin_copP F p).add (lin_copM F e)
def rtF (f:List (List Int)):List (List Int):=[canon (qB f)]
theorem wR (F:Spl→Int) {f:List (List Int)} (h:∀ b ∈ f,qZ b):wF F (rtF f) = wF (fun s => F (rootS s)) f + F (rtF f,[]):=by
 have hl:=vU h
 have e1:prodS ((rtF f).map split) = split (canon (qB f)):=by
  show List.flatMap (fun s => (split (canon (qB f))).map (catS s)) [([],[])] = _
  rw [List.flatMap_cons,List.flatMap_nil,List.append_nil]
  have:catS (([],[]):Spl) = id:=by funext s;rfl
  rw [this,List.map_id]
 unfold wF
 rw [e1]
 have hp:=(split_canon _ (Nat.le_refl _) hl).map F
 rw [List.map_map,List.map_map] at hp
 have hp2:=sum_perm hp
 show ((split (canon (qB f))).map (F ∘ nrmS)).sum = _
 rw [hp2,wK hl,wP h,List.map_append,List.sum_append,List.map_map]
 have e2:((prodS (f.map split)).map ((F ∘ nrmS) ∘ fun s => (s.1,[canon (qB s.2)]))) = (prodS (f.map split)).map fun s => F (rootS (nrmS s)):=by
  refine List.map_congr_left fun s hs => ?_
  show F (nrmS (rootS s)) = _
  rw [nrm_root (qM0 h s hs)]
 rw [e2]
 congr 1
 show F (nrmS ([canon (qB f)],[])) + 0 = _
 rw [Int.add_zero];rfl
def OkF (g:List (List Int)):Prop:=(∀ t ∈ g,qZ t∧canon t = t)∧g.Pairwise fun a b => cmpT a b ≤ 0
theorem okF_of {f:List (List Int)} (h:forB f = true):OkF f:=⟨fun t ht => ⟨vZ h t ht,forB_can h t ht⟩,(xU h).2.2⟩
theorem copP_key {p:Int × List (List Int)} (h:forB p.2 = true) {q:Int × Spl} (hq:q ∈ copP p):OkF q.2.1∧OkF q.2.2∧qQ q.2.1 + qQ q.2.2 ≤ 8:=by
 unfold copP at hq
 obtain ⟨z,hz,rfl⟩:=List.mem_map.1 hq
 obtain ⟨_,_,k⟩:=kI (kD (vZ h)) z hz
 obtain ⟨s,hs,e⟩:=List.mem_map.1 ((yY _).key z hz)
 have h8:=(xU h).1
 have e1:z.1.1 = sortC cmpT s.1:=by rw [← e];rfl
 have e2:z.1.2 = sortC cmpT s.2:=by rw [← e];rfl
 refine ⟨⟨fun t ht => k.1 t (by simp only [List.mem_append];exact .inl ht),?_⟩,⟨fun t ht => k.1 t (by simp only [List.mem_append];exact .inr ht),?_⟩,by have:=k.2;simp only;omega⟩
 ·simp only;rw [e1];exact kK yF _
 ·simp only;rw [e2];exact kK yF _
theorem cop_key {e:Elt} (h:elB e = true) {q:Int × Spl} (hq:q ∈ sumS cmpTe (copM e)):OkF q.2.1∧OkF q.2.2∧qQ q.2.1 + qQ q.2.2 ≤ 8:=by
 obtain ⟨p,hp,e1⟩:=kR hq
 unfold copM at hp
 obtain ⟨r,hr,hp⟩:=List.mem_flatMap.1 hp
 rw [← e1]
 exact copP_key ((yE h).2.2.2 r hr) hp
structure KoF (e:Elt) (list:List (Int × Spl)) (r:Elt) (whole:List (Int × Spl)):Prop where
 rl:r.length = e.length
 wl:whole.length = list.length + r.length
 all:∀ w ∈ whole,(w.2.2 = []∧∃ q ∈ r,q.1 = w.1∧q.2 = w.2.1) ∨ (∃ T,w.2.2 = [T]∧lev8 T = true∧∃ q ∈ list,q.1 = w.1∧q.2.1 = w.2.1∧q.2.2 = (brOf T).1)
theorem cop_case {e:Elt} (h:elB e = true):copOf e = (sumS cmpTe (copM e),0) ∨ copOf e = ([],3):=by
 unfold copOf
 rw [if_pos h]
 split
 ·exact .inl rfl
 ·exact .inr rfl
end Go.Proofs.YtedgfkpfhonlpaaGreat

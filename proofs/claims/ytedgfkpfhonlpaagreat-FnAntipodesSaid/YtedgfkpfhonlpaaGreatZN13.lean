/- Lemmas (13). -/
import Derived.Ground.SlsfProg
import Derived.Lib.AppendZeros
import Derived.Lib.FrozenHead
import Derived.Lib.OthersKept
import Derived.Shelf.SlSortCmp.NoneTotal
import Derived.Shelf.SlSortCmp.WholeK
import Derived.Test.YtedgfkpfhonlpaaGreatZN0
import Derived.Test.YtedgfkpfhonlpaaGreatZN4
import Derived.Test.YtedgfkpfhonlpaaGreatZN5
import Derived.Test.YtedgfkpfhonlpaaGreatZN6
import Derived.Test.YtedgfkpfhonlpaaGreatZN7
import Derived.Test.YtedgfkpfhonlpaaGreatZN8
import Derived.Test.YtedgfkpfhonlpaaGreatZN9
import Derived.Test.YtedgfkpfhonlpaaGreatZN10
import Derived.Test.YtedgfkpfhonlpaaGreatZN11
import Derived.Test.YtedgfkpfhonlpaaGreatZN12
set_option maxHeartbeats 16000000
set_option maxRecDepth 100000
set_option linter.unusedSimpArgs false
set_option linter.unusedVariables false
namespace Go.Proofs
open Go.Shelf
def Tryz.sortPt_ren:Go.Shelf.Ren:=⟨fun|6 => 150|15 => 160|14 => 200|28 => 212|29 => 213|20 => 233|21 => 234|22 => 235|23 => 236|24 => 237|25 => 238|26 => 239|27 => 240|46 => 266|47 => 251|48 => 252|49 => 267|50 => 268|57 => 277|n => n,fun|22 => 50|24 => 71|25 => 161|3 => 3|39 => 137|0 => 0|53 => 214|55 => 28|4 => 4|46 => 208|45 => 207|50 => 185|5 => 5|9 => 9|66 => 236|70 => 240|76 => 252|77 => 253|n => n,fun|n => n⟩
theorem Tryz.sortPt:Go.Proofs.SlLaysF0.n6 Tryz.prog Tryz.sortPt_ren:={
 mixed:=by kernel_rfl
 f6:=⟨Tryz.f150.name,by decide,Tryz.func150.trans (congrArg some (by kernel_rfl))⟩
 f14:=⟨Tryz.f200.name,by decide,Tryz.func200.trans (congrArg some (by kernel_rfl))⟩
 f15:=Tryz.func160.trans (congrArg some (by kernel_rfl))
 f20:=⟨Tryz.f233.name,by decide,Tryz.func233.trans (congrArg some (by kernel_rfl))⟩
 f21:=⟨Tryz.f234.name,by decide,Tryz.func234.trans (congrArg some (by kernel_rfl))⟩
 f22:=⟨Tryz.f235.name,by decide,Tryz.func235.trans (congrArg some (by kernel_rfl))⟩
 f23:=⟨Tryz.f236.name,by decide,Tryz.func236.trans (congrArg some (by kernel_rfl))⟩
 f24:=⟨Tryz.f237.name,by decide,Tryz.func237.trans (congrArg some (by kernel_rfl))⟩
 f25:=⟨Tryz.f238.name,by decide,Tryz.func238.trans (congrArg some (by kernel_rfl))⟩
 f26:=⟨Tryz.f239.name,by decide,Tryz.func239.trans (congrArg some (by kernel_rfl))⟩
 f27:=⟨Tryz.f240.name,by decide,Tryz.func240.trans (congrArg some (by kernel_rfl))⟩
 f28:=Tryz.func212.trans (congrArg some (by kernel_rfl))
 f29:=Tryz.func213.trans (congrArg some (by kernel_rfl))
 f46:=⟨Tryz.f266.name,by decide,Tryz.func266.trans (congrArg some (by kernel_rfl))⟩
 f47:=Tryz.func251.trans (congrArg some (by kernel_rfl))
 f48:=Tryz.func252.trans (congrArg some (by kernel_rfl))
 f49:=⟨Tryz.f267.name,by decide,Tryz.func267.trans (congrArg some (by kernel_rfl))⟩
 f50:=⟨Tryz.f268.name,by decide,Tryz.func268.trans (congrArg some (by kernel_rfl))⟩
 f57:=⟨Tryz.f277.name,by decide,Tryz.func277.trans (congrArg some (by kernel_rfl))⟩
 t0:=Tryz.underlying0
 a0:=Tryz.isAgg0
 z0:=Tryz.sizeOf0
 v0:=Tryz.zeroValue0
 t3:=Tryz.underlying3
 a3:=Tryz.isAgg3
 z3:=Tryz.sizeOf3
 v3:=Tryz.zeroValue3
 t4:=Tryz.underlying4
 a4:=Tryz.isAgg4
 z4:=Tryz.sizeOf4
 v4:=Tryz.zeroValue4
 t5:=Tryz.underlying5
 a5:=Tryz.isAgg5
 z5:=Tryz.sizeOf5
 v5:=Tryz.zeroValue5
 t9:=Tryz.underlying9
 a9:=Tryz.isAgg9
 z9:=Tryz.sizeOf9
 v9:=Tryz.zeroValue9
 t22:=Tryz.underlying50
 a22:=Tryz.isAgg50
 z22:=Tryz.sizeOf50
 v22:=Tryz.zeroValue50
 t25:=Tryz.underlying161
 a25:=Tryz.isAgg161
 z25:=Tryz.sizeOf161
 v25:=Tryz.zeroValue161
 t39:=Tryz.underlying137
 a39:=Tryz.isAgg137
 z39:=Tryz.sizeOf137
 v39:=Tryz.zeroValue137
 t45:=Tryz.underlying207
 a45:=Tryz.isAgg207
 z45:=Tryz.sizeOf207
 v45:=Tryz.zeroValue207
 t46:=Tryz.underlying208
 a46:=Tryz.isAgg208
 z46:=Tryz.sizeOf208
 v46:=Tryz.zeroValue208
 t50:=Tryz.underlying185
 a50:=Tryz.isAgg185
 z50:=Tryz.sizeOf185
 v50:=Tryz.zeroValue185
 t53:=Tryz.underlying214
 a53:=Tryz.isAgg214
 z53:=Tryz.sizeOf214
 v53:=Tryz.zeroValue214
 t55:=Tryz.underlying28
 a55:=Tryz.isAgg28
 z55:=Tryz.sizeOf28
 v55:=Tryz.zeroValue28
 t66:=Tryz.underlying236
 a66:=Tryz.isAgg236
 z66:=Tryz.sizeOf236
 v66:=Tryz.zeroValue236
 t70:=Tryz.underlying240
 a70:=Tryz.isAgg240
 z70:=Tryz.sizeOf240
 v70:=Tryz.zeroValue240
 t76:=Tryz.underlying252
 a76:=Tryz.isAgg252
 z76:=Tryz.sizeOf252
 v76:=Tryz.zeroValue252
 t77:=Tryz.underlying253
 a77:=Tryz.isAgg253
 z77:=Tryz.sizeOf253
 v77:=Tryz.zeroValue253 }
end Go.Proofs
namespace Go.Proofs.YtedgfkpfhonlpaaGreat
open Go.RowKit
section
theorem flatMap_get {α β:Type} (enc:α→List β) (k:Nat) (hk:∀ x,(enc x).length = k) (hp:0 < k):∀ (l:List α) (t:Nat),(l.flatMap enc)[t]? = (l[t / k]?).bind fun x => (enc x)[t % k]?
 | [],t => by simp
 | x :: l,t => by
  rw [List.flatMap_cons]
  by_cases h:t < k
  ·rw [List.getElem?_append_left (by rw [hk];exact h),Nat.div_eq_of_lt h,Nat.mod_eq_of_lt h];rfl
  ·rw [List.getElem?_append_right (by rw [hk];omega),hk,flatMap_get enc k hk hp l (t - k)]
   have e1:t / k = (t - k) / k + 1:=by rw [Nat.div_eq_sub_div hp (by omega)]
   have e2:t % k = (t - k) % k:=Nat.mod_eq_sub_mod (by omega)
   rw [e1,e2,List.getElem?_cons_succ]
theorem flatK_list {α:Type} [Inhabited α] (enc:α→List Value) (k:Nat) (hk:∀ x,(enc x).length = k) (hp:0 < k) (d:Array α):(Go.Sort.flatK enc k d).toList = d.toList.flatMap enc:=by
 have hl:∀ (l:List α),(l.flatMap enc).length = l.length * k:=by
  intro l
  induction l with
  | nil => simp
  | cons x l ih => rw [List.flatMap_cons,List.length_append,hk,ih,List.length_cons,Nat.succ_mul];omega
 refine List.ext_getElem? fun t => ?_
 by_cases h:t < d.size * k
 ·have hs:t < (Go.Sort.flatK enc k d).toList.length:=by simpa using h
  have hq:t / k < d.size:=Nat.div_lt_of_lt_mul (by rw [Nat.mul_comm];exact h)
  rw [flatMap_get enc k hk hp,List.getElem?_eq_getElem hs]
  have e1:=Go.Sort.get_flatK enc k d t h
  rw [getElem!_pos (Go.Sort.flatK enc k d) t (by simpa using h),getElem!_pos d (t / k) hq] at e1
  have hm:t % k < (enc d[t / k]).length:=by rw [hk];exact Nat.mod_lt _ hp
  rw [getElem!_pos (enc d[t / k]) (t % k) hm] at e1
  rw [List.getElem?_eq_getElem (by simpa using hq),Option.bind_some]
  simp only [Array.getElem_toList]
  rw [List.getElem?_eq_getElem hm,e1]
 ·rw [List.getElem?_eq_none (by simpa using h),List.getElem?_eq_none (by rw [hl];simpa using h)]
section
variable {α:Type} [Inhabited α] (enc:α→List Value) (k:Nat) (w:World) (blk m:Nat) (dk:Array α) (os:Array Go.Obj)
theorem sw_block {b:Nat} (hne:b ≠ blk) (hb:b < w.heap.size):(sortWorldK enc k w blk 0 m dk os).heap[b]? = w.heap[b]?:=by
 show ((w.heap.modify blk _) ++ os)[b]? = _
 rw [Array.getElem?_append_left (by simpa using hb),Array.getElem?_modify,if_neg (fun e => hne e.symm)]
theorem sw_size:w.heap.size ≤ (sortWorldK enc k w blk 0 m dk os).heap.size:=by
 show _ ≤ ((w.heap.modify blk _) ++ os).size
 simp
theorem sw_row {n cap:Nat} {ds:List Value} (h:Row w (slv (some blk) n cap) k n ds (some blk)) (hs:dk.size = n) (hlt:blk < w.heap.size) :
  Row (sortWorldK enc k w blk 0 m dk os) (slv (some blk) n cap) k n (Go.Sort.flatK enc k dk).toList (some blk):=by
 obtain ⟨h0,h⟩:=h
 rcases h with ⟨_,_,h⟩|⟨g,cap',cur,e,hv,hg,hh,hc1,hc2,hc3,hc4⟩
 ·cases h
 ·cases hg
  refine ⟨by simp [hs],.inr ⟨blk,cap',Sort.putCells id 0 (Go.Sort.flatK enc k dk) cur,e,hv,rfl,?_,hc1,hc2,by simpa [Sort.putCells] using hc3,?_⟩⟩
  ·show ((w.heap.modify blk _) ++ os)[blk]? = _
   rw [Array.getElem?_append_left (by simpa using hlt),Array.getElem?_modify,if_pos rfl,hh]
   rfl
  ·have hle:n * k ≤ cap' * k:=Nat.mul_le_mul_right k hc1
   refine List.ext_getElem? fun t => ?_
   by_cases ht:t < n * k
   ·rw [List.getElem?_take_of_lt ht,List.getElem?_eq_getElem (by simp [Sort.putCells];omega),List.getElem?_eq_getElem (by simp [hs];omega)]
    simp only [Array.getElem_toList,Sort.putCells,Array.getElem_mapIdx,id]
    rw [if_pos ⟨Nat.zero_le _,by simp [hs];omega⟩,Nat.sub_zero,getElem!_pos _ t (by simp [hs];omega)]
   ·rw [List.getElem?_eq_none (by simp;omega),List.getElem?_eq_none (by simp [hs];omega)]
end
abbrev PtC (A:Nat→Prop) (w:World):Type:={ x:(Int × Value) × List (List Int) // qH x.1.1∧(RS (RS RI)).rd A w [x.1.2] x.2∧qQ x.2 ≤ 1000000 }
instance (A:Nat→Prop) (w:World):Inhabited (PtC A w):=⟨⟨((0,.slice none 0 0),[]),by show qH 0;unfold qH;omega,⟨none,0,[],rfl,Nat.le_refl _,by decide,fun _ => rfl,rfl,.inl rfl⟩,by simp [qQ]⟩⟩
def PtC.enc {A:Nat→Prop} {w:World} (x:PtC A w):List Value:=[.int .i64 x.1.1.1,x.1.1.2]
def PtC.el {A:Nat→Prop} {w:World} (x:PtC A w):Int × List (List Int):=(x.1.1.1,x.1.2)
theorem ptc_of {A:Nat→Prop} {w:World}:∀ {zs:List (Int × List (List Int))} {ds:List Value},rdL RPart A w ds zs→(∀ z ∈ zs,qQ z.2 ≤ 1000000)→∃ xs:List (PtC A w),ds = xs.flatMap PtC.enc∧zs = xs.map PtC.el
 | [],_,h,_ => ⟨[],h,rfl⟩
 | z :: zs,_,h,hz => by
  obtain ⟨c,d,e,⟨c1,c2,rfl,⟨rfl,hb⟩,hs⟩,h2⟩:=h
  obtain ⟨xs,e1,e2⟩:=ptc_of h2 (fun z hz' => hz z (by simp [hz']))
  have hl:=(RS (RS RI)).rd_len hs
  match c2,hl with
  | [s],_ =>
   have hzz:=hz z (by simp)
   exact ⟨⟨((z.1,s),z.2),hb,hs,hzz⟩ :: xs,by rw [e,e1];rfl,congrArg (z :: ·) e2⟩
theorem ptc_to {A:Nat→Prop} {w w':World} (hf:∀ b,A b→w'.heap[b]? = w.heap[b]?):∀ (xs:List (PtC A w)),rdL RPart A w' (xs.flatMap PtC.enc) (xs.map PtC.el)
 | [] => rfl
 | x :: xs => ⟨_,_,rfl,⟨[.int .i64 x.1.1.1],[x.1.1.2],rfl,⟨rfl,x.2.1⟩,(RS (RS RI)).rd_frame x.2.2.1 (fun b hb _ => hf b hb)⟩,ptc_to hf xs⟩
theorem swo_cmpF {A:Nat→Prop} {w:World}:Go.Sort.SWO (ltOf fun x y:PtC A w => cmpF x.1.2 y.1.2) where
 irrefl x:=decide_eq_false (by show ¬ cmpF x.1.2 x.1.2 < 0;rw [jV.refl];omega)
 trans x y z h1 h2:=decide_eq_true (by
  have h1:cmpF x.1.2 y.1.2 < 0:=of_decide_eq_true h1
  have h2:cmpF y.1.2 z.1.2 < 0:=of_decide_eq_true h2
  exact jV.lt_tr h1 h2)
 ntrans x y z h1 h2:=decide_eq_false (by
  have h1:¬ cmpF x.1.2 y.1.2 < 0:=of_decide_eq_false h1
  have h2:¬ cmpF y.1.2 z.1.2 < 0:=of_decide_eq_false h2
  show ¬ cmpF x.1.2 z.1.2 < 0
  intro h
  have a1:=jV.anti x.1.2 y.1.2
  have a2:=jV.anti y.1.2 z.1.2
  have:=jV.trans z.1.2 y.1.2 x.1.2 (by omega) (by omega)
  have a3:=jV.anti x.1.2 z.1.2
  omega)
theorem aggPt (w:World):(isAgg 71).run Tryz.prog w = .ok true w:=by
 simp [isAgg,run_underlying Tryz.underlying71]
theorem sizePt (w:World):(Go.sizeOf 71).run Tryz.prog w = .ok 2 w:=by
 obtain ⟨_,⟨i,hi,_,hs,_⟩,_,_⟩:=tPartI
 simp [Go.sizeOf,typeInfo,hi,hs]
theorem c_SortPart (g:Nat) (eg:∀ args w,(callFunc g args).run Tryz.prog w = .ok (.enter g args) w)
  (hcmp:∀ (W:World) (a b:Int) (u v:Value) (f h:List (List Int)),Rd (RS (RS RI)) W [u] f→Rd (RS (RS RI)) W [v] h→qQ f ≤ 1000000→qQ h ≤ 1000000 →
   Calls Tryz.prog g #[.agg #[.int .i64 a,u],.agg #[.int .i64 b,v]] W fun e w' => e = .returned (.int .i64 (cmpF f h))∧∃ q os',w' = Sort.grow (W.drewN q) os')
  {A:Nat→Prop} {w:World} {og:Option Nat} {cap:Nat} {ds:List Value} {zs:List (Int × List (List Int))} (hA:∀ b,A b→b < w.heap.size) (hog:∀ b,og = some b→¬ A b)
  (hrow:Row w (slv og zs.length cap) 2 zs.length ds og) (hrd:rdL RPart A w ds zs) (hsz:∀ z ∈ zs,qQ z.2 ≤ 1000000) (hn:zs.length ≤ 1000000000) :
  Calls Tryz.prog 150 #[slv og zs.length cap,.func (.func g) #[] #[]] w fun e w' => e = .returned (.tuple #[])∧∃ zs',zs'.Perm zs∧zs'.Pairwise (fun a b => cmpF a.2 b.2 ≤ 0) ∧
   (∃ ds',Row w' (slv og zs.length cap) 2 zs.length ds' og∧rdL RPart A w' ds' zs')∧Bel ⟨w,fun b => og = some b⟩ w':=by
 cases og with
 | none =>
  have h0:=hrow.len0
  have hz:zs = []:=List.eq_nil_of_length_eq_zero h0
  subst hz
  refine (AnyF.slices_SortFunc_none Tryz.sortPt none 0 _ w).mono ?_
  rintro e w' ⟨rfl,rfl⟩
  exact ⟨rfl,[],List.Perm.refl _,List.Pairwise.nil,⟨ds,hrow,hrd⟩,rfl,rfl,rfl,Nat.le_refl _,fun _ _ _ _ => rfl⟩
 | some blk =>
  obtain ⟨xs,e1,e2⟩:=ptc_of hrd hsz
  have hlen:xs.toArray.size = zs.length:=by rw [e2];simp
  have hlt:=hrow.lt blk rfl
  have hH:Go.Sort.HoldsK PtC.enc 2 w blk 0 xs.toArray:=fun j hj => by
   rw [Nat.zero_add]
   refine ⟨?_,hrow.frozen j⟩
   have hf:=flatK_list (PtC.enc (A:=A) (w:=w)) 2 (fun _ => rfl) (by decide) xs.toArray
   rw [List.toList_toArray] at hf
   rw [getElem!_pos _ j hj]
   refine hrow.cells j _ ?_
   rw [e1,← hf,List.getElem?_eq_getElem (by simpa using hj)]
   simp
  have hC:CmpLays Tryz.prog g #[] PtC.enc 2 (fun x y:PtC A w => cmpF x.1.2 y.1.2) blk 0 xs.toArray.size w:=fun m os dk _ x y => by
   have hfr:∀ {v:Value} {f:List (List Int)},(RS (RS RI)).rd A w [v] f→Rd (RS (RS RI)) (sortWorldK PtC.enc 2 w blk 0 m dk os) [v] f:=fun {v f} h =>
    Rd.of ((RS (RS RI)).rd_frame h (fun b hb hl => sw_block PtC.enc 2 w blk m dk os (fun e => hog b (by rw [e]) hb) hl))
   exact hcmp _ _ _ _ _ _ _ (hfr x.2.2.1) (hfr y.2.2.1) x.2.2.2 y.2.2.2
  have hs:=AnyQ.slices_SortFunc Tryz.sortPt 2 aggPt sizePt PtC.enc (fun _ => rfl) (fun x v hv => by
   simp [PtC.enc] at hv
   rcases hv with rfl|rfl
   ·rfl
   ·exact (RS (RS RI)).rd_one x.2.2.1 _ (by simp)) (fun x y:PtC A w => cmpF x.1.2 y.1.2) swo_cmpF g #[] blk 0 cap xs.toArray w eg hC hH hlt (by rw [hlen];omega)
  rw [hlen] at hs
  refine hs.mono ?_
  rintro e w' ⟨rfl,d',n,os,⟨hp1,_,hp3⟩,hsd,rfl⟩
  have hd:d'.size = zs.length:=by rw [hp1,hlen]
  refine ⟨rfl,d'.toList.map PtC.el,?_,?_,⟨_,sw_row PtC.enc 2 w blk n d' os hrow hd hlt,?_⟩,rfl,rfl,rfl,sw_size PtC.enc 2 w blk n d' os,fun b hb hne _ => sw_block PtC.enc 2 w blk n d' os (fun e => hne (by rw [e])) hb⟩
  ·rw [e2]
   refine List.Perm.map _ ?_
   rw [← hlen] at hp3
   rw [show d'.extract 0 xs.toArray.size = d' by rw [← hp1];simp,show xs.toArray.extract 0 xs.toArray.size = xs.toArray by simp,List.toList_toArray] at hp3
   exact hp3
  ·rw [List.pairwise_iff_getElem]
   intro i j hi hj hij
   have hi':i < d'.size:=by simpa using hi
   have hj':j < d'.size:=by simpa using hj
   have h1:=hsd i j (Nat.zero_le _) hij (by omega)
   rw [getElem!_pos d' i hi',getElem!_pos d' j hj'] at h1
   have h1:¬ cmpF d'[j].1.2 d'[i].1.2 < 0:=of_decide_eq_false h1
   have h2:=jV.anti d'[j].1.2 d'[i].1.2
   simp only [List.getElem_map,Array.getElem_toList,PtC.el]
   omega
  ·rw [flatK_list PtC.enc 2 (fun _ => rfl) (by decide)]
   exact ptc_to (fun b hb => sw_block PtC.enc 2 w blk n d' os (fun e => hog b (by rw [e]) hb) (hA b hb)) d'.toList
theorem encPt:Enc RPart ePt:=encP encI (encS (encS encI))
theorem a_SortPart (g:Nat) (eg:∀ args w,(callFunc g args).run Tryz.prog w = .ok (.enter g args) w)
  (hcmp:∀ (W:World) (a b:Int) (u v:Value) (f h:List (List Int)),Rd (RS (RS RI)) W [u] f→Rd (RS (RS RI)) W [v] h→qQ f ≤ 1000000→qQ h ≤ 1000000 →
   Calls Tryz.prog g #[.agg #[.int .i64 a,u],.agg #[.int .i64 b,v]] W fun e w' => e = .returned (.int .i64 (cmpF f h))∧∃ q os',w' = Sort.grow (W.drewN q) os')
  (zs:List (Int × List (List Int))) (hsz:∀ z ∈ zs,qQ z.2 ≤ 1000000) (hn:zs.length ≤ 1000000000) :
  AEf Tryz.prog 150 false [] 2 (zs.map ePt) [[.raw (.func (.func g) #[] #[])]] (fun rs oc => rs = []∧∃ zs':List (Int × List (List Int)),oc = some (zs'.map ePt)∧zs'.Perm zs∧zs'.Pairwise (fun a b => cmpF a.2 b.2 ≤ 0)):=by
 refine ⟨enters_of Tryz.func150 rfl rfl,fun A w vs us og cap ds hA hv hu hrow hk hel hog => ?_⟩
 have hv:vs = []:=hv
 subst hv
 obtain ⟨u,us',rfl,hu1,hu2⟩:=hu
 have hu2:us' = []:=hu2
 subst hu2
 have hu1:u = .func (.func g) #[] #[]:=(yJ.1 hu1).1
 subst hu1
 rw [List.length_map] at hrow
 obtain ⟨d,hk',hel⟩:=hel
 have hrd:rdL RPart A w ds zs:=enc_rdL_of encPt hel
 have hs:=c_SortPart g eg hcmp hA hog hrow hrd hsz hn
 rw [← List.length_map (f:=ePt)] at hs
 refine Calls.mono hs ?_
 rintro e w' ⟨rfl,zs',hp,hso,⟨ds',hrow',hrd'⟩,hb⟩
 obtain ⟨d',hd'⟩:=enc_rdL encPt hrd'
 have hl:(zs'.map ePt).length = (zs.map ePt).length:=by rw [List.length_map,List.length_map,hp.length_eq]
 refine ⟨.tuple #[],[],some (zs'.map ePt),rfl,⟨rfl,zs',rfl,hp,hso⟩,hb,⟨[],[],[],rfl,List.nodup_nil,by simp,rfl,rfl,rfl⟩,⟨ds',?_,d',by decide,hd'⟩,fun ys e => by cases e;exact hl⟩
 rw [hl]
 exact hrow'
end
section
theorem c_summed1 (W:World) (a b:Int) (u v:Value) (f h:List (List Int)) (h1:Rd (RS (RS RI)) W [u] f) (h2:Rd (RS (RS RI)) W [v] h) (s1:qQ f ≤ 1000000) (s2:qQ h ≤ 1000000) :
  Calls Tryz.prog 151 #[.agg #[.int .i64 a,u],.agg #[.int .i64 b,v]] W fun e w' => e = .returned (.int .i64 (cmpF f h))∧∃ q os',w' = Sort.grow (W.drewN q) os':=by
 obtain ⟨o1,c1,rfl,_,_⟩:=h1.val
 obtain ⟨o2,c2,rfl,_,_⟩:=h2.val
 have b1:Below W.heap.size W (W.alloc (.cells #[.int .i64 a,.slice o1 f.length c1] 71)):=(Below.refl _ _).alloc (Nat.le_refl _) _
 have b2:Below W.heap.size W ((W.alloc (.cells #[.int .i64 a,.slice o1 f.length c1] 71)).alloc (.cells #[.int .i64 b,.slice o2 h.length c2] 71)):=b1.alloc (by simp) _
 have hc:=jF0 _ _ f h _ (h1.below b2 (Nat.le_refl _)) (h2.below b2 (Nat.le_refl _)) (by omega) (by omega)
 have HC:=Lib.hid hc
 clear hc b1 b2 h1 h2
 go_enter Tryz.func151,Tryz.ntmps151
 go_wp2_with (go_at_call 87;refine HC.out.mono ?_;rintro e w' ⟨rfl,rfl⟩)
 go_ret
 exact ⟨rfl,0,_,by rw [Sort.alloc_eq_grow,Sort.alloc_eq_grow,Sort.grow_grow];rfl⟩
theorem e_summed1:∀ args w,(callFunc 151 args).run Tryz.prog w = .ok (.enter 151 args) w:=enters_of Tryz.func151 rfl rfl
theorem a_sortPt (zs:List (Int × List (List Int))) (hsz:∀ z ∈ zs,qQ z.2 ≤ 1000000) (hn:zs.length ≤ 1000000000) :
  AEf Tryz.prog 150 false [] 2 (zs.map ePt) [[.raw (.func (.func 151) #[] #[])]] (fun rs oc => rs = []∧∃ zs':List (Int × List (List Int)),oc = some (zs'.map ePt)∧zs'.Perm zs∧zs'.Pairwise (fun a b => cmpF a.2 b.2 ≤ 0)) :=
 a_SortPart 151 e_summed1 c_summed1 zs hsz hn
theorem row_slv {w:World} {v:Value} {k n:Nat} {ds:List Value} {og:Option Nat} (h:Row w v k n ds og):∃ c,v = slv og n c:=by
 obtain ⟨oa,c,ev,k1,k2,k3,k4⟩:=h.value
 refine ⟨c,?_⟩
 cases og with
 | none =>
  have h0:=h.len0
  have hoa:oa = none:=k4
  rw [ev,hoa,h0,k3 hoa];rfl
 | some g => rw [ev,k4];rfl
def CloneQ (A:Nat→Prop) (zs:List (Int × List (List Int))) (w:World):Ending→World→Prop:=fun e w' =>
 ∃ og cap ds,e = .returned (slv og zs.length cap)∧Row w' (slv og zs.length cap) 2 zs.length ds og∧(∀ b,og = some b→w.heap.size ≤ b)∧Below w.heap.size w w'∧rdL RPart A w ds zs
theorem c_ClonePt (v:Value) (zs:List (Int × List (List Int))) (w:World) (A:Nat→Prop) (hA:∀ b,A b→b < w.heap.size) (h:(RS RPart).rd A w [v] zs) (hsz:zs.length ≤ 1000000) :
  Calls Tryz.prog 149 #[v] w (CloneQ A zs w):=by
 obtain ⟨oa,cap,ds,hv,h2,h3,h4,h5,h6⟩:=h
 simp only [List.cons.injEq,and_true] at hv
 subst hv
 unfold maxLen at h3
 have q22:∀ (w:World) (a:Option Addr) (n c n' c':Nat),(binOp .eql 50 (.slice a n c) (.slice none n' c')).run Tryz.prog w = .ok (.bool a.isNone) w:=fun w a n c n' c' => Lib.run_eql_slice_nil w _ _ a n c n' c' tPartI.ht
 cases oa with
 | none =>
  have hc:=h4 rfl
  have hz:zs = []:=List.eq_nil_of_length_eq_zero (by omega)
  subst hz;subst hc
  go_enter Tryz.func149,Tryz.ntmps149
  go_wp2_with fail
  go_ret
  exact ⟨none,0,[],rfl,Row.nil _ 2,fun b hb => (by cases hb),Below.refl _ _,rfl⟩
 | some ad =>
  have hlen:=h5.len
  have hk2:RPart.k = 2:=rfl
  rw [hk2] at hlen
  have hcell:∀ a,(some ad:Option Addr) = some a→∀ j u,ds[j]? = some u→(w.alloc (.cells #[] 71)).cell? (a.add j) = some u:=by
   intro a ha j u hj
   cases ha
   rcases h6 with h6|⟨b,off,e,hb,hc⟩
   ·rw [h6] at hj;simp at hj
   ·cases e
    have:=hc j u hj
    rw [Addr.add_lit]
    rw [World.cell?_alloc_lt _ _ _ (hA b hb)]
    exact this
  have hrow:=Row.lit w #[] 71 2 0 (by decide) (by simp)
  have HR:=Lib.hid hrow
  have HC:=Lib.hid hcell
  have H1:=Lib.hid h5
  clear hrow hcell h5 h6
  go_enter Tryz.func149,Tryz.ntmps149
  go_wp2_with (at_builtin;refine yP (o:=⟨some 7,_,_,_,_,_⟩) ?_)
  refine jA.go ?_
  refine xD rfl _ _ 50 rfl 71 (.agg #[.int .i64 0,.slice none 0 0]) 2 32 tPartI (.slice (some ⟨w.heap.size,0,none⟩) 0 0) 0 [] (some w.heap.size) rfl (by simpa using HR.out) (some ad) zs.length cap ds rfl hlen (fun h => by cases h) HC.out H1.out.one (by omega) (by unfold maxLen;omega) ?_
  intro v' w' og' happ
  rw [Nat.zero_add,List.nil_append] at happ
  have hlow:=happ.low (B:=w.heap.size) (by simp) (fun g hg => by cases hg;exact Nat.le_refl _)
  have hbel:Below w.heap.size w w':=((Below.refl w.heap.size w).alloc (Nat.le_refl _) (.cells #[] 71)).trans hlow.2
  obtain ⟨c',rfl⟩:=row_slv happ.1
  have HH:Hid (Row w' (slv og' zs.length c') 2 zs.length ds og'∧(∀ b,og' = some b→w.heap.size ≤ b)):=Lib.hid ⟨happ.1,hlow.1⟩
  obtain ⟨V,hV⟩:∃ V,V = slv og' zs.length c':=⟨_,rfl⟩
  rw [← hV]
  have HV:=Lib.hid hV
  clear happ hlow hV
  go_wp2_with fail
  go_ret
  exact ⟨og',c',ds,by (rw [HV.out] <;> rfl),HH.out.1,HH.out.2,hbel,H1.out⟩
theorem a_ClonePt (zs:List (Int × List (List Int))) (hsz:zs.length ≤ 1000000):AFn Tryz.prog 149 [[.sl 2 (zs.map ePt)]] (· = [.own 2 (zs.map ePt) false]):=by
 refine ⟨enters_of Tryz.func149 rfl rfl,fun A w vs hA ⟨v1,_,e1,h1,e2⟩ => ?_⟩
 subst e2;subst e1
 have hr:(RS RPart).rd A w [v1] zs:=((encS encPt).rdV (x:=zs) rfl).2 h1
 refine (c_ClonePt v1 zs w A hA hr hsz).mono ?_
 rintro e w' ⟨og,cap,ds,rfl,hrow,hnew,hb,hrd⟩
 have hrd':rdL RPart (fun b => (A b ∨ w.heap.size ≤ b)∧b ∉ og.toList) w' ds zs:=by
  refine (hrd.frame (fun b hb' _ => hb.block b (hA b hb'))).mono (fun b hb' _ => ⟨.inl hb',fun hm => ?_⟩)
  have h1:=hA b hb'
  have h2:=hnew b (by simpa using hm)
  omega
 obtain ⟨d,hd⟩:=enc_rdL encPt hrd'
 refine ⟨_,_,rfl,rfl,hb,[_],og.toList ++ [],og.toList,rfl,by cases og <;> simp,fun b hb' => hnew b (by simpa using hb'),_,[],og.toList ++ [],[],og.toList,[],rfl,by simp,by simp,by cases og <;> rfl,?_,rfl,rfl,rfl⟩
 exact ⟨og,cap,[],ds,by rw [List.length_map] <;> (cases og <;> rfl),by rw [List.length_map];exact hrow,by decide,rfl,rfl,d,by decide,hd⟩
end
section
def ePtT (z:(Int × List (List Int)) × List Nat):List D:=[.int z.1.1,.tag z.2 (.sl 1 (z.1.2.map eL))]
theorem tag_mkP:∀ (zs:List ((Int × List (List Int)) × List Nat)),TagL ((zs.map (·.1)).map ePt) (zs.map ePtT) ((zs.map (·.2)).flatten)
 | [] => ⟨rfl,rfl⟩
 | z :: zs => ⟨_,_,z.2,_,rfl,rfl,⟨.int z.1.1,[.tag z.2 (.sl 1 (z.1.2.map eL))],[],z.2,rfl,rfl,.inr ⟨rfl,rfl,rfl⟩,⟨_,[],z.2,[],rfl,(List.append_nil _).symm,.inl rfl,rfl,rfl⟩⟩,tag_mkP zs⟩
theorem tag_rowsP:∀ {L:List (Int × List (List Int))} {xs':List (List D)} {F:List Nat},TagL (L.map ePt) xs' F→PlainL (L.map ePt) xs'→∃ zs:List ((Int × List (List Int)) × List Nat),L = zs.map (·.1)∧xs' = zs.map ePtT∧F = (zs.map (·.2)).flatten
 | [],xs',F,⟨h1,h2⟩,_ => ⟨[],rfl,h1,h2⟩
 | p :: L,xs',F,⟨y,ys,G,H,h1,h2,h3,h4⟩,⟨y',ys',p1,p2,p3⟩ => by
  obtain ⟨e1,e2⟩:y = y'∧ys = ys':=by rw [h1] at p1;simpa using p1
  subst e1;subst e2
  obtain ⟨zs,e1,e2,e3⟩:=tag_rowsP h4 p3
  obtain ⟨y0,ys0,G0,H0,k1,k2,k3,y1,ys1,G1,H1,k4,k5,k6,k7,k8⟩:=h3
  obtain ⟨x0,xs0,p4,p5,_⟩:=p2
  obtain ⟨e4,_⟩:y0 = x0∧ys0 = xs0:=by rw [k1] at p4;simpa using p4
  subst e4
  have hy:=p5 rfl
  subst k7;subst k8
  have hG:G0 = []:=by
   rcases k3 with k3|⟨_,_,k3⟩
   ·rw [k3] at hy;cases hy
   ·exact k3
  subst hG
  subst hy
  rcases k6 with rfl|⟨k6,_⟩
  ·exact ⟨(p,G1) :: zs,by rw [e1];rfl,by rw [h1,k1,k4,e2];rfl,by rw [h2,k2,k5,e3];simp⟩
  ·cases k6
end
section
def stepM {κ:Type} (c:κ→κ→Int) (out:List (Int × κ)) (a:Int) (x:κ):List (Int × κ):=match out.getLast? with
 | some (b,y) => if c y x = 0 then out.dropLast ++ [(mP (b + a),y)] else out ++ [(mP a,x)]
 | none => [(mP a,x)]
theorem stepM_nil {κ:Type} (c:κ→κ→Int) (a:Int) (x:κ):stepM c [] a x = [(mP a,x)]:=rfl
theorem stepM_eq {κ:Type} (c:κ→κ→Int) (out:List (Int × κ)) (b:Int) (y:κ) (a:Int) (x:κ) (h:c y x = 0):stepM c (out ++ [(b,y)]) a x = out ++ [(mP (b + a),y)]:=by
 unfold stepM;simp [h]
theorem stepM_ne {κ:Type} (c:κ→κ→Int) (out:List (Int × κ)) (b:Int) (y:κ) (a:Int) (x:κ) (h:¬ c y x = 0):stepM c (out ++ [(b,y)]) a x = out ++ [(b,y)] ++ [(mP a,x)]:=by
 unfold stepM;simp [h]
theorem xU0 {κ:Type} (c:κ→κ→Int) (a:Int) (x:κ):∀ (M out:List (Int × κ)),jS c out (M ++ [(a,x)]) = stepM c (jS c out M) a x
 | [],out => rfl
 | (b,y) :: M,out => by
  rw [List.cons_append]
  unfold jS
  exact xU0 c a x M _
theorem mergeTo_len {κ:Type} (c:κ→κ→Int):∀ (M out:List (Int × κ)),(jS c out M).length ≤ out.length + M.length
 | [],out => by simp [jS]
 | (a,x) :: M,out => by
  have:=mergeTo_len c M (stepM c out a x)
  show (jS c (stepM c out a x) M).length ≤ _
  have h2:(stepM c out a x).length ≤ out.length + 1:=by
   unfold stepM
   split
   ·rename_i b y e
    split
    ·have:out ≠ []:=by rintro rfl;simp at e
     have:=List.length_pos_iff.2 this
     simp <;> omega
    ·simp
   ·simp
  simp only [List.length_cons];omega
theorem mergeTo_mem {κ:Type} (c:κ→κ→Int):∀ (M out:List (Int × κ)) (z:Int × κ),z ∈ jS c out M→((0 ≤ z.1∧z.1 < 10007)∧∃ q ∈ out ++ M,q.2 = z.2) ∨ z ∈ out
 | [],out,z,h => .inr (by simpa [jS] using h)
 | (a,x) :: M,out,z,h => by
  have hs:∀ z ∈ stepM c out a x,((0 ≤ z.1∧z.1 < 10007)∧(z.2 = x ∨ ∃ q ∈ out,q.2 = z.2)) ∨ z ∈ out:=by
   intro z hz
   unfold stepM at hz
   split at hz
   ·rename_i b y e
    split at hz
    ·rcases List.mem_append.1 hz with hz|hz
     ·exact .inr ((List.dropLast_sublist out).subset hz)
     ·simp at hz;subst hz
      exact .inl ⟨jD _,.inr ⟨(b,y),List.mem_of_getLast? e,rfl⟩⟩
    ·rcases List.mem_append.1 hz with hz|hz
     ·exact .inr hz
     ·simp at hz;subst hz
      exact .inl ⟨jD _,.inl rfl⟩
   ·simp at hz;subst hz
    exact .inl ⟨jD _,.inl rfl⟩
  rcases mergeTo_mem c M (stepM c out a x) z h with ⟨h1,q,hq,h2⟩|h1
  ·rcases List.mem_append.1 hq with hq|hq
   ·rcases hs q hq with ⟨_,h3|⟨q',h4,h5⟩⟩|h3
    ·exact .inl ⟨h1,(a,x),by simp,by rw [← h2,h3]⟩
    ·exact .inl ⟨h1,q',by simp [h4],by rw [h5,h2]⟩
    ·exact .inl ⟨h1,q,by simp [h3],h2⟩
   ·exact .inl ⟨h1,q,by simp [hq],h2⟩
  ·rcases hs z h1 with ⟨h2,h3|⟨q',h4,h5⟩⟩|h3
   ·exact .inl ⟨h2,(a,x),by simp,by rw [h3]⟩
   ·exact .inl ⟨h2,q',by simp [h4],h5⟩
   ·exact .inr h3
theorem a_cloneRows (f:List (List Int)) (hl:f.length ≤ 1000000) (hs:qQ f ≤ 1000000):AFn Tryz.prog 152 [eLL f] (· = [.own 1 (f.map eL) true]) :=
 afn_LLL_oo (enters_of Tryz.func152 rfl rfl) (fun u w h => kC0 u f w h (by omega) (fun b hb => Nat.le_trans (jK hb) (by omega)))
noncomputable def TSm:Tab Tryz.prog :=
 (Tab.none.add 92 (tab1 codI fun n => some [.val (.int (mP n))]) (yA fun n rs h => by cases h;exact a_num n)).add
  152 (tab1 codLL fun f => if f.length ≤ 1000000∧qQ f ≤ 1000000 then some [.own 1 (f.map eL) true] else none) (yA fun f rs h => by split at h;cases h;rename_i hs;exact a_cloneRows f hs.1 hs.2;cases h)
noncomputable def TCf:Tab Tryz.prog :=
 Tab.none.add 87 (tab2 codLL codLL fun f g => if qQ f ≤ 1000000∧qQ g ≤ 1000000 then some [.val (.int (cmpF f g))] else none) (yH fun f g rs h => by split at h;cases h;rename_i hs;exact yQ0 f g (by omega) (by omega);cases h)
theorem a_summed2 (n:Int) (f:List (List Int)):AFn Tryz.prog 154 [[.int n,.sl 1 (f.map eL)]] (· = [.val (.bool (decide (n = 0)))]):=by
 refine AFn.of_runs (qX 6) Tryz.func154 rfl rfl rfl gz ?_
 have hres:Tryz.f154.results.toList = [.tmp 2]:=rfl
 have hrts:Tryz.f154.resultTypes.toList = [4]:=rfl
 simp only [qU,qT,eL,eI,eLL,eB,Nat.zero_add,Nat.reduceAdd]
 intro M
 refine qJ.of ?_
 by_cases h:n = 0
 ·subst h
  rw [decide_eq_true rfl]
  refine gw7 (kk 3) Y0 ?_
  exact gw8
 ·have hb:(n == 0) = false:=beq_eq_false_iff_ne.2 h
  rw [decide_eq_false h]
  refine gw7 (kk 3) hb ?_
  exact gw8
theorem sub_flat3 {α:Type} {l1 l2:List (List α)} (h:l1.Sublist l2):l1.flatten.Sublist l2.flatten:=by
 induction h with
 | slnil => exact .slnil
 | cons a _ ih => rw [List.flatten_cons];exact ih.trans (List.sublist_append_right _ _)
 | cons_cons a _ ih => rw [List.flatten_cons,List.flatten_cons];exact List.Sublist.append (List.Sublist.refl _) ih
theorem a_summed (L:List (Int × List (List Int))) (hl:L.length ≤ 100000) (hz:∀ z ∈ L,(0 ≤ z.1∧z.1 < 10007)∧z.2.length ≤ 1000000∧qQ z.2 ≤ 1000000):AFn Tryz.prog 89 [[.sl 2 (L.map ePt)]] (· = [.own 2 ((sumS cmpF L).map ePt) true]):=by
 have hcl:=a_ClonePt L (by omega)
 have hso:=a_sortPt L (fun z hz' => (hz z hz').2.2) (by omega)
 refine AFn.of_runs (qX 62) Tryz.func89 rfl rfl rfl gz ?_
 have hres:Tryz.f89.results.toList = [.tmp 2]:=rfl
 have hrts:Tryz.f89.resultTypes.toList = [50]:=rfl
 simp only [qU,qT,eL,eI,eLL,eB,Nat.zero_add,Nat.reduceAdd]
 intro M
 refine qJ.of ?_
 refine gw100 (kk 15) ?_
 refine qJ.regCut (qX 62) Tab.none 1 (s1:=?_) ?_ ?_
 rotate_left 1
 focus (refine Work.mk ?_;simp only [Zg,Zi,seval];with_reducible rfl)
 simp only [List.toList_toArray,List.drop_succ_cons,List.drop_zero]
 refine qW.callEf (qX 62) rfl rfl (by decide) rfl rfl (x:=.tmp 9) (xpost:=[.func 151]) rfl rfl (post:=[[.raw (.func (.func 151) #[] #[])]]) ?_ ?_ rfl rfl ?_ hso (R:=fun ys => ∃ zs:List (Int × List (List Int)),ys = zs.map ePt∧zs.Perm L∧zs.Pairwise (fun a b => cmpF a.2 b.2 ≤ 0)) ?_ ?_
 ·simp only [Zg,Zi,seval]
 ·rfl
 ·intro q u hq hu
  rw [look,if_neg (fun e => hq e.symm)] at hu
  cases hu
 ·rintro rs oc ⟨rfl,zs,rfl,h1,h2⟩
  exact ⟨rfl,_,rfl,zs,rfl,h1,h2⟩
 rintro _ ⟨zs,rfl,hperm,hsort⟩
 have hzl:zs.length ≤ 100000:=by rw [hperm.length_eq];exact hl
 have hzz:∀ z ∈ zs,(0 ≤ z.1∧z.1 < 10007)∧z.2.length ≤ 1000000∧qQ z.2 ≤ 1000000:=fun z hz' => hz z (hperm.mem_iff.1 hz')
 refine qW.opsT (qX 62) (T:=Tab.none) (s':=?_) ?_ ?_
 rotate_left 1
 focus (simp only [Zg,Zi,seval,List.length_map];with_reducible rfl)
 refine gw5 (kk 15) Y0 ?_
 obtain ⟨R,hR⟩:∃ R,R = fun i => jS cmpF [] (zs.take i):=⟨_,rfl⟩
 have hRb:∀ i,i ≤ zs.length→(R i).length ≤ 100000∧∀ z ∈ R i,(0 ≤ z.1∧z.1 < 10007)∧z.2.length ≤ 1000000∧qQ z.2 ≤ 1000000:=fun i hi => by
  rw [hR]
  refine ⟨?_,fun z hz' => ?_⟩
  ·have:=mergeTo_len cmpF (zs.take i) []
   simp only [List.length_nil,List.length_take] at this
   show (jS cmpF [] (zs.take i)).length ≤ 100000
   omega
  ·rcases mergeTo_mem cmpF (zs.take i) [] z hz' with ⟨h1,q,hq,h2⟩|h1
   ·have:=hzz q (List.mem_of_mem_take (by simpa using hq))
    rw [← h2]
    exact ⟨h1,this.2⟩
   ·cases h1
 refine qJ.loop (β:=Nat) (γ:=Unit) (fun i => ⟨[(3,.c (.own 3 (R i).length)),(12,.c (.own 0 zs.length)),(13,.c (.val (.int zs.length))),(14,.c (.val (.int i)))],[(0,.row 2 (zs.map ePt) false),(3,.row 2 ((R i).map ePt) true)]⟩) (fun i => i ≤ zs.length) (fun i => zs.length - i)
  (fun _ => ⟨[(3,.c (.own 3 (R zs.length).length))],[(3,.row 2 ((R zs.length).map ePt) true)]⟩) (fun _ => True) 0 (Nat.zero_le _) ?_ ?_ ?_
 ·have e0:R 0 = []:=by rw [hR];rfl
  rw [e0,← hperm.length_eq]
  exact gw101
 ·intro i hi
  have hi:i ≤ zs.length:=hi
  have hw:=qD (n:=i) (by omega)
  obtain ⟨hb1,hb2⟩:=hRb i hi
  by_cases h:i < zs.length
  ·have i1:((i:Int) < (zs.length:Int)) = True:=eq_true (by omega)
   have i2:((0:Int) ≤ (i:Int)) = True:=eq_true (by omega)
   obtain ⟨p,hp⟩:∃ p,p = zs[i]:=⟨_,rfl⟩
   have hg:(zs.map ePt)[i]? = some [.int p.1,.sl 1 (p.2.map eL)]:=by rw [qE h,hp];rfl
   obtain ⟨hp1,hp2,hp3⟩:=hzz zs[i] (List.getElem_mem _)
   rw [← hp] at hp1 hp2 hp3
   have hst:R (i + 1) = stepM cmpF (R i) p.1 p.2:=by
    rw [hR]
    show jS cmpF [] (zs.take (i + 1)) = stepM cmpF (jS cmpF [] (zs.take i)) p.1 p.2
    rw [List.take_succ_eq_append_getElem h,← hp]
    exact xU0 cmpF p.1 p.2 _ _
   have q1:=jW (n:=(R i).length + 1) (by omega)
   have q2:=jZ (n:=(R i).length + 1) (c:=32) (by omega) (by omega)
   have hk1:=eq_true (show p.2.length ≤ 1000000∧qQ p.2 ≤ 1000000 from ⟨hp2,hp3⟩)
   have hpm:=mP_small hp1.1 hp1.2
   by_cases h0:R i = []
   ·rw [h0,stepM_nil] at hst
    have j1:(((0:Nat):Int) > 0) = False:=eq_false (by omega)
    rw [h0] at q1 q2 ⊢
    simp only [List.length_nil] at q1 q2
    refine gw102 (kk 15) (Y8 i1 i2 hg hw j1 q1 q2 hk1) ?_
    refine qY.on (i + 1) ⟨h,by omega⟩ ?_
    rw [hst]
    exact gw103
   ·refine qJ.tag' 3 (k:=2) (xs:=(R i).map ePt) rfl ?_
    intro xs' F ht hpl hnd hF
    obtain ⟨qs,e1,e2,e3⟩:=tag_rowsP ht hpl
    have hqn:qs ≠ []:=by rintro rfl;exact h0 (by rw [e1];rfl)
    obtain ⟨qo,q,eq⟩:=(qG0 qs).resolve_left hqn
    have hlq:(R i).length = qo.length + 1:=by rw [e1,List.length_map,eq];simp
    have hRq:R i = qo.map (·.1) ++ [q.1]:=by rw [e1,eq];simp
    obtain ⟨hz1,hz2,hz3⟩:=hb2 q.1 (by rw [hRq];simp)
    have j1:((((qo.length + 1:Nat)):Int) > 0) = True:=eq_true (by omega)
    have hw1:w64 (((qo.length + 1:Nat):Int) - 1) = ((qo.length:Nat):Int):=by rw [qL (by omega)];omega
    have i3:((0:Int) ≤ ((qo.length:Nat):Int)) = True:=eq_true (by omega)
    have i4:(((qo.length:Nat):Int) < ((qo.length + 1:Nat):Int)) = True:=eq_true (by omega)
    have hgz:xs'[qo.length]? = some [.int q.1.1,.tag q.2 (.sl 1 (q.1.2.map eL))]:=by
     rw [e2,eq,List.map_append,List.getElem?_append_right (by simp)];simp [ePtT]
    have hxl:xs'.length = qo.length + 1:=by rw [e2,eq];simp
    have hgR:((R i).map ePt)[qo.length]? = some [.int q.1.1,.sl 1 (q.1.2.map eL)]:=by
     rw [hRq,List.map_append,List.getElem?_append_right (by simp)];simp [ePt]
    have hlR:((R i).map ePt).length = qo.length + 1:=by rw [List.length_map,hlq]
    have hk2:=eq_true (show qQ q.1.2 ≤ 1000000∧qQ p.2 ≤ 1000000 from ⟨hz3,hp3⟩)
    rw [hlq] at hb1 q1 q2 ⊢
    refine qJ.fits (s0:=⟨[(3,.c (.own 3 (qo.length + 1))),(12,.c (.own 0 zs.length)),(13,.c (.val (.int zs.length))),(14,.c (.val (.int i)))],[(0,.row 2 (zs.map ePt) false),(3,.row 2 xs' false)]⟩) ?_ ?_
    ·exact gw6 Y0
    by_cases he:cmpF q.1.2 p.2 = 0
    ·have hd:(cmpF q.1.2 p.2 == 0) = true:=beq_iff_eq.2 he
     refine gw104 (kk 15) (Y11 i1 i2 i3 i4 hg hgz hxl hw1 hd j1 hk2) ?_
     refine qJ.untag 3 (xs:=(R i).map ePt) rfl ht hnd hF rfl ?_
     refine qJ.fits (s0:=⟨[(3,.c (.own 3 (qo.length + 1))),(5,.optr 5 0 0),(6,.c (.val (.int ((qo.length + 1:Nat):Int)))),(12,.c (.own 0 zs.length)),(13,.c (.val (.int zs.length))),(14,.c (.val (.int i)))],[(0,.row 2 (zs.map ePt) false),(3,.row 2 ((R i).map ePt) true),(5,.row 2 [[.int p.1,.sl 1 (p.2.map eL)]] false)]⟩) ?_ ?_
     ·exact gw6 Y0
     have hwz:=qL (n:=q.1.1 + p.1) (by omega)
     refine gw105 (kk 15) (Y10 i1 i2 i3 i4 hgR hlR hw hw1 hwz hlq) ?_
     have hse:((R i).map ePt).set qo.length [.int (mP (q.1.1 + p.1)),.sl 1 (q.1.2.map eL)] = (R (i + 1)).map ePt:=by
      rw [hst,hRq,stepM_eq cmpF (qo.map (·.1)) q.1.1 q.1.2 p.1 p.2 he,List.map_append,List.set_append_right _ _ (by simp)];simp [ePt]
     refine qY.on (i + 1) ⟨h,by omega⟩ ?_
     have hl2:(R (i + 1)).length = qo.length + 1:=by rw [hst,hRq,stepM_eq cmpF (qo.map (·.1)) q.1.1 q.1.2 p.1 p.2 he];simp
     rw [hl2,← hse]
     exact gw54 Y0
    ·have hd:(cmpF q.1.2 p.2 == 0) = false:=beq_eq_false_iff_ne.2 he
     refine gw104 (kk 15) (Y11 i1 i2 i3 i4 hg hgz hxl hw1 hd j1 hk2) ?_
     refine qJ.untag 3 (xs:=(R i).map ePt) rfl ht hnd hF rfl ?_
     refine qJ.fits (s0:=⟨[(3,.c (.own 3 (qo.length + 1))),(5,.optr 5 0 0),(6,.c (.val (.int ((qo.length + 1:Nat):Int)))),(12,.c (.own 0 zs.length)),(13,.c (.val (.int zs.length))),(14,.c (.val (.int i)))],[(0,.row 2 (zs.map ePt) false),(3,.row 2 ((R i).map ePt) true),(5,.row 2 [[.int p.1,.sl 1 (p.2.map eL)]] false)]⟩) ?_ ?_
     ·exact gw6 Y0
     refine gw105 (kk 15) (Y12 i1 i2 i3 i4 hgR hlR hw hw1 hk1 hlq q1 q2) ?_
     have hR2:R (i + 1) = R i ++ [(mP p.1,p.2)]:=by
      rw [hst,hRq];exact stepM_ne cmpF (qo.map (·.1)) q.1.1 q.1.2 p.1 p.2 he
     refine qY.on (i + 1) ⟨h,by omega⟩ ?_
     rw [hR2,List.length_append,hlq]
     exact gw54 Y0
  ·have i1:((i:Int) < (zs.length:Int)) = False:=eq_false (by omega)
   obtain rfl:i = zs.length:=by omega
   refine gw29 (kk 15) i1 ?_
   refine qY.out () trivial ?_
   exact gw6 Y0
 ·rintro _ _
  refine gw29 (kk 15) Y0 ?_
  refine qJ.tag' 3 (k:=2) (xs:=(R zs.length).map ePt) rfl ?_
  intro xs' F ht hpl hnd hF
  obtain ⟨qs,e1,e2,e3⟩:=tag_rowsP ht hpl
  subst e2
  have hql:(R zs.length).length = qs.length:=by rw [e1,List.length_map]
  have hqb:qs.length ≤ 1000000000:=by rw [← hql];have:=(hRb zs.length (Nat.le_refl _)).1;omega
  have hdel:=a_DeleteFuncPt ePtT (fun z => .tag z.2 (.sl 1 (z.1.2.map eL))) (·.1.1) (·.1.2) (fun z => decide (z.1.1 = 0)) 154 (fun _ => rfl) (fun _ => rfl) (fun z => a_summed2 z.1.1 z.1.2) qs hqb
  rw [hql]
  refine qJ.fits (s0:=⟨[(3,.c (.own 3 qs.length))],[(3,.row 2 (qs.map ePtT) false)]⟩) ?_ ?_
  ·exact gw6 Y0
  refine gw106 (kk 15) ?_
  refine Ends.un (by simp) hres hrts (r:=?_) (r':=.own 2 ((sumS cmpF L).map ePt) true) (l:=[]) (ks:=?_) ?_ ?_ (by simp) ?_ rfl
  rotate_left 2
  focus (simp only [jI,ares,Zg,Zi,seval];with_reducible rfl)
  focus simp
  have hx:(sumS cmpF L).map ePt = ((keepF (fun z:(Int × List (List Int)) × List Nat => decide (z.1.1 = 0)) qs).map (·.1)).map ePt:=by
   rw [← merge_sum jV hperm hsort (fun q hq => (hz q hq).1)]
   have h1:jS cmpF [] zs = qs.map (·.1):=by rw [← e1,hR];show _ = jS cmpF [] (zs.take zs.length);rw [List.take_length]
   rw [h1,List.filter_map]
   rfl
  rw [hx]
  have hsub:(keepF (fun z:(Int × List (List Int)) × List Nat => decide (z.1.1 = 0)) qs).Sublist qs:=List.filter_sublist
  refine ⟨((keepF (fun z:(Int × List (List Int)) × List Nat => decide (z.1.1 = 0)) qs).map (·.2)).flatten,?_,fun b hb => hF b ?_,.inl ⟨2,_,_,rfl,rfl,tag_mkP _⟩⟩
  ·rw [e3] at hnd
   exact hnd.sublist (sub_flat3 (hsub.map _))
  ·rw [e3]
   exact (sub_flat3 (hsub.map _)).subset hb
end
section
theorem vP {e:Elt} (h:elB e = true):OkE e∧e.length ≤ 300∧∀ p ∈ e,p.2.length ≤ 8∧qQ p.2 ≤ 8:=by
 obtain ⟨h1,h2,_,h4⟩:=yE h
 have h5:∀ p ∈ e,p.2.length ≤ 8∧qQ p.2 ≤ 8:=fun p hp => ⟨forB_short (h4 p hp),(xU (h4 p hp)).1⟩
 exact ⟨fun q hq => ⟨h2.2 q hq,by have:=h5 q hq;exact ⟨by omega,by omega⟩⟩,h1,h5⟩
theorem a_multiples (e:Elt) (k:Int) (he:∀ q ∈ e,0 ≤ q.1∧q.1 < 10007) (hk:0 ≤ k∧k < 10007) (hl:e.length ≤ 1000000):AFn Tryz.prog 75 [[.sl 2 (e.map ePt)],eI k] (· = [.own 2 ((e.map fun p => (mP (p.1 * k),p.2)).map ePt) false]):=by
 have hmk:=mP_small hk.1 hk.2
 refine AFn.of_runs (qX 29) Tryz.func75 rfl rfl rfl gz ?_
 have hres:Tryz.f75.results.toList = [.tmp 4]:=rfl
 have hrts:Tryz.f75.resultTypes.toList = [50]:=rfl
 simp only [qU,qT,eL,eI,eLL,eB,Nat.zero_add,Nat.reduceAdd]
 intro M
 refine qJ.of ?_
 refine gw29 (kk 12) Y0 ?_
 refine qJ.loop (β:=Nat) (γ:=Unit) (fun i => ⟨[(1,.c (.val (.int k))),(5,.c (.own 5 i)),(9,.c (.val (.sl 2 (e.map ePt)))),(10,.c (.val (.int e.length))),(11,.c (.val (.int i)))],[(5,.row 2 (((e.take i).map fun p => (mP (p.1 * k),p.2)).map ePt) false)]⟩) (fun i => i ≤ e.length) (fun i => e.length - i)
  (fun _ => ⟨[(5,.c (.own 5 e.length))],[(5,.row 2 ((e.map fun p => (mP (p.1 * k),p.2)).map ePt) false)]⟩) (fun _ => True) 0 (Nat.zero_le _) ?_ ?_ ?_
 ·exact gw107 Y0
 ·intro i hi
  have hi:i ≤ e.length:=hi
  have hw:=qD (n:=i) (by omega)
  by_cases h:i < e.length
  ·have i1:((i:Int) < (e.length:Int)) = True:=eq_true (by omega)
   have i2:((0:Int) ≤ (i:Int)) = True:=eq_true (by omega)
   obtain ⟨z,hz⟩:∃ z,z = e[i]:=⟨_,rfl⟩
   have hz1:=he e[i] (List.getElem_mem _)
   have hg:(e.map ePt)[i]? = some [.int z.1,.sl 1 (z.2.map eL)]:=by rw [qE h,hz];rfl
   rw [← hz] at hz1
   have hlt:(((e.take i).map fun p => (mP (p.1 * k),p.2)).map ePt).length = i:=by rw [List.length_map,List.length_map,List.length_take];omega
   have hle:(e.map ePt).length = e.length:=List.length_map _
   have hb:=yE0 hz1 hk
   have hwm:=qL (n:=z.1 * k) (by omega)
   have q1:=jW (n:=i + 1) (by omega)
   have q2:=jZ (n:=i + 1) (c:=32) (by omega) (by omega)
   have htk:(e.take (i + 1)).map (fun p => (mP (p.1 * k),p.2)) = (e.take i).map (fun p => (mP (p.1 * k),p.2)) ++ [(mP (z.1 * k),z.2)]:=by rw [hz,List.take_succ_eq_append_getElem h,List.map_append];rfl
   refine gw108 (kk 12) (Y10 hmk i1 i2 hg hw hwm q1 q2 hlt hle) ?_
   refine qY.on (i + 1) ⟨h,by omega⟩ ?_
   rw [htk]
   exact gw54 Y0
  ·have i1:((i:Int) < (e.length:Int)) = False:=eq_false (by omega)
   obtain rfl:i = e.length:=by omega
   rw [List.take_length]
   refine gw34 (kk 12) i1 ?_
   refine qY.out () trivial ?_
   exact gw6 Y0
 ·rintro _ _
  refine gw29 (kk 12) Y0 ?_
  exact gw8
end
section
theorem a_ContainsFuncPt {α:Type} (e:α→List D) (d:α→D) (c0:α→Int) (f:α→List (List Int)) (p:α→Bool) (g:FuncId) (he:∀ x,e x = [.int (c0 x),d x]) (hun:∀ x,(d x).un = .sl 1 ((f x).map eL)) (hp:∀ x,AFn Tryz.prog g [[.int (c0 x),.sl 1 ((f x).map eL)]] (· = [.val (.bool (p x))])) (xs:List α) (hl:xs.length ≤ 1000000000) :
  AFn Tryz.prog 141 [[.sl 2 (xs.map e)],[.raw (.func (.func g) #[] #[])]] (· = [.val (.bool (xs.any p))]):=by
 have hidx:=kP0 e d c0 f p g he hun hp xs hl
 rcases hfi:fIdx p xs with _|i0
 ·rw [hfi] at hidx
  have hk:xs.any p = false:=List.any_eq_false.2 (fun x hx => by rw [qB0.1 hfi x hx];decide)
  rw [hk]
  refine AFn.of_runs (qX 9) Tryz.func141 rfl rfl rfl gz ?_
  have hres:Tryz.f141.results.toList = [.tmp 4]:=rfl
  have hrts:Tryz.f141.resultTypes.toList = [4]:=rfl
  simp only [qU,qT,eL,eI,eLL,eB,Nat.zero_add,Nat.reduceAdd]
  intro M
  refine qJ.of ?_
  refine gw99 (kk 5) (show ((-1:Int) ≥ 0) = False from eq_false (by decide)) ?_
  exact gw8
 ·rw [hfi] at hidx
  obtain ⟨hi0,hpi,_⟩:=xQ0 hfi
  have hk:xs.any p = true:=List.any_eq_true.2 ⟨_,List.getElem_mem hi0,hpi⟩
  have i1:((i0:Int) ≥ 0) = True:=eq_true (by omega)
  rw [hk]
  refine AFn.of_runs (qX 9) Tryz.func141 rfl rfl rfl gz ?_
  have hres:Tryz.f141.results.toList = [.tmp 4]:=rfl
  have hrts:Tryz.f141.resultTypes.toList = [4]:=rfl
  simp only [qU,qT,eL,eI,eLL,eB,Nat.zero_add,Nat.reduceAdd]
  intro M
  refine qJ.of ?_
  refine gw99 (kk 5) i1 ?_
  exact gw8
theorem a_limited1 (n:Int) (f:List (List Int)):AFn Tryz.prog 142 [[.int n,.sl 1 (f.map eL)]] (· = [.val (.bool (decide (jF f > 8)))]):=by
 have hn:=a_nodesIn f
 simp only [eLL] at hn
 refine AFn.of_runs (qX 7) Tryz.func142 rfl rfl rfl gz ?_
 have hres:Tryz.f142.results.toList = [.tmp 2]:=rfl
 have hrts:Tryz.f142.resultTypes.toList = [4]:=rfl
 simp only [qU,qT,eL,eI,eLL,eB,Nat.zero_add,Nat.reduceAdd]
 intro M
 refine qJ.of ?_
 by_cases h:jF f > 8
 ·have i1:(jF f > 8) = True:=eq_true h
  rw [decide_eq_true h]
  refine gw109 (kk 3) i1 ?_
  exact gw8
 ·have i1:(jF f > 8) = False:=eq_false h
  rw [decide_eq_false h]
  refine gw109 (kk 3) i1 ?_
  exact gw8
theorem a_limited (L:Elt) (hl:L.length ≤ 100000) (hz:∀ z ∈ L,(0 ≤ z.1∧z.1 < 10007)∧SmF z.2):AFn Tryz.prog 77 [[.sl 2 (L.map ePt)]] (· = [.own 2 ((limS (sumS cmpF L)).1.map ePt) true,.val (.int (limS (sumS cmpF L)).2)]):=by
 have h1:=a_summed L hl (fun z hz' => ⟨(hz z hz').1,by have:=(hz z hz').2.1;omega,by have:=(hz z hz').2.2;omega⟩)
 have hok:OkE (sumS cmpF L):=wU OkE.nil hz
 have hsl:=vI L []
 simp only [List.length_nil] at hsl
 obtain ⟨S,hS⟩:∃ S,S = sumS cmpF L:=⟨_,rfl⟩
 have hsl:S.length ≤ 1000000000:=by rw [hS];show (addS cmpF [] L).length ≤ _;omega
 rw [← hS] at h1 hok ⊢
 have h2:=a_ContainsFuncPt ePt (fun z => .sl 1 (z.2.map eL)) (·.1) (·.2) (fun z => decide (jF z.2 > 8)) 142 (fun _ => rfl) (fun _ => rfl) (fun z => a_limited1 z.1 z.2) S hsl
 have hany:S.any (fun z => decide (jF z.2 > 8)) = !decide (∀ p ∈ S,qQ p.2 ≤ 8):=by
  by_cases h:∀ p ∈ S,qQ p.2 ≤ 8
  ·rw [decide_eq_true h]
   refine List.any_eq_false.2 (fun x hx => ?_)
   have:=h x hx
   rw [kC x.2 (by omega)]
   simp;omega
  ·rw [decide_eq_false h]
   have h':∃ p ∈ S,8 < qQ p.2:=by
    refine Classical.byContradiction fun hn => h fun p hp => ?_
    refine Classical.byContradiction fun hq => hn ⟨p,hp,by omega⟩
   obtain ⟨p,hp,hq⟩:=h'
   refine List.any_eq_true.2 ⟨p,hp,?_⟩
   rw [kC p.2 (by have:=(hok p hp).2.2;omega)]
   exact decide_eq_true (by omega)
 rw [hany] at h2
 unfold limS
 refine AFn.of_runs (qX 15) Tryz.func77 rfl rfl rfl gz ?_
 have hres:Tryz.f77.results.toList = [.tmp 2,.tmp 3]:=rfl
 have hrts:Tryz.f77.resultTypes.toList = [50,2]:=rfl
 simp only [qU,qT,eL,eI,eLL,eB,Nat.zero_add,Nat.reduceAdd]
 intro M
 refine qJ.of ?_
 by_cases hn:S.length ≤ 300
 ·have i1:((S.length:Int) > 300) = False:=eq_false (by omega)
  by_cases h8:∀ p ∈ S,qQ p.2 ≤ 8
  ·rw [if_pos ⟨hn,h8⟩]
   rw [decide_eq_true h8] at h2
   refine gw110 (kk 5) i1 ?_
   exact gw8
  ·rw [if_neg (fun h => h8 h.2)]
   rw [decide_eq_false h8] at h2
   refine gw111 (kk 5) i1 ?_
   exact gw8
 ·have i1:((S.length:Int) > 300) = True:=eq_true (by omega)
  rw [if_neg (fun h => hn h.1)]
  refine gw112 (kk 5) i1 ?_
  exact gw8
end
section
end
section
theorem addS_app (d M N:Elt):addS cmpF d (M ++ N) = addS cmpF (addS cmpF d M) N:=by unfold addS;rw [List.foldl_append]
theorem appE_ok {d e:Elt} (hd:OkE d) (he:OkE e):∀ q ∈ d ++ e,(0 ≤ q.1∧q.1 < 10007)∧SmF q.2:=fun q hq => by
 rcases List.mem_append.1 hq with h|h
 ·exact ⟨⟨by have:=(hd q h).1;omega,(hd q h).1.2⟩,(hd q h).2⟩
 ·exact ⟨⟨by have:=(he q h).1;omega,(he q h).1.2⟩,(he q h).2⟩
theorem c_slicesGrowP (n:Nat) (w:World) (hn:n ≤ 1000000000):Calls Tryz.prog 155 #[.slice none 0 0,.int .i64 n] w (RetO (RS RPart) w []):=by
 by_cases h0:n = 0
 ·subst h0
  go_enter Tryz.func155,Tryz.ntmps155
  go_wp2_with fail
  go_ret
  exact ⟨_,rfl,Own.nil _ _,Below.refl _ _⟩
 ·obtain ⟨ht,⟨i,hi,hz,hsz,hby⟩,_,_⟩:=tPartI
  have hr:=Lib.run_append_nil_zeros (P:=Tryz.prog) w 50 3 50 71 i (.agg #[.int .i64 0,.slice none 0 0]) .i64 .i64 ht Tryz.underlying3 hi hz n (by omega) (by omega) (by omega) (by rw [hby];omega)
  have hge:=grownCap_ge w n 0 71
  have hcm:grownCap w n 0 71 ≤ maxLen:=grownCap_le_maxLen w n 0 71 (by unfold maxLen;omega)
  obtain ⟨cp,hcp⟩:∃ cp,cp = grownCap w n 0 71:=⟨_,rfl⟩
  rw [← hcp] at hr hge hcm
  obtain ⟨cur,hcur⟩:∃ cur,cur = Builtin.zeroCells (Value.agg #[.int .i64 0,.slice none 0 0]).cells n ++ Builtin.zeroCells (Value.agg #[.int .i64 0,.slice none 0 0]).cells (cp - n):=⟨_,rfl⟩
  have hcs:cur.size = cp * 2:=by
   rw [hcur,Array.size_append,size_zeroCells,size_zeroCells]
   show n * 2 + (cp - n) * 2 = cp * 2
   omega
  rw [← hcur] at hr
  have hrow:Row (w.drew.alloc (.cells cur 71)) (.slice (some ⟨w.heap.size,0,none⟩) 0 cp) 2 0 [] (some w.heap.size) :=
   ⟨rfl,.inr ⟨w.heap.size,cp,cur,71,rfl,rfl,Go.heap_alloc_new w.drew _,Nat.zero_le _,hcm,hcs,by simp⟩⟩
  have hown:Own (RS RPart) w.heap.size (w.drew.alloc (.cells cur 71)).heap.size (w.drew.alloc (.cells cur 71)) [.slice (some ⟨w.heap.size,0,none⟩) 0 cp] [] :=
   Own.mk' (og:=some w.heap.size) (F:=[]) (ds:=[]) hrow ⟨rfl,rfl⟩ (by simp) (fun b hb => by simp at hb;subst hb;simp)
  have hbel:Below w.heap.size w (w.drew.alloc (.cells cur 71)):=⟨rfl,rfl,rfl,by simp,fun k hk => Below.heap_alloc w.drew _ k hk⟩
  have HR:=Lib.hid hr
  have HO:=Lib.hid hown
  have hp:(0:Int) < (n:Int):=by omega
  have hp2:¬ ((n:Int) < 0):=by omega
  unfold maxLen at hcm
  clear hr hown hrow hcp hcur hi hz hsz hby ht hcs
  go_enter Tryz.func155,Tryz.ntmps155
  go_wp2_with (at_builtin;refine yP (o:=⟨some 22,_,_,_,_,_⟩) ?_)
  refine jA.go ?_
  refine Lib.wpList_append_run w rfl _ _ _ _ rfl _ _ rfl rfl _ _ HR.out ?_
  go_wp2_with fail
  go_ret
  exact ⟨_,rfl,HO.out,hbel⟩
theorem a_slicesGrowP (n:Nat) (hn:n ≤ 1000000000):AFn Tryz.prog 155 [[.raw (.slice none 0 0)],eI n] (· = [.own 2 [] true]) :=
 AFn.of_o (xs:=[]) encPt (enters_of Tryz.func155 rfl rfl) (fun w A vs ⟨v1,_,e1,h1,v2,_,e2,h2,e3⟩ => by
  subst e3;subst e2;subst e1
  rw [arg_int h2,(yJ.1 h1).1]
  exact c_slicesGrowP n w hn)
def ePP (x:Elt):List D:=[.sl 2 (x.map ePt)]
theorem kZ0 (bs:List Elt) (k:Nat) (h:k < bs.length):(bs.take (k + 1)).flatten = (bs.take k).flatten ++ bs[k]:=by
 rw [List.take_succ_eq_append_getElem h,List.flatten_append];simp
theorem vJ0 (bs:List Elt) (k:Nat):(bs.take k).flatten.length ≤ bs.flatten.length:=by
 conv => rhs;rw [← List.take_append_drop k bs]
 rw [List.flatten_append,List.length_append]
 omega
theorem a_slicesConcatP (bs:List Elt) (hsz:bs.flatten.length ≤ 1000000) (hl:bs.length ≤ 1000000):AFn Tryz.prog 90 [[.sl 1 (bs.map ePP)]] (· = [.own 2 (bs.flatten.map ePt) false]):=by
 refine AFn.of_runs (qX 36) Tryz.func90 rfl rfl rfl gz ?_
 have hres:Tryz.f90.results.toList = [.tmp 2]:=rfl
 have hrts:Tryz.f90.resultTypes.toList = [50]:=rfl
 simp only [qU,qT,eL,eI,eLL,eB,Nat.zero_add,Nat.reduceAdd]
 intro M
 refine qJ.of ?_
 refine gw5 (kk 28) Y0 ?_
 refine qJ.loop (β:=Nat) (γ:=Unit) (fun i => ⟨[(0,.c (.val (.sl 1 (bs.map ePP)))),(3,.c (.val (.int ((bs.take i).flatten.length:Nat)))),(9,.c (.val (.sl 1 (bs.map ePP)))),(10,.c (.val (.int bs.length))),(11,.c (.val (.int i)))],[]⟩) (fun i => i ≤ bs.length) (fun i => bs.length - i)
  (fun _ => ⟨[(0,.c (.val (.sl 1 (bs.map ePP)))),(3,.c (.val (.int (bs.flatten.length:Nat))))],[]⟩) (fun _ => True) 0 (Nat.zero_le _) ?_ ?_ ?_
 ·exact gw113
 ·intro i hi
  have hi:i ≤ bs.length:=hi
  have hw:=qD (n:=i) (by omega)
  by_cases h:i < bs.length
  ·have i1:((i:Int) < (bs.length:Int)) = True:=eq_true (by omega)
   have i2:((0:Int) ≤ (i:Int)) = True:=eq_true (by omega)
   obtain ⟨f,hf⟩:∃ f,f = bs[i]:=⟨_,rfl⟩
   have hg:(bs.map ePP)[i]? = some [.sl 2 (f.map ePt)]:=by rw [qE h,hf];rfl
   have hst:=congrArg List.length (kZ0 bs i h)
   have hle:=vJ0 bs (i + 1)
   rw [← hf,List.length_append] at hst
   obtain ⟨A,hA⟩:∃ A,A = (bs.take i).flatten.length:=⟨_,rfl⟩
   obtain ⟨B,hB⟩:∃ B,B = (bs.take (i + 1)).flatten.length:=⟨_,rfl⟩
   rw [← hA,← hB] at hst
   rw [← hB] at hle
   have hws:w64 ((A:Int) + (f.length:Int)) = ((B:Nat):Int):=by rw [qL (by omega)];omega
   have j1:(((B:Nat):Int) < 0) = False:=eq_false (by omega)
   rw [← hA]
   refine gw75 (kk 28) (Y6 i1 i2 hg hw hws j1) ?_
   refine qY.on (i + 1) ⟨h,by omega⟩ ?_
   rw [← hB]
   exact gw6 Y0
  ·have i1:((i:Int) < (bs.length:Int)) = False:=eq_false (by omega)
   obtain rfl:i = bs.length:=by omega
   rw [List.take_length]
   refine gw7 (kk 28) i1 ?_
   refine qY.out () trivial ?_
   exact gw6 Y0
 ·rintro _ _
  have hgr:=a_slicesGrowP bs.flatten.length (by omega)
  refine gw5 (kk 28) Y0 ?_
  refine qJ.regCut (qX 36) Tab.none 1 (s1:=?_) ?_ ?_
  rotate_left 1
  focus (refine Work.mk ?_;simp only [Zg,Zi,seval];with_reducible rfl)
  simp only [List.toList_toArray,List.drop_succ_cons,List.drop_zero]
  refine qW.callNilP (qX 36) (d:=24) (g:=155) (xs:=[]) (tx:=[]) (pre:=[]) (ys:=[.tmp 23]) (ty:=[3]) (post:=[eI (bs.flatten.length:Nat)]) rfl (by decide) rfl rfl rfl rfl rfl rfl rfl rfl hgr rfl ?_
  refine qW.opsT (qX 36) (T:=Tab.none) (s':=?_) ?_ ?_
  rotate_left 1
  focus (simp only [Zg,Zi,seval];with_reducible rfl)
  refine gw5 (kk 28) Y0 ?_
  refine qJ.loop (β:=Nat) (γ:=Unit) (fun i => ⟨[(6,.c (.own 6 (bs.take i).flatten.length)),(25,.c (.val (.sl 1 (bs.map ePP)))),(26,.c (.val (.int bs.length))),(27,.c (.val (.int i)))],[(6,.row 2 ((bs.take i).flatten.map ePt) false)]⟩) (fun i => i ≤ bs.length) (fun i => bs.length - i)
   (fun _ => ⟨[(6,.c (.own 6 bs.flatten.length))],[(6,.row 2 (bs.flatten.map ePt) false)]⟩) (fun _ => True) 0 (Nat.zero_le _) ?_ ?_ ?_
  ·exact gw76
  ·intro i hi
   have hi:i ≤ bs.length:=hi
   have hw:=qD (n:=i) (by omega)
   by_cases h:i < bs.length
   ·have i1:((i:Int) < (bs.length:Int)) = True:=eq_true (by omega)
    have i2:((0:Int) ≤ (i:Int)) = True:=eq_true (by omega)
    obtain ⟨f,hf⟩:∃ f,f = bs[i]:=⟨_,rfl⟩
    have hg:(bs.map ePP)[i]? = some [.sl 2 (f.map ePt)]:=by rw [qE h,hf];rfl
    have hle:=vJ0 bs (i + 1)
    have hfl:=kZ0 bs i h
    rw [← hf] at hfl
    have hst:=congrArg List.length hfl
    rw [List.length_append] at hst
    have q1:=jW (n:=(bs.take i).flatten.length + f.length) (by omega)
    have q2:=jZ (n:=(bs.take i).flatten.length + f.length) (c:=32) (by omega) (by omega)
    refine gw75 (kk 28) (Y6 i1 i2 hg hw q1 q2) ?_
    refine qY.on (i + 1) ⟨h,by omega⟩ ?_
    rw [hfl]
    exact gw6 Y0
   ·have i1:((i:Int) < (bs.length:Int)) = False:=eq_false (by omega)
    obtain rfl:i = bs.length:=by omega
    rw [List.take_length]
    refine gw7 (kk 28) i1 ?_
    refine qY.out () trivial ?_
    exact gw6 Y0
  ·rintro _ _
   refine gw7 (kk 28) Y0 ?_
   exact gw8
noncomputable def TEA:Tab Tryz.prog:=Tab.none.add 32 (tab1 (codS 2 codPt) fun e => if e.length + szN e ≤ 1048576 then some [.val (.bool (elB e))] else none) (yA fun e rs h => by split at h;cases h;rename_i hz;exact qL0 e hz;cases h)
theorem kM0 (d e:Elt) (hzd:szP d) (hz:szP e):AFn Tryz.prog 38 [[.sl 2 (d.map ePt)],[.sl 2 (e.map ePt)]] (· = [.own 2 ((addOf d e).1.map ePt) true,.val (.int (addOf d e).2)]):=by
 have h1:=qL0 d hzd
 have s1:(d.length + szN d ≤ 1048576) = True:=eq_true hzd
 have s2:(e.length + szN e ≤ 1048576) = True:=eq_true hz
 unfold addOf
 refine AFn.of_runs (qX 21) Tryz.func38 rfl rfl rfl gz ?_
 have hres:Tryz.f38.results.toList = [.tmp 4,.tmp 5]:=rfl
 have hrts:Tryz.f38.resultTypes.toList = [50,2]:=rfl
 simp only [qU,qT,eL,eI,eLL,eB,Nat.zero_add,Nat.reduceAdd]
 intro M
 refine qJ.of ?_
 by_cases hD:elB d = true
 rotate_left
 ·have hD':elB d = false:=by simpa using hD
  rw [if_neg (by rw [hD',Bool.false_and];decide)]
  rw [hD'] at h1
  refine gw114 (kk 6) ?_
  exact gw8
 rw [hD] at h1
 by_cases hE:elB e = true
 rotate_left
 ·have hE':elB e = false:=by simpa using hE
  rw [if_neg (by rw [hE',Bool.and_false];decide)]
  refine gw115 (kk 6) (Y4 s1 s2 hD hE') ?_
  exact gw8
 rw [if_pos (by rw [hD,hE];rfl)]
 obtain ⟨hod,hld,_⟩:=vP hD
 obtain ⟨hoe,hle,_⟩:=vP hE
 have hc:=a_slicesConcatP [d,e] (by simp;omega) (by simp)
 simp only [ePP,List.map_cons,List.map_nil,List.flatten_cons,List.flatten_nil,List.append_nil] at hc
 have h4:=a_limited (d ++ e) (by rw [List.length_append];omega) (appE_ok hod hoe)
 refine gw116 (kk 6) (Y4 s1 s2 hD hE) ?_
 exact gw8
end
section
theorem prodL_len:∀ (d e:Elt),(prodL d e).length = d.length * e.length
 | [],e => by simp [prodL]
 | p :: d,e => by
  have:=prodL_len d e
  unfold prodL at this ⊢
  rw [List.flatMap_cons,List.length_append,List.length_map,this,List.length_cons,Nat.succ_mul]
  omega
theorem mul_sm {f g:List (List Int)} (hf:f.length ≤ 8∧qQ f ≤ 8) (hg:g.length ≤ 8∧qQ g ≤ 8):SmF (mulF f g):=by
 refine ⟨?_,?_⟩
 ·rw [wJ];omega
 ·rw [kU];omega
theorem tim_ok {d e:Elt} (hd:elB d = true) (he:elB e = true):∀ q ∈ prodL d e,(0 ≤ q.1∧q.1 < 10007)∧SmF q.2:=fun q hq => by
 unfold prodL at hq
 obtain ⟨p,hp,hq⟩:=List.mem_flatMap.1 hq
 obtain ⟨r,hr,rfl⟩:=List.mem_map.1 hq
 exact ⟨jD _,mul_sm ((vP hd).2.2 p hp) ((vP he).2.2 r hr)⟩
theorem yC0 {d e:Elt} (hd:d.length ≤ 300) (he:e.length ≤ 300):(prodL d e).length ≤ 90000:=by
 rw [prodL_len]
 exact Nat.le_trans (Nat.mul_le_mul hd he) (by decide)
theorem a_products (d e:Elt) (hd:∀ q ∈ d,(0 ≤ q.1∧q.1 < 10007)∧q.2.length ≤ 9∧qQ q.2 ≤ 50) (he:∀ q ∈ e,(0 ≤ q.1∧q.1 < 10007)∧q.2.length ≤ 9∧qQ q.2 ≤ 50) (hl:d.length ≤ 300) (hl2:e.length ≤ 300) :
  AFn Tryz.prog 83 [[.sl 2 (d.map ePt)],[.sl 2 (e.map ePt)]] (· = [.own 2 ((sumS cmpF (prodL d e)).map ePt) true]):=by
 have hpl:∀ i,(prodL (d.take i) e).length ≤ 90000:=fun i => yC0 (by rw [List.length_take];omega) hl2
 refine AFn.of_runs (qX 44) Tryz.func83 rfl rfl rfl gz ?_
 have hres:Tryz.f83.results.toList = [.tmp 4]:=rfl
 have hrts:Tryz.f83.resultTypes.toList = [50]:=rfl
 simp only [qU,qT,eL,eI,eLL,eB,Nat.zero_add,Nat.reduceAdd]
 intro M
 refine qJ.of ?_
 refine gw29 (kk 20) Y0 ?_
 refine qJ.loop (β:=Nat) (γ:=Unit) (fun i => ⟨[(1,.c (.val (.sl 2 (e.map ePt)))),(5,.c (.own 5 (prodL (d.take i) e).length)),(11,.c (.val (.sl 2 (d.map ePt)))),(12,.c (.val (.int d.length))),(13,.c (.val (.int i)))],[(5,.row 2 ((prodL (d.take i) e).map ePt) false)]⟩) (fun i => i ≤ d.length) (fun i => d.length - i)
  (fun _ => ⟨[(5,.c (.own 5 (prodL d e).length))],[(5,.row 2 ((prodL d e).map ePt) false)]⟩) (fun _ => True) 0 (Nat.zero_le _) ?_ ?_ ?_
 ·exact gw107 (show prodL [] e = [] from rfl)
 ·intro i hi
  have hi:i ≤ d.length:=hi
  have hw:=qD (n:=i) (by omega)
  by_cases h:i < d.length
  ·have i1:((i:Int) < (d.length:Int)) = True:=eq_true (by omega)
   have i2:((0:Int) ≤ (i:Int)) = True:=eq_true (by omega)
   obtain ⟨z,hz⟩:∃ z,z = d[i]:=⟨_,rfl⟩
   obtain ⟨hz1,hz2,hz3⟩:=hd d[i] (List.getElem_mem _)
   have hg:(d.map ePt)[i]? = some [.int z.1,.sl 1 (z.2.map eL)]:=by rw [qE h,hz];rfl
   rw [← hz] at hz1 hz2 hz3
   have htk:prodL (d.take (i + 1)) e = prodL (d.take i) e ++ e.map fun q => (mP (z.1 * q.1),mulF z.2 q.2):=by rw [hz,List.take_succ_eq_append_getElem h,prodL_snoc]
   have hR:=hpl i
   obtain ⟨R,hRe⟩:∃ R,R = prodL (d.take i) e:=⟨_,rfl⟩
   rw [← hRe] at hR htk ⊢
   have hle:(d.map ePt).length = d.length:=List.length_map _
   refine gw38 (kk 20) (Y4 i1 i2 hg hle) ?_
   refine qJ.loop (β:=Nat) (γ:=Unit) (fun j => ⟨[(1,.c (.val (.sl 2 (e.map ePt)))),(5,.c (.own 5 (R ++ (e.take j).map fun q => (mP (z.1 * q.1),mulF z.2 q.2)).length)),(7,.optr 7 0 0),(11,.c (.val (.sl 2 (d.map ePt)))),(12,.c (.val (.int d.length))),(13,.c (.val (.int i))),(17,.c (.val (.sl 2 (e.map ePt)))),(18,.c (.val (.int e.length))),(19,.c (.val (.int j)))],
     [(5,.row 2 ((R ++ (e.take j).map fun q => (mP (z.1 * q.1),mulF z.2 q.2)).map ePt) false),(7,.row 2 [[.int z.1,.sl 1 (z.2.map eL)]] false)]⟩) (fun j => j ≤ e.length) (fun j => e.length - j)
    (fun _ => ⟨[(1,.c (.val (.sl 2 (e.map ePt)))),(5,.c (.own 5 (R ++ e.map fun q => (mP (z.1 * q.1),mulF z.2 q.2)).length)),(11,.c (.val (.sl 2 (d.map ePt)))),(12,.c (.val (.int d.length))),(13,.c (.val (.int i)))],[(5,.row 2 ((R ++ e.map fun q => (mP (z.1 * q.1),mulF z.2 q.2)).map ePt) false)]⟩) (fun _ => True) 0 (Nat.zero_le _) ?_ ?_ ?_
   ·exact gw117
   ·intro j hj
    have hj:j ≤ e.length:=hj
    have hwj:=qD (n:=j) (by omega)
    by_cases g:j < e.length
    ·have j1:((j:Int) < (e.length:Int)) = True:=eq_true (by omega)
     have j2:((0:Int) ≤ (j:Int)) = True:=eq_true (by omega)
     obtain ⟨y,hy⟩:∃ y,y = e[j]:=⟨_,rfl⟩
     obtain ⟨hy1,hy2,hy3⟩:=he e[j] (List.getElem_mem _)
     have hgj:(e.map ePt)[j]? = some [.int y.1,.sl 1 (y.2.map eL)]:=by rw [qE g,hy];rfl
     rw [← hy] at hy1 hy2 hy3
     have hej:(e.map ePt).length = e.length:=List.length_map _
     have hb:=yE0 hz1 hy1
     have hwm:=qL (n:=z.1 * y.1) (by omega)
     have hc:=AFn.val1 (kY0 [z.2,y.2] (by simp [cntL];omega) (by simp))
     have ho:=AFn.valT (a_forestOf (z.2 ++ y.2) (by rw [List.length_append];omega) (by rw [kE];omega))
     simp only [eLLL',eLL,List.map_cons,List.map_nil,List.flatten_cons,List.flatten_nil,List.append_nil] at hc ho
     have hmf:mulF z.2 y.2 = forest (z.2 ++ y.2):=rfl
     have htj:(R ++ (e.take (j + 1)).map fun q => (mP (z.1 * q.1),mulF z.2 q.2)) = (R ++ (e.take j).map fun q => (mP (z.1 * q.1),mulF z.2 q.2)) ++ [(mP (z.1 * y.1),mulF z.2 y.2)]:=by rw [hy,List.take_succ_eq_append_getElem g,List.map_append,List.append_assoc];rfl
     have hKl:(R ++ (e.take j).map fun q => (mP (z.1 * q.1),mulF z.2 q.2)).length ≤ 100000:=by rw [List.length_append,List.length_map,List.length_take];omega
     obtain ⟨K,hK⟩:∃ K,K = R ++ (e.take j).map fun q => (mP (z.1 * q.1),mulF z.2 q.2):=⟨_,rfl⟩
     rw [← hK] at hKl htj ⊢
     have hlt:(K.map ePt).length = K.length:=List.length_map _
     have q1:=jW (n:=K.length + 1) (by omega)
     have q2:=jZ (n:=K.length + 1) (c:=32) (by omega) (by omega)
     refine gw38 (kk 20) (Y6 j1 j2 hgj hwj hlt hej) ?_
     (((with_reducible refine qJ.wFz (qX 44) ((TSm.at' 123 hc).at' 102 ho) qK [34] (tr:=?_) (s1:=?_) (rest:=?_) ?_ ?_ ?_);rotate_left 3;(focus ((with_reducible refine QW ?_);simp only [Zg,Zd,Zi,seval,drunF,kM,vV,valD,wZ,List.contains_cons,List.contains_nil,TSm,hwm,q1,q2,hlt];with_reducible rfl));focus ((with_reducible refine QK ?_);simp only [Zk];kernel_rfl));(refine qW.opsT (qX 44) (T:=((TSm.at' 123 hc).at' 102 ho)) (s':=?_) ?_ ?_;rotate_left 1;focus (simp only [Zg,Zi,seval,TSm,hwm,q1,q2,hlt];with_reducible rfl)))
     refine gw29 (kk 20) hwj ?_
     refine qY.on (j + 1) ⟨g,by omega⟩ ?_
     rw [htj]
     exact gw54 hmf
    ·have j1:((j:Int) < (e.length:Int)) = False:=eq_false (by omega)
     obtain rfl:j = e.length:=by omega
     rw [List.take_length]
     refine gw34 (kk 20) j1 ?_
     refine qY.out () trivial ?_
     exact gw6 Y0
   ·rintro _ _
    refine gw29 (kk 20) hw ?_
    refine qY.on (i + 1) ⟨h,by omega⟩ ?_
    rw [htk]
    exact gw6 Y0
  ·have i1:((i:Int) < (d.length:Int)) = False:=eq_false (by omega)
   obtain rfl:i = d.length:=by omega
   rw [List.take_length]
   refine gw34 (kk 20) i1 ?_
   refine qY.out () trivial ?_
   exact gw6 Y0
 ·rintro _ _
  have hp:∀ z ∈ prodL d e,(0 ≤ z.1∧z.1 < 10007)∧z.2.length ≤ 19∧qQ z.2 ≤ 1000:=fun z hz => by
   unfold prodL at hz
   obtain ⟨p,hp,hz⟩:=List.mem_flatMap.1 hz
   obtain ⟨r,hr,rfl⟩:=List.mem_map.1 hz
   have h1:=(hd p hp).2
   have h2:=(he r hr).2
   refine ⟨jD _,?_,?_⟩
   ·simp only;rw [wJ];omega
   ·simp only;rw [kU];omega
  have h4:=a_summed (prodL d e) (by have:=yC0 hl hl2;omega) (fun z hz' => ⟨(hp z hz').1,by have:=(hp z hz').2.1;omega,by have:=(hp z hz').2.2;omega⟩)
  refine gw118 (kk 20) ?_
  exact gw8
theorem elB_sm {e:Elt} (h:elB e = true):∀ q ∈ e,(0 ≤ q.1∧q.1 < 10007)∧q.2.length ≤ 9∧qQ q.2 ≤ 50:=fun q hq => by
 obtain ⟨h1,_,h3⟩:=vP h
 have h4:=(h1 q hq).1
 have h5:=h3 q hq
 exact ⟨⟨by omega,h4.2⟩,by omega,by omega⟩
theorem kO0 (d e:Elt) (hzd:szP d) (hz:szP e):AFn Tryz.prog 30 [[.sl 2 (d.map ePt)],[.sl 2 (e.map ePt)]] (· = [.own 2 ((timOf d e).1.map ePt) true,.val (.int (timOf d e).2)]):=by
 have h1:=qL0 d hzd
 have s1:(d.length + szN d ≤ 1048576) = True:=eq_true hzd
 have s2:(e.length + szN e ≤ 1048576) = True:=eq_true hz
 unfold timOf
 refine AFn.of_runs (qX 20) Tryz.func30 rfl rfl rfl gz ?_
 have hres:Tryz.f30.results.toList = [.tmp 4,.tmp 5]:=rfl
 have hrts:Tryz.f30.resultTypes.toList = [50,2]:=rfl
 simp only [qU,qT,eL,eI,eLL,eB,Nat.zero_add,Nat.reduceAdd]
 intro M
 refine qJ.of ?_
 by_cases hD:elB d = true
 rotate_left
 ·have hD':elB d = false:=by simpa using hD
  rw [if_neg (by rw [hD',Bool.false_and];decide)]
  rw [hD'] at h1
  refine gw114 (kk 6) ?_
  exact gw8
 rw [hD] at h1
 by_cases hE:elB e = true
 rotate_left
 ·have hE':elB e = false:=by simpa using hE
  rw [if_neg (by rw [hE',Bool.and_false];decide)]
  refine gw115 (kk 6) (Y4 s1 s2 hD hE') ?_
  exact gw8
 rw [if_pos (by rw [hD,hE];rfl)]
 have hld:=(vP hD).2.1
 have hle:=(vP hE).2.1
 have hc:=a_products d e (elB_sm hD) (elB_sm hE) hld hle
 have hok:=tim_ok hD hE
 have hsl:=vI (prodL d e) []
 simp only [List.length_nil] at hsl
 have hpl:=yC0 hld hle
 have h4:=a_limited (sumS cmpF (prodL d e)) (by show (addS cmpF [] _).length ≤ _;omega) (fun q hq => by
  have:=wU OkE.nil hok q hq
  exact ⟨⟨by have:=this.1;omega,this.1.2⟩,this.2⟩)
 rw [sumS_self jV (xH jV (fun q hq => (hok q hq).1))] at h4
 refine gw119 (kk 6) (Y4 s1 s2 hD hE) ?_
 exact gw8
theorem a_l06Times (d e:Elt) (hd:∀ q ∈ d,(0 ≤ q.1∧q.1 < 10007)∧q.2.length ≤ 9∧qQ q.2 ≤ 50) (he:∀ q ∈ e,(0 ≤ q.1∧q.1 < 10007)∧q.2.length ≤ 9∧qQ q.2 ≤ 50) (hl:d.length ≤ 300) (hl2:e.length ≤ 300) :
  AFn Tryz.prog 85 [[.sl 2 (d.map ePt)],[.sl 2 (e.map ePt)]] (· = [.val (.sl 2 ((sumS cmpF (prodL d e)).map ePt))]):=by
 have hpl:∀ i,(prodL (d.take i) e).length ≤ 90000:=fun i => yC0 (by rw [List.length_take];omega) hl2
 have hok:∀ i,∀ q ∈ prodL (d.take i) e,(0 ≤ q.1∧q.1 < 10007)∧SmF q.2:=fun i q hq => by
  unfold prodL at hq
  obtain ⟨p,hp,hq⟩:=List.mem_flatMap.1 hq
  obtain ⟨r,hr,rfl⟩:=List.mem_map.1 hq
  have h1:=(hd p (List.mem_of_mem_take hp)).2
  have h2:=(he r hr).2
  refine ⟨jD _,?_,?_⟩
  ·simp only;rw [wJ];omega
  ·simp only;rw [kU];omega
 refine AFn.of_runs (qX 46) Tryz.func85 rfl rfl rfl gz ?_
 have hres:Tryz.f85.results.toList = [.tmp 4]:=rfl
 have hrts:Tryz.f85.resultTypes.toList = [50]:=rfl
 simp only [qU,qT,eL,eI,eLL,eB,Nat.zero_add,Nat.reduceAdd]
 intro M
 refine qJ.of ?_
 refine gw29 (kk 8) Y0 ?_
 refine qJ.frz 5 ?_
 refine qJ.fits (s0:=⟨[(0,.c (.val (.sl 2 (d.map ePt)))),(1,.c (.val (.sl 2 (e.map ePt)))),(5,.c (.val (.sl 2 []))),(6,.c (.val (.int 0)))],[]⟩) ?_ ?_
 ·exact gw36
 refine qJ.loop (β:=Nat) (γ:=Unit) (fun i => ⟨[(0,.c (.val (.sl 2 (d.map ePt)))),(1,.c (.val (.sl 2 (e.map ePt)))),(5,.c (.val (.sl 2 ((sumS cmpF (prodL (d.take i) e)).map ePt)))),(6,.c (.val (.int i)))],[]⟩) (fun i => i ≤ d.length) (fun i => d.length - i)
  (fun _ => ⟨[(5,.c (.val (.sl 2 ((sumS cmpF (prodL d e)).map ePt))))],[]⟩) (fun _ => True) 0 (Nat.zero_le _) ?_ ?_ ?_
 ·exact gw37 (Yp (show prodL [] e = [] from rfl) (show sumS cmpF [] = [] from rfl))
 ·intro i hi
  have hi:i ≤ d.length:=hi
  have hw:=qD (n:=i) (by omega)
  by_cases h:i < d.length
  ·have i1:((i:Int) < (d.length:Int)) = True:=eq_true (by omega)
   have i2:((0:Int) ≤ (i:Int)) = True:=eq_true (by omega)
   obtain ⟨z,hz⟩:∃ z,z = d[i]:=⟨_,rfl⟩
   obtain ⟨hz1,hz2,hz3⟩:=hd d[i] (List.getElem_mem _)
   have hg:(d.map ePt)[i]? = some [.int z.1,.sl 1 (z.2.map eL)]:=by rw [qE h,hz];rfl
   rw [← hz] at hz1 hz2 hz3
   have htk:sumS cmpF (prodL (d.take (i + 1)) e) = addS cmpF (sumS cmpF (prodL (d.take i) e)) (e.map fun q => (mP (z.1 * q.1),mulF z.2 q.2)):=by
    rw [hz,List.take_succ_eq_append_getElem h,prodL_snoc]
    exact addS_app _ _ _
   have hR:=vI (prodL (d.take i) e) []
   have hRk:OkE (sumS cmpF (prodL (d.take i) e)):=wU OkE.nil (hok i)
   have hR2:=hpl i
   simp only [List.length_nil] at hR
   have hR:(sumS cmpF (prodL (d.take i) e)).length ≤ 90000:=by show (addS cmpF [] _).length ≤ _;omega
   obtain ⟨R,hRe⟩:∃ R,R = sumS cmpF (prodL (d.take i) e):=⟨_,rfl⟩
   rw [← hRe] at hR hRk htk ⊢
   have hM:∀ q ∈ e.map (fun q => (mP (z.1 * q.1),mulF z.2 q.2)),(0 ≤ q.1∧q.1 < 10007)∧SmF q.2:=fun q hq => by
    obtain ⟨r,hr,rfl⟩:=List.mem_map.1 hq
    have h2:=(he r hr).2
    refine ⟨jD _,?_,?_⟩
    ·simp only;rw [wJ];omega
    ·simp only;rw [kU];omega
   obtain ⟨M',hMe⟩:∃ M',M' = e.map fun q => (mP (z.1 * q.1),mulF z.2 q.2):=⟨_,rfl⟩
   have hMl:M'.length = e.length:=by rw [hMe,List.length_map]
   rw [← hMe] at hM htk
   have hle:(d.map ePt).length = d.length:=List.length_map _
   refine gw38 (kk 8) (Y3 i1 i2 hle) ?_
   refine qJ.loop (β:=Nat) (γ:=Unit) (fun j => ⟨[(0,.c (.val (.sl 2 (d.map ePt)))),(1,.c (.val (.sl 2 (e.map ePt)))),(5,.c (.val (.sl 2 ((addS cmpF R (M'.take j)).map ePt)))),(6,.c (.val (.int i))),(7,.c (.val (.int j)))],[]⟩) (fun j => j ≤ e.length) (fun j => e.length - j)
    (fun _ => ⟨[(0,.c (.val (.sl 2 (d.map ePt)))),(1,.c (.val (.sl 2 (e.map ePt)))),(5,.c (.val (.sl 2 ((addS cmpF R M').map ePt)))),(6,.c (.val (.int i)))],[]⟩) (fun _ => True) 0 (Nat.zero_le _) ?_ ?_ ?_
   ·exact gw120 (show addS cmpF R [] = R from rfl)
   ·intro j hj
    have hj:j ≤ e.length:=hj
    have hwj:=qD (n:=j) (by omega)
    by_cases g:j < e.length
    ·have j1:((j:Int) < (e.length:Int)) = True:=eq_true (by omega)
     have j2:((0:Int) ≤ (j:Int)) = True:=eq_true (by omega)
     obtain ⟨y,hy⟩:∃ y,y = e[j]:=⟨_,rfl⟩
     obtain ⟨hy1,hy2,hy3⟩:=he e[j] (List.getElem_mem _)
     have hgj:(e.map ePt)[j]? = some [.int y.1,.sl 1 (y.2.map eL)]:=by rw [qE g,hy];rfl
     rw [← hy] at hy1 hy2 hy3
     have hej:(e.map ePt).length = e.length:=List.length_map _
     have hm:=jI0 z.1 y.1 (by have:=yE0 hz1 hy1;omega)
     have ht:=AFn.valT (a_l03Times z.2 y.2 (by omega) (fun b hb => by have:=jK hb;omega) (by omega) (fun b hb => by have:=jK hb;omega))
     have hsf:SmF (mulF z.2 y.2):=by
      refine ⟨?_,?_⟩
      ·rw [wJ];omega
      ·rw [kU];omega
     have hput:=a_l06Put (addS cmpF R (M'.take j)) (mP (z.1 * y.1)) (mulF z.2 y.2) (by
      have:=vI (M'.take j) R
      rw [List.length_take] at this;omega) (wU hRk (fun q hq => hM q (List.mem_of_mem_take hq))) (jD _) hsf
     have hst:addS cmpF R (M'.take (j + 1)) = putS cmpF (addS cmpF R (M'.take j)) (mP (z.1 * y.1)) (mulF z.2 y.2):=by
      have hj':j < M'.length:=by rw [hMl];exact g
      have hgm:M'[j]'hj' = (mP (z.1 * y.1),mulF z.2 y.2):=by simp only [hMe,hy];exact List.getElem_map _
      rw [List.take_succ_eq_append_getElem hj',addS_snoc,hgm]
     simp only [eI,eLL] at hm hput ht
     refine gw121 (kk 8) (Y9 i1 i2 j1 j2 hg hgj hwj hle hej) ?_
     refine qY.on (j + 1) ⟨g,by omega⟩ ?_
     rw [hst]
     exact gw6 Y0
    ·have j1:((j:Int) < (e.length:Int)) = False:=eq_false (by omega)
     obtain rfl:j = e.length:=by omega
     rw [← hMl,List.take_length,hMl]
     refine gw34 (kk 8) j1 ?_
     refine qY.out () trivial ?_
     exact gw6 Y0
   ·rintro _ _
    refine gw29 (kk 8) hw ?_
    refine qY.on (i + 1) ⟨h,by omega⟩ ?_
    rw [htk]
    exact gw6 Y0
  ·have i1:((i:Int) < (d.length:Int)) = False:=eq_false (by omega)
   obtain rfl:i = d.length:=by omega
   rw [List.take_length]
   refine gw34 (kk 8) i1 ?_
   refine qY.out () trivial ?_
   exact gw6 Y0
 ·rintro _ _
  refine gw29 (kk 8) Y0 ?_
  exact gw8
end
section
def txtF:Nat→List Int→List UInt8
 | 0,_ => []
 | n + 1,t => 91 :: ((brs t).flatMap (txtF n)) ++ [93]
def txtTo (n:Nat) (t:List Int) (k:Nat):List UInt8:=91 :: (((brs t).take k).flatMap (txtF n))
theorem txtTo_succ (n:Nat) (t:List Int) (k:Nat) (h:k < (brs t).length):txtTo n t (k + 1) = txtTo n t k ++ txtF n (brs t)[k]:=by
 unfold txtTo
 rw [List.take_succ_eq_append_getElem h,List.flatMap_append]
 simp
theorem txtTo_all (n:Nat) (t:List Int):txtTo n t (brs t).length ++ [93] = txtF (n + 1) t:=by
 unfold txtTo
 rw [List.take_of_length_le (Nat.le_refl _)]
 rfl
theorem flat_len (f:List Int→List UInt8):∀ l:List (List Int),(∀ b ∈ l,(f b).length = 2 * b.length)→(l.flatMap f).length = 2 * qQ l
 | [],_ => rfl
 | b :: l,h => by
  have h1:=h b (by simp)
  have h2:=flat_len f l (fun x hx => h x (by simp [hx]))
  rw [List.flatMap_cons,List.length_append,h1,h2]
  show _ = 2 * qQ (b :: l)
  simp only [qQ,List.map_cons,List.sum_cons];omega
theorem txtF_len:∀ (n:Nat) (t:List Int),qZ t→t.length ≤ n→(txtF n t).length = 2 * t.length
 | 0,t,h,hn => by have:=h.pos;omega
 | n + 1,t,h,hn => by
  have h1:=flat_len (txtF n) (brs t) (fun b hb => txtF_len n b (jC h b hb) (by have:=yN h b hb;omega))
  have h2:=kG h
  show (91 :: ((brs t).flatMap (txtF n)) ++ [93]).length = _
  simp only [List.cons_append,List.length_cons,List.length_append,List.length_nil,h1]
  omega
theorem txtTo_len {n:Nat} {t:List Int} (h:qZ t) (hn:t.length ≤ n + 1) (k:Nat):(txtTo n t k).length ≤ 2 * t.length:=by
 have h1:((brs t).take k).flatMap (txtF n) ++ ((brs t).drop k).flatMap (txtF n) = (brs t).flatMap (txtF n):=by
  rw [← List.flatMap_append,List.take_append_drop]
 have h2:=flat_len (txtF n) (brs t) (fun b hb => txtF_len n b (jC h b hb) (by have:=yN h b hb;omega))
 have h3:=kG h
 have h4:=congrArg List.length h1
 rw [List.length_append,h2] at h4
 unfold txtTo
 simp only [List.length_cons]
 omega
end
section
def kQ (st:List (List Int) × Nat) (c:UInt8):Option (List (List Int) × Nat) :=
 if c.toNat = 91 then some (if st.2 = 0 then (st.1 ++ [[0]],1) else (st.1.set (st.1.length - 1) (st.1.getD (st.1.length - 1) [] ++ [(st.2:Int)]),st.2 + 1))
 else if c.toNat = 93∧0 < st.2 then some (st.1,st.2 - 1) else none
def rfRun:List UInt8→List (List Int) × Nat→Option (List (List Int) × Nat)
 | [],st => some st
 | c :: s,st => (kQ st c).bind (rfRun s)
end
section
section
variable {P:Program}
theorem run_append_blk (w:World) (base:Nat) (t u ty e:TypeId) (i:TypeInfo) (ht:P.underlying t = some (.slice e)) (hu:P.underlying u = some .string) (hi:P.info? e = some i) (hz:i.zero = some (.int .u8 0))
  (hsize:i.size = 1) (hby:i.bytes = 1) (v:Value) (n:Nat) (xs:List Value) (hown:w.ownsRowF base e 1 v n xs) (s:ByteArray)
  (h63:n + s.size ≤ maxLen) (hbytes:n + s.size ≤ 140737488355328) (hbase:base ≤ w.heap.size) :
  ∃ v' w',(Builtin.append_ #[t,u] ty #[v,.string s]).run P w = .ok v' w'∧w'.ownsRowF base e 1 v' (n + s.size) (xs ++ Lib.strCells s)∧w.grownBy w' v.ownBlock ∧
   (v'.ownBlock = v.ownBlock ∨ ∃ k,v'.ownBlock = some k∧w.heap.size ≤ k):=by
 obtain ⟨v',w',h1,h2,h3,h4⟩:=Lib.run_append_own_stringF (P:=P) w base t u ty e i ht hu hi hz hsize hby v n xs hown s h63 hbytes hbase
 refine ⟨v',w',h1,h2,h3,?_⟩
 rcases hown.2 with ⟨rfl,rfl⟩|⟨g,cap,cur,fz,rfl,hbg,hg,hfz,hnc,hcm,hcs,htake⟩
 ·obtain ⟨v2,w2,k1,k2,k3,k4⟩:=Lib.run_append_own_stringF (P:=P) w w.heap.size t u ty e i ht hu hi hz hsize hby (.slice none 0 0) 0 xs ⟨hown.1,.inl ⟨rfl,rfl⟩⟩ s h63 hbytes (Nat.le_refl _)
  rw [h1] at k1
  cases k1
  rcases k2.2 with ⟨rfl,_⟩|⟨g',cap',cur',fz',rfl,hb',_⟩
  ·exact .inl rfl
  ·exact .inr ⟨g',rfl,hb'⟩
 ·have hxl:xs.length = n:=by simpa using hown.1
  by_cases hroom:n + s.size ≤ cap
  ·have hcs':cur.size = cap:=by simpa using hcs
   have hr:=Lib.run_append_room_stringF (P:=P) w t u ty e i ht hu hi hsize g n cap cur fz hg (by simpa using hfz) s hroom (by omega)
   rw [h1] at hr
   cases hr
   exact .inl rfl
  ·have hr:=Lib.run_append_grow_string (P:=P) w t u ty e i (.int .u8 0) ht hu hi hz ⟨g,0,none⟩ n cap xs (by rw [hsize];simpa using hxl) (hown.cells (g:=g) rfl) s (by omega) (by have:=h63;simp only [maxLen] at this;omega) (by rw [hby];exact growslice_fits (by omega) (by omega))
   rw [h1] at hr
   cases hr
   exact .inr ⟨_,rfl,Nat.le_refl _⟩
theorem wpList_append_blk {w:World} {ops:Array Oper} {rest:List Oper} {o:Oper} {a:Act} {Q:Exit→Act→World→Prop} (hgd:o.guard = none) (sl x:Operand) (t u:TypeId)
  (ho:o.op = .call { callee:=.builtin .append,args:=#[sl,x],argTypes:=#[t,u] })
  (base:Nat) (e:TypeId) (i:TypeInfo) (ht:P.underlying t = some (.slice e)) (hu:P.underlying u = some .string) (hi:P.info? e = some i) (hz:i.zero = some (.int .u8 0))
  (hsize:i.size = 1) (hby:i.bytes = 1)
  (v:Value) (n:Nat) (xs:List Value) (hs:a.eval sl = v) (hown:w.ownsRowF base e 1 v n xs) (s:ByteArray) (hx:a.eval x = .string s)
  (h63:n + s.size ≤ maxLen) (hbytes:n + s.size ≤ 140737488355328) (hbase:base ≤ w.heap.size)
  (h:∀ v' w',w'.ownsRowF base e 1 v' (n + s.size) (xs ++ Lib.strCells s)→w.grownBy w' v.ownBlock→(v'.ownBlock = v.ownBlock ∨ ∃ k,v'.ownBlock = some k∧w.heap.size ≤ k)→wpList P ops Q rest (a.put o.dst v') w'):wpList P ops Q (o :: rest) a w:=by
 refine wpList_plain hgd fun K hK => ?_
 obtain ⟨v',w',hr,h2,h3,h4⟩:=run_append_blk (P:=P) w base t u o.type e i ht hu hi hz hsize hby v n xs hown s h63 hbytes hbase
 unfold Oper.wp execOp
 simp only [ho,resolve,invoke,builtin,Sem.run_bind,Sem.run_pure,Result.andThen_ok,List.map_toArray,List.map_cons,List.map_nil,hs,hx,hr]
 exact hK _ _ (h v' w' h2 h3 h4)
end
def xJ (T e:TypeId) (B b lo hi:Nat) (p:Value) (bs:List Value) (w:World):Prop :=
 B ≤ b∧∃ v,w.heap[b]? = some (.cells #[p,v] T (0,0))∧w.ownsRowF B e 1 v bs.length bs∧v.ownBlock ≠ some b∧∀ k,v.ownBlock = some k→k < lo ∨ hi ≤ k
theorem xJ.toF {T e:TypeId} {B b lo hi:Nat} {p:Value} {bs:List Value} {w:World} (h:xJ T e B b lo hi p bs w):Lib.BuilderAtF T e B b p bs w :=
 let ⟨h1,v,h2,h3,h4,_⟩:=h;⟨h1,v,h2,h3,h4⟩
theorem xJ.ofF {T e:TypeId} {B b hi:Nat} {p:Value} {bs:List Value} {w:World} (h:Lib.BuilderAtF T e B b p bs w):xJ T e B b w.heap.size hi p bs w :=
 let ⟨h1,v,h2,h3,h4⟩:=h;⟨h1,v,h2,h3,h4,fun k hk => .inl (h3.lt k hk).2⟩
def BKept (b lo hi:Nat) (w w':World):Prop:=w.heap.size ≤ w'.heap.size∧∀ k,lo ≤ k→k < hi→k < w.heap.size→k ≠ b→w'.heap[k]? = w.heap[k]?
theorem xJ.below {T e:TypeId} {B b lo hi:Nat} {p:Value} {bs:List Value} {w w':World} (h:xJ T e B b lo hi p bs w) (hb:Below w.heap.size w w'):xJ T e B b lo hi p bs w':=by
 obtain ⟨h1,v,h2,h3,h4,h5⟩:=h
 have hlt:b < w.heap.size:=(Array.getElem?_eq_some_iff.1 h2).1
 refine ⟨h1,v,(hb.block b hlt).trans h2,?_,h4,h5⟩
 refine ⟨h3.1,?_⟩
 rcases h3.2 with hn|⟨g,cap,cur,fz,rfl,hbg,hgg,rest⟩
 ·exact .inl hn
 ·exact .inr ⟨g,cap,cur,fz,rfl,hbg,(hb.block g (Array.getElem?_eq_some_iff.1 hgg).1).trans hgg,rest⟩
end
section
theorem c_copyCheck_used (b:Nat) (w:World) (h0:w.cell? ⟨b,0,none⟩ = some (.pointer (some ⟨b,0,none⟩))) :
  Calls Tryz.prog 229 #[.pointer (some ⟨b,0,none⟩)] w fun e w' => e = .returned (.tuple #[])∧w' = w:=by
 go_enter Tryz.func229,Tryz.ntmps229
 go_wp2
 rw [Lib.run_neq_ptr_same (P:=Tryz.prog) w (tp:=191) (te:=193) _ rfl rfl]
 go_wp2
 go_end0
 exact ⟨rfl,rfl⟩
theorem c_copyCheck_fresh (b:Nat) (w:World) (h0:w.cell? ⟨b,0,none⟩ = some (.pointer none)) (hsh:w.shape? b = some (193,2)) (hfz:w.frozen? ⟨b,0,none⟩ = false) :
  Calls Tryz.prog 229 #[.pointer (some ⟨b,0,none⟩)] w fun e w' => e = .returned (.tuple #[])∧w' = w.setCell ⟨b,0,none⟩ (.pointer (some ⟨b,0,none⟩)):=by
 go_enter Tryz.func229,Tryz.ntmps229
 go_wp2
 rw [Lib.run_to_unsafe (P:=Tryz.prog) w (src:=191) (dst:=246) (t:=193) ⟨b,0,none⟩ rfl rfl rfl (by decide) hsh (Nat.zero_lt_succ 1)]
 simp only [Result.andThen]
 rw [Oper.upon_value]
 go_wp2
 rw [run_callFunc_extern (f:=264) rfl (by kernel_rfl) (by kernel_rfl) (by kernel_rfl) (e:=Extern.AbiNoEscape.same) (by kernel_rfl)]
 rw [Lib.run_noEscape]
 simp only [Result.andThen]
 rw [Oper.upon_value]
 go_wp2
 rw [Lib.run_from_unsafe (P:=Tryz.prog) w (src:=246) (dst:=191) (u:=193) ⟨b,0,none⟩ rfl rfl rfl hsh (by kernel_rfl)]
 simp only [Result.andThen]
 rw [Oper.upon_value]
 go_wp2
 go_end0
 exact ⟨rfl,rfl⟩
def BldW (B b lo hi:Nat) (bs:List Value) (w w':World):Prop :=
 xJ 193 5 B b lo hi (.pointer (some ⟨b,0,none⟩)) bs w'∧Below B w w'∧BKept b lo hi w w'
theorem xJ.used {T e:TypeId} {B b lo hi:Nat} {p:Value} {bs:List Value} {w:World} (h:xJ T e B b lo hi p bs w) (q:Value):xJ T e B b lo hi q bs (w.setCell ⟨b,0,none⟩ q):=by
 obtain ⟨hB,v,hb,hown,hne,h5⟩:=h
 refine ⟨hB,v,?_,?_,hne,h5⟩
 ·simp [World.setCell,Array.getElem?_modify,hb]
 ·refine hown.kept (row:=some b) ⟨rfl,rfl,rfl,by simp [World.setCell],fun k _ hk => Below.heap_setCell _ _ _ _ (fun e => hk (by simp [e]))⟩ ?_
  exact Or.inr hne
theorem c_copyCheck (B b lo hi:Nat) (p:Value) (bs:List Value) (w:World) (hp:p = .pointer none ∨ p = .pointer (some ⟨b,0,none⟩)) (h:xJ 193 5 B b lo hi p bs w) :
  Calls Tryz.prog 229 #[.pointer (some ⟨b,0,none⟩)] w fun e w' => e = .returned (.tuple #[])∧BldW B b lo hi bs w w':=by
 rcases hp with rfl|rfl
 ·refine (c_copyCheck_fresh b w h.toF.cell0 h.toF.shape h.toF.frozen0).mono ?_
  rintro e w' ⟨rfl,rfl⟩
  exact ⟨rfl,h.used _,(Below.refl B w).setCell (p:=⟨b,0,none⟩) h.1 _,by simp [World.setCell],fun k _ _ _ hk => Below.heap_setCell _ _ _ _ hk⟩
 ·refine (c_copyCheck_used b w h.toF.cell0).mono ?_
  rintro e w' ⟨rfl,rfl⟩
  exact ⟨rfl,h,Below.refl B _,Nat.le_refl _,fun _ _ _ _ _ => rfl⟩
theorem xV0 (B b lo hi:Nat) (p:Value) (bs:List Value) (s:ByteArray) (w:World) (hp:p = .pointer none ∨ p = .pointer (some ⟨b,0,none⟩)) (h:xJ 193 5 B b lo hi p bs w)
  (hlen:bs.length + s.size ≤ 140737488355328) (hBw:B ≤ w.heap.size) (hhi:hi ≤ w.heap.size) :
  Calls Tryz.prog 184 #[.pointer (some ⟨b,0,none⟩),.string s] w fun e w' => e = .returned (.tuple #[.int .i64 s.size,.nilIface])∧BldW B b lo hi (bs ++ Lib.strCells s) w w':=by
 have hcc:=c_copyCheck B b lo hi p bs w hp h
 clear h hp
 go_enter Tryz.func184,Tryz.ntmps184
 go_wp2_with (go_at_call 229;refine hcc.mono ?_)
 rintro e w1 ⟨rfl,h1,hb1,hk1⟩
 obtain ⟨hB,v,hbk,hown,hne,hoff⟩:=h1
 have c0:w1.cell? ⟨b,0,none⟩ = some (.pointer (some ⟨b,0,none⟩)):=by rw [Lib.cell_of_heap hbk];rfl
 have c1:w1.cell? ⟨b,1,none⟩ = some v:=by rw [Lib.cell_of_heap hbk];rfl
 go_wp2_with (at_builtin;refine wpList_append_blk (P:=Tryz.prog) rfl _ _ 22 9 rfl B 5 _ rfl rfl rfl rfl rfl rfl _ _ _ rfl hown s rfl ?c3 ?c4 ?c5 ?_)
 case c3 => unfold maxLen;omega
 case c4 => omega
 case c5 => have:=hb1.size;omega
 intro v' w2 hown' hgrow hblk
 have hlt:b < w1.heap.size:=(Array.getElem?_eq_some_iff.1 hbk).1
 have hb2:w2.heap[b]? = some (.cells #[.pointer (some ⟨b,0,none⟩),v] 193 (0,0)):=by
  rw [hgrow.block b hlt (fun e => hne e.symm)]
  exact hbk
 have d0:w2.cell? ⟨b,0,none⟩ = some (.pointer (some ⟨b,0,none⟩)):=by rw [Lib.cell_of_heap hb2];rfl
 have d1:w2.cell? ⟨b,1,none⟩ = some v:=by rw [Lib.cell_of_heap hb2];rfl
 have f1:w2.frozen? ⟨b,1,none⟩ = false:=Lib.frozen_of_heap hb2 1
 obtain ⟨ao,n',cap,rfl⟩:∃ ao n' cap,v' = .slice ao n' cap:=by
  rcases hown'.2 with ⟨hv,_⟩|⟨g,cap,cur,fz,hv,_⟩
  ·exact ⟨_,_,_,hv⟩
  ·exact ⟨_,_,_,hv⟩
 go_wp2
 go_ret2
 have hs1:=hb1.size
 have hput:=Lib.BuilderAtF.put (p:=.pointer (some ⟨b,0,none⟩)) (T:=193) (e:=5) hB hb2 (bs':=bs ++ Lib.strCells s) (by simpa [Lib.strCells_length] using hown') (by decide)
 refine ⟨rfl,?_,(hb1.grown hgrow (by omega) (fun k hk => (hown.lt k hk).1)).setCell (p:=⟨b,1,none⟩) hB _,?_,?_⟩
 ·obtain ⟨q1,v2,q2,q3,q4⟩:=hput
  refine ⟨q1,v2,q2,q3,q4,?_⟩
  have hv2:v2 = .slice ao n' cap:=by
   have h3:(w2.setCell ⟨b,1,none⟩ (.slice ao n' cap)).heap[b]? = some (.cells #[.pointer (some ⟨b,0,none⟩),.slice ao n' cap] 193 (0,0)):=by
    simp [World.setCell,Array.getElem?_modify,hb2]
   rw [h3] at q2
   simpa using q2.symm
  subst hv2
  intro k hk
  rcases hblk with h3|⟨k',h3,h4⟩
  ·exact hoff k (h3 ▸ hk)
  ·rw [h3] at hk
   cases hk
   right;omega
 ·have:=hgrow.size
  have:=hk1.1
  simp only [World.setCell,Array.size_modify]
  omega
 ·intro k k1 k2 k3 k4
  rw [Below.heap_setCell _ _ _ _ k4,hgrow.block k (by omega) (fun e => by have:=hoff k e.symm;omega)]
  exact hk1.2 k k1 k2 k3 k4
theorem c_BuilderString (B b:Nat) (p:Value) (l:List UInt8) (w:World) (hAt:Lib.BuilderAtF 193 5 B b p (Lib.byteCells l) w) (h0:l ≠ []) :
  Calls Tryz.prog 185 #[.pointer (some ⟨b,0,none⟩)] w fun e w' => e = .returned (.string ⟨l.toArray⟩)∧Below B w w':=by
 obtain ⟨hB,v,hbk,hown,hne⟩:=hAt
 have hl0:l.length ≠ 0:=by simpa using h0
 rw [Lib.byteCells_length] at hown
 obtain ⟨g,cap,cur,fz,rfl,hbg,hg,hfz,hnc,hcm,hcs,htake⟩:∃ g cap cur fz,v = .slice (some ⟨g,0,none⟩) l.length cap∧B ≤ g∧w.heap[g]? = some (.cells cur 5 fz)∧fz.2 ≤ l.length * 1∧l.length ≤ cap∧cap ≤ maxLen∧cur.size = cap * 1∧cur.toList.take (l.length * 1) = Lib.byteCells l:=by
  rcases hown.2 with ⟨_,hz⟩|⟨g,cap,cur,fz,hv,r⟩
  ·exact absurd hz hl0
  ·exact ⟨g,cap,cur,fz,hv,r⟩
 have c1:w.drew.cell? ⟨b,1,none⟩ = some (.slice (some ⟨g,0,none⟩) l.length cap):=by
  have:w.drew.heap[b]? = some (.cells #[p,.slice (some ⟨g,0,none⟩) l.length cap] 193 (0,0)):=hbk
  rw [Lib.cell_of_heap this];rfl
 have hSD:(Builtin.unsafeSliceData_ #[22] 224 #[.slice (some ⟨g,0,none⟩) l.length cap]).run Tryz.prog w.drew = .ok (.pointer (some ⟨g,0,none⟩)) w.drew :=
  Lib.run_unsafeSliceData_row _ _ _ _ _ _ (by omega)
 have hUS:(Builtin.unsafeString_ #[224,3] 9 #[.pointer (some ⟨g,0,none⟩),.int .i64 l.length]).run Tryz.prog w.drew = .ok (.string ⟨l.toArray⟩) (w.drew.freeze ⟨g,0,none⟩ l.length):=by
  refine Lib.run_unsafeString_row w.drew 224 3 9 5 rfl rfl g cur.size (by have hg':w.drew.heap[g]? = some (.cells cur 5 fz):=hg;simp [World.shape?,hg']) l h0 (by omega) (by unfold maxLen at hcm;omega) ?_
  intro j x hx
  have:=hown.cells (g:=g) rfl j (.int .u8 x.toNat) (by simp [Lib.byteCells,hx])
  exact this
 have mixed:Tryz.prog.follows Departure.mixedOrders = true:=by kernel_rfl
 go_enter Tryz.func185,Tryz.ntmps185
 go_wp2
 go_region_o
 all_goals (go_wp2;go_ret;exact ⟨rfl,Lib.below_freeze (Below.drew (Below.refl B w)) (p:=⟨g,0,none⟩) hbg _⟩)
end
end Go.Proofs.YtedgfkpfhonlpaaGreat

/- Lemmas (13). -/
import Derived.Lib.AppendZeros
import Derived.Test.YtgngidchldajhaaGreatZC7
import Derived.Test.YtgngidchldajhaaGreatZC9
import Derived.Test.YtgngidchldajhaaGreatZC10
import Derived.Test.YtgngidchldajhaaGreatZC12
set_option linter.unusedSimpArgs false
set_option linter.unusedVariables false
namespace Go.Proofs
open Go.Shelf
def Tryz.sortSp_ren:Go.Shelf.Ren:=⟨fun|6 => 163|15 => 175|14 => 219|28 => 235|29 => 236|20 => 257|21 => 258|22 => 259|23 => 260|24 => 261|25 => 262|26 => 263|27 => 264|46 => 289|47 => 267|48 => 268|49 => 290|50 => 291|57 => 302|n => n,fun|22 => 50|24 => 56|25 => 171|3 => 3|39 => 157|0 => 0|53 => 234|55 => 48|4 => 4|46 => 228|45 => 227|50 => 206|5 => 5|9 => 9|66 => 253|70 => 257|76 => 272|77 => 273|n => n,fun|n => n⟩
theorem Tryz.sortSp:Go.Proofs.SlLaysF0.n6 Tryz.prog Tryz.sortSp_ren:={
 mixed:=by kernel_rfl
 f6:=⟨Tryz.f163.name,by decide,Tryz.func163.trans (congrArg some (by kernel_rfl))⟩
 f14:=⟨Tryz.f219.name,by decide,Tryz.func219.trans (congrArg some (by kernel_rfl))⟩
 f15:=Tryz.func175.trans (congrArg some (by kernel_rfl))
 f20:=⟨Tryz.f257.name,by decide,Tryz.func257.trans (congrArg some (by kernel_rfl))⟩
 f21:=⟨Tryz.f258.name,by decide,Tryz.func258.trans (congrArg some (by kernel_rfl))⟩
 f22:=⟨Tryz.f259.name,by decide,Tryz.func259.trans (congrArg some (by kernel_rfl))⟩
 f23:=⟨Tryz.f260.name,by decide,Tryz.func260.trans (congrArg some (by kernel_rfl))⟩
 f24:=⟨Tryz.f261.name,by decide,Tryz.func261.trans (congrArg some (by kernel_rfl))⟩
 f25:=⟨Tryz.f262.name,by decide,Tryz.func262.trans (congrArg some (by kernel_rfl))⟩
 f26:=⟨Tryz.f263.name,by decide,Tryz.func263.trans (congrArg some (by kernel_rfl))⟩
 f27:=⟨Tryz.f264.name,by decide,Tryz.func264.trans (congrArg some (by kernel_rfl))⟩
 f28:=Tryz.func235.trans (congrArg some (by kernel_rfl))
 f29:=Tryz.func236.trans (congrArg some (by kernel_rfl))
 f46:=⟨Tryz.f289.name,by decide,Tryz.func289.trans (congrArg some (by kernel_rfl))⟩
 f47:=Tryz.func267.trans (congrArg some (by kernel_rfl))
 f48:=Tryz.func268.trans (congrArg some (by kernel_rfl))
 f49:=⟨Tryz.f290.name,by decide,Tryz.func290.trans (congrArg some (by kernel_rfl))⟩
 f50:=⟨Tryz.f291.name,by decide,Tryz.func291.trans (congrArg some (by kernel_rfl))⟩
 f57:=⟨Tryz.f302.name,by decide,Tryz.func302.trans (congrArg some (by kernel_rfl))⟩
 t0:=Tryz.underlying0
 a0:=Tryz.isAgg0
 z0:=Tryz.sizeOf0
 v0:=Tryz.zeroValue0
 t3:=Tryz.underlying3
 a3:=Tryz.isAgg3
 z3:=Tryz.sizeOf3
 v3:=Tryz.zeroValue3
 t4:=Tryz.underlying4
 a4:=Tryz.isAgg4
 z4:=Tryz.sizeOf4
 v4:=Tryz.zeroValue4
 t5:=Tryz.underlying5
 a5:=Tryz.isAgg5
 z5:=Tryz.sizeOf5
 v5:=Tryz.zeroValue5
 t9:=Tryz.underlying9
 a9:=Tryz.isAgg9
 z9:=Tryz.sizeOf9
 v9:=Tryz.zeroValue9
 t22:=Tryz.underlying50
 a22:=Tryz.isAgg50
 z22:=Tryz.sizeOf50
 v22:=Tryz.zeroValue50
 t25:=Tryz.underlying171
 a25:=Tryz.isAgg171
 z25:=Tryz.sizeOf171
 v25:=Tryz.zeroValue171
 t39:=Tryz.underlying157
 a39:=Tryz.isAgg157
 z39:=Tryz.sizeOf157
 v39:=Tryz.zeroValue157
 t45:=Tryz.underlying227
 a45:=Tryz.isAgg227
 z45:=Tryz.sizeOf227
 v45:=Tryz.zeroValue227
 t46:=Tryz.underlying228
 a46:=Tryz.isAgg228
 z46:=Tryz.sizeOf228
 v46:=Tryz.zeroValue228
 t50:=Tryz.underlying206
 a50:=Tryz.isAgg206
 z50:=Tryz.sizeOf206
 v50:=Tryz.zeroValue206
 t53:=Tryz.underlying234
 a53:=Tryz.isAgg234
 z53:=Tryz.sizeOf234
 v53:=Tryz.zeroValue234
 t55:=Tryz.underlying48
 a55:=Tryz.isAgg48
 z55:=Tryz.sizeOf48
 v55:=Tryz.zeroValue48
 t66:=Tryz.underlying253
 a66:=Tryz.isAgg253
 z66:=Tryz.sizeOf253
 v66:=Tryz.zeroValue253
 t70:=Tryz.underlying257
 a70:=Tryz.isAgg257
 z70:=Tryz.sizeOf257
 v70:=Tryz.zeroValue257
 t76:=Tryz.underlying272
 a76:=Tryz.isAgg272
 z76:=Tryz.sizeOf272
 v76:=Tryz.zeroValue272
 t77:=Tryz.underlying273
 a77:=Tryz.isAgg273
 z77:=Tryz.sizeOf273
 v77:=Tryz.zeroValue273 }
end Go.Proofs
namespace Go.Proofs.YtgngidchldajhaaGreat
open Go.RowKit
section
variable {P:Program} {cfg:Cfg} {M:Nat→Prop} {ops:Array Oper} {s:St} {w0:W0} {w:World} {Ok:Nat→Prop} {N:Nat} {σ:Asg} {a:Act} {fs:List Fr} {Q:Exit→St→Prop}
theorem relCs_repl {H:List (Nat × Obj)} {x y:AC} {post:List AC}:∀ {pre:List AC} {us:List Value},relCs σ H w (pre ++ x :: post) us→(∀ v,us[pre.length]? = some v→relAC σ H w x v→relAC σ H w y v)→relCs σ H w (pre ++ y :: post) us
 | [],us,h,hy => by
  obtain ⟨v,us',rfl,h1,h2,h3⟩:=h
  exact ⟨v,us',rfl,h1,hy v rfl h2,h3⟩
 | p :: pre,us,h,hy => by
  obtain ⟨v,us',rfl,h1,h2,h3⟩:=h
  exact ⟨v,us',rfl,h1,h2,relCs_repl h3 (fun u hu hx => hy u (by simpa using hu) hx)⟩
theorem relCs_at {H:List (Nat × Obj)} {x:AC} {post:List AC}:∀ {pre:List AC} {us:List Value},relCs σ H w (pre ++ x :: post) us→∀ v,us[pre.length]? = some v→relAC σ H w x v
 | [],us,h,v,hv => by
  obtain ⟨u,us',rfl,h1,h2,h3⟩:=h
  have:u = v:=by simpa using hv
  subst this;exact h2
 | p :: pre,us,h,v,hv => by
  obtain ⟨u,us',rfl,h1,h2,h3⟩:=h
  exact relCs_at h3 v (by simpa using hv)
theorem Sim.markA (h:Sim w0 Ok N σ s a w) {r key k n:Nat} {xs:List (List D)} {pre post:List AC} (hr:look r s.regs = some (.agg (pre ++ .own key n :: post))) (hk:look key s.heap = some (.row k xs true)) :
  Sim w0 Ok N σ ⟨insR r (.agg (pre ++ .val (.tag (fp σ key (.row k xs true)) (.sl k xs)) :: post)) s.regs,drop key s.heap⟩ a w:=by
 have hro:=h.rows key _ hk
 obtain ⟨ds,hrow,hkp,hel⟩:=hro.row
 have hel:ownR k w ds xs (σ.F key):=hel
 have hrow:Row w (slv (σ.g key) xs.length (σ.cap key)) k xs.length ds (σ.g key):=hrow
 have hs:∀ q o,look q (drop key s.heap) = some o→q ≠ key∧look q s.heap = some o:=fun q o hq => by
  rw [look_drop] at hq
  by_cases e:q = key
  ·rw [if_pos e] at hq;cases hq
  ·rw [if_neg e] at hq;exact ⟨e,hq⟩
 have h1:=h.forget (regs':=s.regs) (H':=drop key s.heap) (fun _ _ h => h) (fun q o hq => (hs q o hq).2)
 refine ⟨h1.below,h1.ok1,h1.ok2,h1.defers,h1.size,fun q av hq => ?_,h1.rows,h1.disj⟩
 rw [look_ins] at hq
 by_cases e:r = q
 ·rw [if_pos e] at hq
  subst e
  cases hq
  obtain ⟨us,hv1,hv2⟩:=h.regs r _ hr
  obtain ⟨us',hv1',hv2'⟩:=h1.regs r _ hr
  have eu:us' = us:=by rw [hv1] at hv1';simpa using hv1'.symm
  subst eu
  refine ⟨us',hv1,relCs_repl hv2' (fun v hv _ => ?_)⟩
  obtain ⟨e1,e2⟩:=relCs_at hv2 v hv _ hk
  have e1:n = xs.length:=e1
  show rdV _ w v (.tag _ (.sl k xs))
  rw [e2,e1]
  refine rdV_tag.2 ⟨fun b hb => ⟨?_,?_,fun q o hq e => ?_⟩,ownV_sl.2 ⟨σ.g key,ds,σ.F key,hrow,hel,rfl⟩⟩
  ·rcases List.mem_append.1 hb with hb|hb
   ·exact hrow.lt b (by simpa using hb)
   ·exact hel.lt b hb
  ·exact h.ok1 b (hro.fresh b hb)
  ·obtain ⟨hne,hq⟩:=hs q o hq
   exact h.disj key _ q o hk hq (fun e => hne e.symm) b hb (fp_out e)
 ·rw [if_neg e] at hq
  exact h1.regs q av hq
theorem ROps.markA2 {l:List Oper} {Q:St→Prop} {r key1 key2 k1 k2 n1 n2:Nat} {xs ys:List (List D)} {z:List AC} (hr:look r s.regs = some (.agg (.own key1 n1 :: .own key2 n2 :: z))) (hk1:look key1 s.heap = some (.row k1 xs true))
  (hk2:look key2 s.heap = some (.row k2 ys true)) (hk:key1 ≠ key2)
  (h:∀ F G,(F ++ G).Nodup→(∀ b ∈ F ++ G,M b)→ROps P cfg M ops l Q ⟨insR r (.agg (.val (.tag F (.sl k1 xs)) :: .val (.tag G (.sl k2 ys)) :: z)) (insR r (.agg (.val (.tag F (.sl k1 xs)) :: .own key2 n2 :: z)) s.regs),drop key2 (drop key1 s.heap)⟩):ROps P cfg M ops l Q s:=by
 intro w0 Ok σ a w Q' hM hS hQ
 have h1:=hS.markA (r:=r) (pre:=[]) hr hk1
 have hk2':look key2 (drop key1 s.heap) = some (.row k2 ys true):=by rw [look_drop,if_neg (fun e => hk e.symm)];exact hk2
 have h2:=h1.markA (r:=r) (key:=key2) (n:=n2) (k:=k2) (xs:=ys) (pre:=[.val (.tag (fp σ key1 (.row k1 xs true)) (.sl k1 xs))]) (post:=z) (by rw [look_ins,if_pos rfl];rfl) hk2'
 have f1:=hS.rows key1 _ hk1
 have f2:=hS.rows key2 _ hk2
 refine h (fp σ key1 (.row k1 xs true)) (fp σ key2 (.row k2 ys true)) ?_ (fun b hb => ?_) w0 Ok σ a w Q' hM h2 hQ
 ·refine List.nodup_append.2 ⟨f1.nodup,f2.nodup,fun b hb c hc e => ?_⟩
  subst e
  exact hS.disj key1 _ key2 _ hk1 hk2 hk b hb hc
 ·rcases List.mem_append.1 hb with hb|hb
  ·exact hM ▸ f1.fresh b hb
  ·exact hM ▸ f2.fresh b hb
end
abbrev SpT:=(Spl × Int) × (List Nat × List Nat)
def eSpT (q:SpT):List D:=[.tag q.2.1 (.sl 1 (q.1.1.1.map eL)),.tag q.2.2 (.sl 1 (q.1.1.2.map eL)),.int q.1.2]
def SpT.bl (q:SpT):List Nat:=q.2.1 ++ q.2.2
theorem tag_mkS:∀ (zs:List SpT),TagL ((zs.map (·.1)).map eSp) (zs.map eSpT) ((zs.map SpT.bl).flatten)
 | [] => ⟨rfl,rfl⟩
 | z :: zs => ⟨_,_,SpT.bl z,_,rfl,rfl,⟨_,_,z.2.1,z.2.2,rfl,rfl,.inl rfl,⟨_,_,z.2.2,[],rfl,(List.append_nil _).symm,.inl rfl,⟨_,[],[],[],rfl,rfl,.inr ⟨rfl,rfl,rfl⟩,rfl,rfl⟩⟩⟩,tag_mkS zs⟩
set_option maxRecDepth 100000 in
set_option maxHeartbeats 1000000 in
theorem c_gathered1 (W:World) (n m:Int) (u1 u2 v1 v2:Value) (f g h k:List (List Int)) (h1:Rd (RS (RS RI)) W [u1] f) (h2:Rd (RS (RS RI)) W [u2] g) (h3:Rd (RS (RS RI)) W [v1] h) (h4:Rd (RS (RS RI)) W [v2] k) (s1:sumLen f ≤ 1000000) (s2:sumLen h ≤ 1000000) :
  Calls Tryz.prog 162 #[.agg #[u1,u2,.int .i64 n],.agg #[v1,v2,.int .i64 m]] W fun e w' => e = .returned (.int .i64 (cmpS (f,g) (h,k)))∧∃ q os',w' = Sort.grow (W.drewN q) os':=by
 obtain ⟨o1,c1,rfl,_,_⟩:=h1.val
 obtain ⟨o2,c2,rfl,_,_⟩:=h2.val
 obtain ⟨o3,c3,rfl,_,_⟩:=h3.val
 obtain ⟨o4,c4,rfl,_,_⟩:=h4.val
 have b1:Below W.heap.size W (W.alloc (.cells #[.slice o1 f.length c1,.slice o2 g.length c2,.int .i64 n] 56)):=(Below.refl _ _).alloc (Nat.le_refl _) _
 have b2:Below W.heap.size W ((W.alloc (.cells #[.slice o1 f.length c1,.slice o2 g.length c2,.int .i64 n] 56)).alloc (.cells #[.slice o3 h.length c3,.slice o4 k.length c4,.int .i64 m] 56)):=b1.alloc (by simp) _
 have hc:=c_compareForests _ _ f h _ (h1.below b2 (Nat.le_refl _)) (h3.below b2 (Nat.le_refl _)) (by omega) (by omega)
 have hd:=c_compareTrunks _ _ g k _ (h2.below b2 (Nat.le_refl _)) (h4.below b2 (Nat.le_refl _))
 have HC:=Lib.hid hc
 have HD:=Lib.hid hd
 have hcs:cmpS (f,g) (h,k) = if cmpF f h = 0 then cmpN g k else cmpF f h:=rfl
 by_cases hz:cmpF f h = 0
 ·have hb:(cmpF f h != 0) = false:=by simp [hz]
  rw [if_pos hz] at hcs
  have HS:=Lib.hid hcs
  clear hc hd b1 b2 h1 h2 h3 h4 hcs
  go_enter Tryz.func162,Tryz.ntmps162
  go_wp2_with (first|(go_at_call 86;refine HC.out.mono ?_;rintro e w' ⟨rfl,rfl⟩)|(go_at_call 158;refine HD.out.mono ?_;rintro e w' ⟨rfl,rfl⟩))
  go_ret
  exact ⟨by rw [HS.out] <;> rfl,0,_,by rw [Sort.alloc_eq_grow,Sort.alloc_eq_grow,Sort.grow_grow];rfl⟩
 ·have hb:(cmpF f h != 0) = true:=bne_iff_ne.2 hz
  rw [if_neg hz] at hcs
  have HS:=Lib.hid hcs
  clear hc hd b1 b2 h1 h2 h3 h4 hcs
  go_enter Tryz.func162,Tryz.ntmps162
  go_wp2_with (first|(go_at_call 86;refine HC.out.mono ?_;rintro e w' ⟨rfl,rfl⟩)|(go_at_call 158;refine HD.out.mono ?_;rintro e w' ⟨rfl,rfl⟩))
  go_ret
  exact ⟨by rw [HS.out] <;> rfl,0,_,by rw [Sort.alloc_eq_grow,Sort.alloc_eq_grow,Sort.grow_grow];rfl⟩
theorem a_compareTrunks (f g:List (List Int)) (hf:SmF f) (hg:SmF g):AFn Tryz.prog 158 [eLL f,eLL g] (· = [.val (.int (cmpN f g))]):=by
 refine ⟨enters_of Tryz.func158 rfl rfl,fun A w vs hA ⟨v1,_,e1,h1,v2,_,e2,h2,e3⟩ => ?_⟩
 subst e3;subst e2;subst e1
 have r1:=Rd.of (rdLL h1)
 have r2:=Rd.of (rdLL h2)
 obtain ⟨oa,c1,k1,m1,m2⟩:=r1.val
 obtain ⟨ob,c2,k2,m3,m4⟩:=r2.val
 refine (c_compareTrunks v1 v2 f g w r1 r2).mono ?_
 rintro e w' ⟨rfl,rfl⟩
 have hle:∀ {f:List (List Int)},SmF f→∀ t ∈ f,t.length ≤ maxLen:=fun h t ht => Nat.le_trans (sumLen_mem ht) (Nat.le_trans h.2 (by decide))
 have hin:In64 (cmpN f g):=by
  rw [cmpN_eq]
  have h3:=cmpF_in64 (f:=f) (g:=g) (by have:=hf.2;omega) (by have:=hg.2;omega) (by omega) (by omega) (hle hf) (hle hg)
  have hf1:=hf.1
  have hg1:=hg.1
  split
  ·rename_i e
   by_cases hs:(sumLen f:Int) = sumLen g
   ·rw [cmpF_N,if_pos hs,cmpN_eq,if_pos e] at h3;exact h3
   ·exact lexC_in64 f g (hle hf) (hle hg)
  ·unfold In64;omega
 exact ⟨_,_,rfl,rfl,Below.refl _ _,[_],[],[],rfl,List.nodup_nil,by simp,_,[],[],[],[],[],rfl,rfl,rfl,rfl,⟨rdV_int.2 ⟨rfl,hin⟩,rfl,rfl⟩,rfl,rfl,rfl⟩
end Go.Proofs.YtgngidchldajhaaGreat
namespace Go.Proofs.YtgngidchldajhaaGreat
open Go.RowKit
def stepQ (out:List SpT) (q:SpT):List SpT:=match out.getLast? with
 | some p => if cmpS p.1.1 q.1.1 = 0 then out.dropLast ++ [((p.1.1,p.1.2 + 1),p.2)] else out ++ [q]
 | none => [q]
def runQ (zs:List SpT):List SpT:=zs.foldl stepQ []
theorem stepQ_nil (q:SpT):stepQ [] q = [q]:=rfl
theorem stepQ_eq (out:List SpT) (p q:SpT) (h:cmpS p.1.1 q.1.1 = 0):stepQ (out ++ [p]) q = out ++ [((p.1.1,p.1.2 + 1),p.2)]:=by simp [stepQ,h]
theorem stepQ_ne (out:List SpT) (p q:SpT) (h:¬ cmpS p.1.1 q.1.1 = 0):stepQ (out ++ [p]) q = out ++ [p] ++ [q]:=by simp [stepQ,h]
theorem runQ_snoc (zs:List SpT) (q:SpT):runQ (zs ++ [q]) = stepQ (runQ zs) q:=by unfold runQ;rw [List.foldl_append];rfl
theorem runQ_spec:∀ (n:Nat) (zs:List SpT),zs.length = n→(∀ q ∈ zs,q.1.2 = 1)→(runQ zs).map (·.1) = runsN cmpS (zs.map (·.1.1))∧((runQ zs).map SpT.bl).Sublist (zs.map SpT.bl)∧(runQ zs).length ≤ zs.length∧∀ q ∈ runQ zs,(1 ≤ q.1.2∧q.1.2 ≤ (n:Int))∧∃ p ∈ zs,p.1.1 = q.1.1
 | 0,zs,hn,_ => by
  obtain rfl:=List.eq_nil_of_length_eq_zero hn
  exact ⟨rfl,List.Sublist.refl _,Nat.le_refl _,fun q hq => nomatch hq⟩
 | n + 1,zs,hn,h1 => by
  obtain ⟨zs,q,rfl⟩:=snocN (l:=zs) (by rintro rfl;cases hn)
  have hn':zs.length = n:=by simpa using hn
  obtain ⟨i1,i2,i3,i4⟩:=runQ_spec n zs hn' (fun q hq => h1 q (by simp [hq]))
  have hq1:q.1.2 = 1:=h1 q (by simp)
  rw [runQ_snoc,List.map_append,List.map_cons,List.map_nil,runsN_snoc,← i1,List.map_append,List.map_cons,List.map_nil]
  by_cases h0:runQ zs = []
  ·rw [h0]
   refine ⟨?_,?_,by simp [stepQ],fun z hz => ?_⟩
   ·show [q.1] = [(q.1.1,1)]
    rw [← hq1]
   ·exact List.sublist_append_right _ _
   ·have hz:z = q:=by simpa [stepQ] using hz
    subst hz
    exact ⟨by omega,z,by simp,rfl⟩
  ·obtain ⟨out,p,e⟩:=snocN h0
   rw [e] at i2 i3 i4 ⊢
   have hp:=i4 p (by simp)
   by_cases hc:cmpS p.1.1 q.1.1 = 0
   ·rw [stepQ_eq _ _ _ hc,List.map_append,List.map_append,List.map_cons,List.map_nil,List.map_cons,List.map_nil,stepN_eq _ _ _ hc]
    refine ⟨rfl,?_,by simp at i3 ⊢;omega,fun z hz => ?_⟩
    ·have e2:(out ++ [p]).map SpT.bl = out.map SpT.bl ++ [SpT.bl ((p.1.1,p.1.2 + 1),p.2)]:=by rw [List.map_append];rfl
     rw [List.map_append,List.map_cons,List.map_nil,← e2]
     exact i2.trans (List.sublist_append_left _ _)
    ·rcases List.mem_append.1 hz with hz|hz
     ·obtain ⟨a,b,hb,hb2⟩:=i4 z (by simp [hz])
      exact ⟨by omega,b,by simp [hb],hb2⟩
     ·obtain rfl:=List.mem_singleton.1 hz
      obtain ⟨a,b,hb,hb2⟩:=hp
      exact ⟨by simp only;omega,b,by simp [hb],hb2⟩
   ·rw [stepQ_ne _ _ _ hc]
    refine ⟨?_,?_,by simp at i3 ⊢;omega,fun z hz => ?_⟩
    ·simp only [List.map_append,List.map_cons,List.map_nil]
     rw [stepN_ne _ _ _ hc]
     congr 1
     show [q.1] = [(q.1.1,1)]
     rw [← hq1]
    ·rw [List.map_append]
     exact List.Sublist.append i2 (List.Sublist.refl _)
    ·rcases List.mem_append.1 hz with hz|hz
     ·obtain ⟨a,b,hb,hb2⟩:=i4 z hz
      exact ⟨by omega,b,by simp [hb],hb2⟩
     ·obtain rfl:=List.mem_singleton.1 hz
      exact ⟨by omega,z,by simp,rfl⟩
noncomputable def TGa1:Tab Tryz.prog :=
 (Tab.none.add 86 (tab2 codLL codLL fun f g => if SmF f∧SmF g then some [.val (.int (cmpF f g))] else none) (tab2_ok fun f g rs h => by split at h;cases h;rename_i hs;exact a_compareForests f g (by have:=hs.1.2;omega) (by have:=hs.2.2;omega);cases h)).add
  158 (tab2 codLL codLL fun f g => if SmF f∧SmF g then some [.val (.int (cmpN f g))] else none) (tab2_ok fun f g rs h => by split at h;cases h;rename_i hs;exact a_compareTrunks f g hs.1 hs.2;cases h)
theorem a_gathered1 (z y:Spl × Int) (hz:SmS z.1) (hy:SmS y.1):AFn Tryz.prog 162 [eSp z,eSp y] (· = [.val (.int (cmpS z.1 y.1))]):=by
 obtain ⟨⟨f,g⟩,n⟩:=z
 obtain ⟨⟨f',g'⟩,n'⟩:=y
 have e1:=eq_true (And.intro hz.1 hy.1)
 have e2:=eq_true (And.intro hz.2 hy.2)
 simp only at e1 e2
 have hcs:cmpS (f,g) (f',g') = if cmpF f f' = 0 then cmpN g g' else cmpF f f':=rfl
 simp only
 rw [hcs]
 refine AFn.of_runs (cfg_ok 19) Tryz.func162 rfl rfl rfl (by simp only [List.length_cons,List.length_nil];decide) ?_
 have hres:Tryz.f162.results.toList = [.tmp 4]:=rfl
 have hrts:Tryz.f162.resultTypes.toList = [3]:=rfl
 simp only [argRegs,argAV1,eL,eI,eLL,eB,Nat.zero_add,Nat.reduceAdd,eSp]
 intro M
 refine RunK.of ?_
 by_cases h0:cmpF f f' = 0
 ·have hb:(cmpF f f' != 0) = false:=by simp [h0]
  rw [if_pos h0]
  repeat' (first|with_reducible (first|refine Q1 ?_|refine Q2 ?_|refine Q3 ?_|refine Q4 ?_|refine Q5 ?_|refine Q6 ?_|refine Q7 ?_|refine Q8 ?_|refine Q9 ?_|refine Qa ?_|refine Qb ?_|refine Qc ?_|refine Qd ?_|refine Qe ?_|refine Qf ?_)|((with_reducible refine Qo ?_ ?_);focus rfl)|((with_reducible first|refine QT 6 (l:=?_) ?_ ?_|refine QF 6 (l:=?_) ?_ ?_);rotate_left 1;focus (simp only [Zu,Nat.reduceSub,Nat.reduceBEq];with_reducible rfl))|((with_reducible first|refine QS (cfg_ok 19) TGa1 (s':=?_) ?_ ?_|refine QC (b:=?_) ?_ ?_);rotate_left 1;focus ((with_reducible refine QW ?_);simp only [Zg,seval,if_true,if_false,reduceCtorEq,Nat.reduceEqDiff,TGa1,TGa1,e1,e2,hb];with_reducible rfl)))
  (refine Ends.mk (by simp) (rs:=?_) (ks:=?_) hres hrts ?_ ?_ ?_;rotate_left 2;(focus (simp only [Ze,Zg,seval,if_true,if_false,reduceCtorEq,Nat.reduceEqDiff];with_reducible rfl));(focus simp);focus (first|with_reducible rfl|(simp only [Zv];done)))
 ·have hb:(cmpF f f' != 0) = true:=bne_iff_ne.2 h0
  rw [if_neg h0]
  repeat' (first|with_reducible (first|refine Q1 ?_|refine Q2 ?_|refine Q3 ?_|refine Q4 ?_|refine Q5 ?_|refine Q6 ?_|refine Q7 ?_|refine Q8 ?_|refine Q9 ?_|refine Qa ?_|refine Qb ?_|refine Qc ?_|refine Qd ?_|refine Qe ?_|refine Qf ?_)|((with_reducible refine Qo ?_ ?_);focus rfl)|((with_reducible first|refine QT 6 (l:=?_) ?_ ?_|refine QF 6 (l:=?_) ?_ ?_);rotate_left 1;focus (simp only [Zu,Nat.reduceSub,Nat.reduceBEq];with_reducible rfl))|((with_reducible first|refine QS (cfg_ok 19) TGa1 (s':=?_) ?_ ?_|refine QC (b:=?_) ?_ ?_);rotate_left 1;focus ((with_reducible refine QW ?_);simp only [Zg,seval,if_true,if_false,reduceCtorEq,Nat.reduceEqDiff,TGa1,TGa1,e1,e2,hb];with_reducible rfl)))
  (refine Ends.mk (by simp) (rs:=?_) (ks:=?_) hres hrts ?_ ?_ ?_;rotate_left 2;(focus (simp only [Ze,Zg,seval,if_true,if_false,reduceCtorEq,Nat.reduceEqDiff];with_reducible rfl));(focus simp);focus (first|with_reducible rfl|(simp only [Zv];done)))
theorem aggSp (w:World):(isAgg 56).run Tryz.prog w = .ok true w:=by
 simp [isAgg,run_underlying Tryz.underlying56]
theorem tSplit:ST Tryz.prog 50 56 (.agg #[.slice none 0 0,.slice none 0 0,.int .i64 0]) 3 56:=ST.mk' (by kernel_rfl) (by kernel_rfl) rfl (by decide)
theorem sizeSp (w:World):(Go.sizeOf 56).run Tryz.prog w = .ok 3 w:=by
 obtain ⟨_,⟨i,hi,_,hs,_⟩,_,_⟩:=tSplit
 simp [Go.sizeOf,typeInfo,hi,hs]
theorem rd_eSpT {A:Nat→Prop} {W:World} {us:List Value} {x:SpT} (hA:∀ b,A b→b < W.heap.size) (h:rdCs A W us (eSpT x)):∃ u1 u2,us = [u1,u2,.int .i64 x.1.2]∧Rd (RS (RS RI)) W [u1] x.1.1.1∧Rd (RS (RS RI)) W [u2] x.1.1.2:=by
 have hl:=h.len
 match us,hl with
 | [u1,u2,u3],_ =>
  obtain ⟨v1,e1,h1⟩:=h.get 0 (by show 0 < 3;decide)
  obtain ⟨v2,e2,h2⟩:=h.get 1 (by show 1 < 3;decide)
  obtain ⟨v3,e3,h3⟩:=h.get 2 (by show 2 < 3;decide)
  obtain rfl:u1 = v1:=by simpa using e1
  obtain rfl:u2 = v2:=by simpa using e2
  obtain rfl:u3 = v3:=by simpa using e3
  have h1:rdV A W u1 (.tag x.2.1 (.sl 1 (x.1.1.1.map eL))):=h1
  have h2:rdV A W u2 (.tag x.2.2 (.sl 1 (x.1.1.2.map eL))):=h2
  have h3:rdV A W u3 (.int x.1.2):=h3
  have r1:=rdLL (xs:=x.1.1.1) h1.un
  have r2:=rdLL (xs:=x.1.1.2) h2.un
  refine ⟨u1,u2,?_,Rd.of r1,Rd.of r2⟩
  rw [(rdV_int.1 h3).1]
theorem a_sortSp (zs:List SpT) (hok:∀ z ∈ zs,SmS z.1.1) (hn:zs.length ≤ 1000000000) :
  AEf Tryz.prog 163 false [] 3 (zs.map eSpT) [[.raw (.func (.func 162) #[] #[])]] (fun rs oc => rs = []∧∃ zs':List SpT,oc = some (zs'.map eSpT)∧zs'.Perm zs∧zs'.Pairwise (fun a b => cmpS a.1.1 b.1.1 ≤ 0)):=by
 refine a_SortG Tryz.sortSp (k:=3) eSpT (by decide) (fun _ => rfl) aggSp sizeSp cmpS_cmp (·.1.1) (fun z => SmS z.1.1) ((([],[]),0),([],[])) [.slice none 0 0,.slice none 0 0,.int .i64 0] (fun A w => ?_) (by decide) 162 (enters_of Tryz.func162 rfl rfl)
  (fun W A x y us vs hA hx hy hu hv => ?_) (enters_of Tryz.func163 rfl rfl) zs hok hn
 ·have hnil:rdV A w (.slice none 0 0) (.tag [] (.sl 1 [])):=rdV_tag.2 ⟨by simp,ownV_sl.2 ⟨none,[],[],Row.nil _ 1,ownR.nil (by decide),rfl⟩⟩
  exact rdCs.cons hnil (rdCs.cons hnil (rdCs.cons (rdV_int.2 ⟨rfl,by show In64 0;unfold In64;omega⟩) rdCs.nil))
 ·obtain ⟨u1,u2,rfl,r1,r2⟩:=rd_eSpT hA hu
  obtain ⟨v1,v2,rfl,r3,r4⟩:=rd_eSpT hA hv
  exact c_gathered1 W _ _ _ _ _ _ _ _ _ _ r1 r2 r3 r4 (Nat.le_trans hx.1.2 (by decide)) (Nat.le_trans hy.1.2 (by decide))
end Go.Proofs.YtgngidchldajhaaGreat
namespace Go.Proofs.YtgngidchldajhaaGreat
open Go.RowKit
theorem sub_flatN {α:Type} {l1 l2:List (List α)} (h:l1.Sublist l2):l1.flatten.Sublist l2.flatten:=by
 induction h with
 | slnil => exact .slnil
 | cons a _ ih => rw [List.flatten_cons];exact ih.trans (List.sublist_append_right _ _)
 | cons_cons a _ ih => rw [List.flatten_cons,List.flatten_cons];exact List.Sublist.append (List.Sublist.refl _) ih
def eS0 (s:Spl):List D:=[.sl 1 (s.1.map eL),.sl 1 (s.2.map eL),.int 0]
noncomputable def TGa2:Tab Tryz.prog :=
 (Tab.none.add 77 (tab1 codLL fun f => if SmF f then some [.own 1 ((forest f).map eL) true] else none) (tab1_ok fun f rs h => by split at h;cases h;rename_i hs;exact a_forestOf f hs.1 (by have:=hs.2;omega);cases h)).add
  162 (tab2 codSp codSp fun z y => if SmS z.1∧SmS y.1 then some [.val (.int (cmpS z.1 y.1))] else none) (tab2_ok fun z y rs h => by split at h;cases h;rename_i hs;exact a_gathered1 z y hs.1 hs.2;cases h)
structure Ga1 (M:Nat→Prop) (L:List Spl) (i:Nat) (qs:List SpT):Prop where
 le:i ≤ L.length
 eq:qs.map (·.1) = (L.take i).map fun s => (nrmS s,1)
 nd:((qs.map SpT.bl).flatten).Nodup
 mi:∀ b ∈ (qs.map SpT.bl).flatten,M b
theorem Ga1.len {M:Nat→Prop} {L:List Spl} {i:Nat} {qs:List SpT} (h:Ga1 M L i qs):qs.length = i:=by
 have:=congrArg List.length h.eq
 rw [List.length_map,List.length_map,List.length_take] at this
 have:=h.le
 omega
theorem marks_eSpT:∀ (qs:List SpT),rowMarks (qs.map eSpT) = (qs.map SpT.bl).flatten
 | [] => rfl
 | q :: qs => by
  have ih:=marks_eSpT qs
  unfold rowMarks at ih ⊢
  rw [List.map_cons,List.flatMap_cons,ih,List.map_cons,List.flatten_cons]
  congr 1
  simp [eSpT,D.marks,SpT.bl]
theorem rowMarks_left {xs ys:List (List D)} {b:Nat} (h:b ∈ rowMarks xs):b ∈ rowMarks (xs ++ ys):=by
 unfold rowMarks at h ⊢
 rw [List.flatMap_append];exact List.mem_append_left _ h
set_option maxRecDepth 20000 in
set_option maxHeartbeats 8000000 in
theorem a_gathered (L:List Spl) (hl:L.length ≤ 100000) (hL:∀ s ∈ L,SmS s):AOw Tryz.prog 90 [] 3 (L.map eS0) [] (· = [.own 3 ((gathS L).map eSp) true]):=by
 refine AOw.of_runs (cfg_ok 68) Tryz.func90 rfl rfl rfl (by simp only [List.length_nil];decide) ?_
 have hres:Tryz.f90.results.toList = [.tmp 2]:=rfl
 have hrts:Tryz.f90.resultTypes.toList = [50]:=rfl
 simp only [List.length_nil,List.nil_append,argRegs]
 intro M
 refine RunK.of ?_
 repeat' (first|with_reducible (first|refine Q1 ?_|refine Q2 ?_|refine Q3 ?_|refine Q4 ?_|refine Q5 ?_|refine Q6 ?_|refine Q7 ?_|refine Q8 ?_|refine Q9 ?_|refine Qa ?_|refine Qb ?_|refine Qc ?_|refine Qd ?_|refine Qe ?_|refine Qf ?_)|((with_reducible refine Qo ?_ ?_);focus rfl)|((with_reducible first|refine QT 35 (l:=?_) ?_ ?_|refine QF 35 (l:=?_) ?_ ?_);rotate_left 1;focus (simp only [Zu,Nat.reduceSub,Nat.reduceBEq];with_reducible rfl))|((with_reducible first|refine QS (cfg_ok 68) Tab.none (s':=?_) ?_ ?_|refine QC (b:=?_) ?_ ?_);rotate_left 1;focus ((with_reducible refine QW ?_);simp only [Zg,seval,reduceCtorEq,Nat.reduceEqDiff,List.length_map];with_reducible rfl))|((with_reducible refine QD (cfg_ok 68) Tab.none mixed_ok (tr:=?_) (s':=?_) ?_ ?_ ?_);rotate_left 2;(focus ((with_reducible refine QW ?_);simp only [Zg,Zd,seval,if_true,if_false,reduceCtorEq,Nat.reduceEqDiff,List.length_map];with_reducible rfl));focus ((with_reducible refine QK ?_);simp only [Zk];kernel_rfl)))
 refine RunK.loop (β:=Nat × List SpT) (γ:=List SpT) (fun x => ⟨[(0,.c (.own 0 L.length)),(10,.c (.own 0 L.length)),(11,.c (.val (.int L.length))),(12,.c (.val (.int x.1)))],[(0,.row 3 (x.2.map eSpT ++ (L.drop x.1).map eS0) false)]⟩) (fun x => Ga1 M L x.1 x.2) (fun x => L.length - x.1)
  (fun qs => ⟨[(0,.c (.own 0 L.length))],[(0,.row 3 (qs.map eSpT) false)]⟩) (fun qs => Ga1 M L L.length qs) (0,[]) ⟨Nat.zero_le _,rfl,List.nodup_nil,fun b hb => nomatch hb⟩ ?_ ?_ ?_
 ·(repeat' (first|with_reducible refine Qn|((with_reducible refine Qr ?_ ?_);focus (first|with_reducible rfl|(simp only [Zz,Nat.reduceBEq,Int.natCast_zero];done)|rfl))|((with_reducible refine Qj (o':=?_) ?_ ?_ ?_);rotate_left 1;focus rfl)|((with_reducible refine Qw ?_ ?_);(focus (first|with_reducible rfl|(simp only [Zv,List.drop_zero];done)));focus (first|exact id|exact (fun h => nomatch h)|exact (fun _ => rfl)))))
 ·rintro ⟨i,qs⟩ hI
  have hil:=hI.le
  have hqn:=hI.len
  simp only at hil hqn ⊢
  have hw:=w64_succ (n:=i) (by omega)
  have hrl:(qs.map eSpT ++ (L.drop i).map eS0).length = L.length:=by rw [List.length_append,List.length_map,List.length_map,List.length_drop];omega
  by_cases h:i < L.length
  ·have i1:((i:Int) < (L.length:Int)) = True:=eq_true (by omega)
   have i2:((0:Int) ≤ (i:Int)) = True:=eq_true (by omega)
   refine RunK.fresh rfl ?_
   intro M' hM' hold
   have hold:=hold 0 3 (qs.map eSpT ++ (L.drop i).map eS0) rfl
   obtain ⟨s,hs⟩:∃ s,s = L[i]:=⟨_,rfl⟩
   have hsm:=hL L[i] (List.getElem_mem _)
   have hdr:L.drop i = s :: L.drop (i + 1):=by rw [hs];exact List.drop_eq_getElem_cons h
   rw [← hs] at hsm
   have hg:(qs.map eSpT ++ (L.drop i).map eS0)[i]? = some [.sl 1 (s.1.map eL),.sl 1 (s.2.map eL),.int 0]:=by
    rw [List.getElem?_append_right (by rw [List.length_map];omega),List.length_map,hqn,Nat.sub_self,hdr];rfl
   have e1:=eq_true hsm.1
   have e2:=eq_true hsm.2
   repeat' (first|with_reducible (first|refine Q1 ?_|refine Q2 ?_|refine Q3 ?_|refine Q4 ?_|refine Q5 ?_|refine Q6 ?_|refine Q7 ?_|refine Q8 ?_|refine Q9 ?_|refine Qa ?_|refine Qb ?_|refine Qc ?_|refine Qd ?_|refine Qe ?_|refine Qf ?_)|((with_reducible refine Qo ?_ ?_);focus rfl)|((with_reducible first|refine QT 35 (l:=?_) ?_ ?_|refine QF 35 (l:=?_) ?_ ?_);rotate_left 1;focus (simp only [Zu,Nat.reduceSub,Nat.reduceBEq];with_reducible rfl))|((with_reducible first|refine QS (cfg_ok 68) Tab.none (s':=?_) ?_ ?_|refine QC (b:=?_) ?_ ?_);rotate_left 1;focus ((with_reducible refine QW ?_);simp only [Zg,seval,reduceCtorEq,Nat.reduceEqDiff,i1,i2,hg,Int.toNat_natCast];with_reducible rfl))|((with_reducible refine QD (cfg_ok 68) Tab.none mixed_ok (tr:=?_) (s':=?_) ?_ ?_ ?_);rotate_left 2;(focus ((with_reducible refine QW ?_);simp only [Zg,Zd,seval,Nat.reduceEqDiff];with_reducible rfl));focus ((with_reducible refine QK ?_);simp only [Zk];kernel_rfl)))
   ((with_reducible refine RunK.wFz (cfg_ok 68) TGa2 mixed_ok [] (tr:=?_) (s1:=?_) (rest:=?_) ?_ ?_ ?_);rotate_left 3;(focus ((with_reducible refine QW ?_);simp only [Zg,Zd,seval,Nat.reduceEqDiff,drunF,devalF,devalB,dregF_mk,TGa2,TGa2,i1,i2,e1,e2,Int.toNat_natCast];with_reducible rfl));focus ((with_reducible refine QK ?_);simp only [Zk];kernel_rfl))
   refine ROps.markA2 (r:=25) (key1:=21) (key2:=24) (z:=[.val (.int 1)]) rfl rfl rfl (by decide) ?_
   intro F G hnd hFG
   refine ROps.opsT (cfg_ok 68) (T:=Tab.none) (s':=?_) ?_ ?_
   rotate_left 1
   focus (simp only [Zg,seval,Nat.reduceEqDiff,hg];with_reducible rfl)
   repeat' (first|with_reducible (first|refine Q1 ?_|refine Q2 ?_|refine Q3 ?_|refine Q4 ?_|refine Q5 ?_|refine Q6 ?_|refine Q7 ?_|refine Q8 ?_|refine Q9 ?_|refine Qa ?_|refine Qb ?_|refine Qc ?_|refine Qd ?_|refine Qe ?_|refine Qf ?_)|((with_reducible refine Qo ?_ ?_);focus rfl)|((with_reducible first|refine QT 35 (l:=?_) ?_ ?_|refine QF 35 (l:=?_) ?_ ?_);rotate_left 1;focus (simp only [Zu,Nat.reduceSub,Nat.reduceBEq];with_reducible rfl))|((with_reducible first|refine QS (cfg_ok 68) Tab.none (s':=?_) ?_ ?_|refine QC (b:=?_) ?_ ?_);rotate_left 1;focus ((with_reducible refine QW ?_);simp only [Zg,seval,hw];with_reducible rfl))|((with_reducible refine QD (cfg_ok 68) Tab.none mixed_ok (tr:=?_) (s':=?_) ?_ ?_ ?_);rotate_left 2;(focus ((with_reducible refine QW ?_);simp only [Zg,Zd,seval,if_true,if_false,reduceCtorEq,Nat.reduceEqDiff,hw];with_reducible rfl));focus ((with_reducible refine QK ?_);simp only [Zk];kernel_rfl)))
   have hset:(qs.map eSpT ++ (L.drop i).map eS0).set i [.tag F (.sl 1 ((forest s.1).map eL)),.tag G (.sl 1 ((forest s.2).map eL)),.int 1] = (qs ++ [((nrmS s,1),(F,G))]).map eSpT ++ (L.drop (i + 1)).map eS0:=by
    rw [List.set_append_right _ _ (by rw [List.length_map];omega),List.length_map,hqn,Nat.sub_self,hdr,List.map_cons,List.set_cons_zero,List.map_append,List.append_assoc]
    rfl
   refine roundK.on (i + 1,qs ++ [((nrmS s,1),(F,G))]) ⟨⟨h,?_,?_,?_⟩,by show L.length - (i + 1) < L.length - i;omega⟩ ?_
   ·show List.map (fun q:SpT => q.1) (qs ++ [((nrmS s,1),(F,G))]) = (L.take (i + 1)).map fun s => (nrmS s,1)
    have:=hI.eq
    simp only at this
    rw [List.map_append,this,List.take_succ_eq_append_getElem h,List.map_append,← hs];rfl
   ·show (((qs ++ [((nrmS s,1),(F,G))]).map SpT.bl).flatten).Nodup
    rw [List.map_append,List.flatten_append]
    refine List.nodup_append.2 ⟨hI.nd,by simpa [SpT.bl] using hnd,fun b hb c hc e => ?_⟩
    subst e
    refine hold b (rowMarks_left ?_) (hFG b (by simpa [SpT.bl] using hc))
    rw [marks_eSpT];exact hb
   ·intro b hb
    have hb:b ∈ ((qs ++ [((nrmS s,1),(F,G))]).map SpT.bl).flatten:=hb
    rw [List.map_append,List.flatten_append] at hb
    rcases List.mem_append.1 hb with hb|hb
    ·exact hI.mi b hb
    ·exact hM' b (hFG b (by simpa [SpT.bl] using hb))
   ·rw [← hset]
    (repeat' (first|with_reducible refine Qn|((with_reducible refine Qr ?_ ?_);focus (first|with_reducible rfl|(simp only [Zz,Nat.reduceBEq];done)|rfl))|((with_reducible refine Qj (o':=?_) ?_ ?_ ?_);rotate_left 1;focus rfl)|((with_reducible refine Qw ?_ ?_);(focus (first|with_reducible rfl|(simp only [Zv];done)));focus (first|exact id|exact (fun h => nomatch h)|exact (fun _ => rfl)))))
  ·have i1:((i:Int) < (L.length:Int)) = False:=eq_false (by omega)
   obtain rfl:i = L.length:=by omega
   have hd0:L.drop L.length = []:=List.drop_length
   repeat' (first|with_reducible (first|refine Q1 ?_|refine Q2 ?_|refine Q3 ?_|refine Q4 ?_|refine Q5 ?_|refine Q6 ?_|refine Q7 ?_|refine Q8 ?_|refine Q9 ?_|refine Qa ?_|refine Qb ?_|refine Qc ?_|refine Qd ?_|refine Qe ?_|refine Qf ?_)|((with_reducible refine Qo ?_ ?_);focus rfl)|((with_reducible first|refine QT 35 (l:=?_) ?_ ?_|refine QF 35 (l:=?_) ?_ ?_);rotate_left 1;focus (simp only [Zu,Nat.reduceSub,Nat.reduceBEq];with_reducible rfl))|((with_reducible first|refine QS (cfg_ok 68) Tab.none (s':=?_) ?_ ?_|refine QC (b:=?_) ?_ ?_);rotate_left 1;focus ((with_reducible refine QW ?_);simp only [Zg,seval,i1];with_reducible rfl))|((with_reducible refine QD (cfg_ok 68) Tab.none mixed_ok (tr:=?_) (s':=?_) ?_ ?_ ?_);rotate_left 2;(focus ((with_reducible refine QW ?_);simp only [Zg,Zd,seval,if_true,if_false,reduceCtorEq,Nat.reduceEqDiff,i1];with_reducible rfl));focus ((with_reducible refine QK ?_);simp only [Zk];kernel_rfl)))
   refine roundK.out qs hI ?_
   rw [hd0,List.map_nil,List.append_nil]
   (repeat' (first|with_reducible refine Qn|((with_reducible refine Qr ?_ ?_);focus (first|with_reducible rfl|(simp only [Zz,Nat.reduceBEq];done)|rfl))|((with_reducible refine Qj (o':=?_) ?_ ?_ ?_);rotate_left 1;focus rfl)|((with_reducible refine Qw ?_ ?_);(focus (first|with_reducible rfl|(simp only [Zv];done)));focus (first|exact id|exact (fun h => nomatch h)|exact (fun _ => rfl)))))
 ·intro qs hJ
  have hqn:=hJ.len
  have hq1:∀ q ∈ qs,q.1.2 = 1∧SmS q.1.1:=fun q hq => by
   have hm:q.1 ∈ qs.map (·.1):=List.mem_map.2 ⟨q,hq,rfl⟩
   rw [hJ.eq,List.take_length,List.mem_map] at hm
   obtain ⟨s,hs,e⟩:=hm
   rw [← e]
   have:=hL s hs
   refine ⟨rfl,⟨?_,?_⟩,?_,?_⟩
   ·show (sortC cmpT s.1).length ≤ 19
    rw [sortC_length];exact this.1.1
   ·show sumLen (sortC cmpT s.1) ≤ 100
    rw [sumLen_perm (sortC_perm _)];exact this.1.2
   ·show (sortC cmpT s.2).length ≤ 19
    rw [sortC_length];exact this.2.1
   ·show sumLen (sortC cmpT s.2) ≤ 100
    rw [sumLen_perm (sortC_perm _)];exact this.2.2
  have hso:=a_sortSp qs (fun q hq => (hq1 q hq).2) (by omega)
  repeat' (first|with_reducible (first|refine Q1 ?_|refine Q2 ?_|refine Q3 ?_|refine Q4 ?_|refine Q5 ?_|refine Q6 ?_|refine Q7 ?_|refine Q8 ?_|refine Q9 ?_|refine Qa ?_|refine Qb ?_|refine Qc ?_|refine Qd ?_|refine Qe ?_|refine Qf ?_)|((with_reducible refine Qo ?_ ?_);focus rfl)|((with_reducible first|refine QT 35 (l:=?_) ?_ ?_|refine QF 35 (l:=?_) ?_ ?_);rotate_left 1;focus (simp only [Zu,Nat.reduceSub,Nat.reduceBEq];with_reducible rfl))|((with_reducible first|refine QS (cfg_ok 68) Tab.none (s':=?_) ?_ ?_|refine QC (b:=?_) ?_ ?_);rotate_left 1;focus ((with_reducible refine QW ?_);simp only [Zg,seval,reduceCtorEq,Nat.reduceEqDiff];with_reducible rfl))|((with_reducible refine QD (cfg_ok 68) Tab.none mixed_ok (tr:=?_) (s':=?_) ?_ ?_ ?_);rotate_left 2;(focus ((with_reducible refine QW ?_);simp only [Zg,Zd,seval,if_true,if_false,reduceCtorEq,Nat.reduceEqDiff];with_reducible rfl));focus ((with_reducible refine QK ?_);simp only [Zk];kernel_rfl)))
  refine RunK.regCut (cfg_ok 68) Tab.none 2 (s1:=?_) ?_ ?_
  rotate_left 1
  focus (refine Work.mk ?_;simp only [Zg,seval];with_reducible rfl)
  simp only [List.drop_succ_cons,List.drop_zero]
  refine ROps.callEf (cfg_ok 68) rfl rfl (by decide) rfl rfl (x:=.tmp 28) (xpost:=[.tmp 29]) rfl rfl (post:=[[.raw (.func (.func 162) #[] #[])]]) ?_ ?_ rfl rfl ?_ hso (R:=fun ys => ∃ zs:List SpT,ys = zs.map eSpT∧zs.Perm qs∧zs.Pairwise (fun a b => cmpS a.1.1 b.1.1 ≤ 0)) ?_ ?_
  ·simp only [Zg,seval]
  ·rfl
  ·intro q u hq hu
   rw [look,if_neg (fun e => hq e.symm)] at hu
   cases hu
  ·rintro rs oc ⟨rfl,zs,rfl,h1,h2⟩
   exact ⟨rfl,_,rfl,zs,rfl,h1,h2⟩
  rintro _ ⟨zs,rfl,hperm,hsort⟩
  have hzl:zs.length = L.length:=by rw [hperm.length_eq];exact hqn
  have hzz:∀ z ∈ zs,z.1.2 = 1∧SmS z.1.1:=fun z hz => hq1 z (hperm.mem_iff.1 hz)
  refine ROps.opsT (cfg_ok 68) (T:=Tab.none) (s':=?_) ?_ ?_
  rotate_left 1
  focus (simp only [Zg,seval];with_reducible rfl)
  repeat' (first|with_reducible (first|refine Q1 ?_|refine Q2 ?_|refine Q3 ?_|refine Q4 ?_|refine Q5 ?_|refine Q6 ?_|refine Q7 ?_|refine Q8 ?_|refine Q9 ?_|refine Qa ?_|refine Qb ?_|refine Qc ?_|refine Qd ?_|refine Qe ?_|refine Qf ?_)|((with_reducible refine Qo ?_ ?_);focus rfl)|((with_reducible first|refine QT 35 (l:=?_) ?_ ?_|refine QF 35 (l:=?_) ?_ ?_);rotate_left 1;focus (simp only [Zu,Nat.reduceSub,Nat.reduceBEq];with_reducible rfl))|((with_reducible first|refine QS (cfg_ok 68) Tab.none (s':=?_) ?_ ?_|refine QC (b:=?_) ?_ ?_);rotate_left 1;focus ((with_reducible refine QW ?_);simp only [Zg,seval,reduceCtorEq,Nat.reduceEqDiff];with_reducible rfl))|((with_reducible refine QD (cfg_ok 68) Tab.none mixed_ok (tr:=?_) (s':=?_) ?_ ?_ ?_);rotate_left 2;(focus ((with_reducible refine QW ?_);simp only [Zg,Zd,seval,if_true,if_false,reduceCtorEq,Nat.reduceEqDiff];with_reducible rfl));focus ((with_reducible refine QK ?_);simp only [Zk];kernel_rfl)))
  obtain ⟨R,hR⟩:∃ R,R = fun i => runQ (zs.take i):=⟨_,rfl⟩
  have hRi:∀ i,i ≤ zs.length→(R i).length ≤ 100000∧∀ q ∈ R i,(1 ≤ q.1.2∧q.1.2 ≤ 100000)∧SmS q.1.1:=fun i hi => by
   rw [hR]
   obtain ⟨_,_,h3,h4⟩:=runQ_spec _ (zs.take i) rfl (fun q hq => (hzz q (List.mem_of_mem_take hq)).1)
   rw [List.length_take] at h3 h4
   refine ⟨by show (runQ (zs.take i)).length ≤ 100000;omega,fun q hq => ?_⟩
   obtain ⟨h5,p,hp,h6⟩:=h4 q hq
   exact ⟨by omega,h6 ▸ (hzz p (List.mem_of_mem_take hp)).2⟩
  refine RunK.loop (β:=Nat) (γ:=Unit) (fun i => ⟨[(5,.c (.val (.raw (.func (.func 162) #[] #[])))),(6,.c (.own 6 (R i).length)),(32,.c (.own 0 L.length)),(33,.c (.val (.int L.length))),(34,.c (.val (.int i)))],[(0,.row 3 (zs.map eSpT) false),(6,.row 3 ((R i).map eSpT) false)]⟩) (fun i => i ≤ L.length) (fun i => L.length - i)
   (fun _ => ⟨[(6,.c (.own 6 (R L.length).length))],[(6,.row 3 ((R L.length).map eSpT) false)]⟩) (fun _ => True) 0 (Nat.zero_le _) ?_ ?_ ?_
  ·have e0:R 0 = []:=by rw [hR];rfl
   rw [e0]
   (repeat' (first|with_reducible refine Qn|((with_reducible refine Qr ?_ ?_);focus (first|with_reducible rfl|(simp only [Zz,Nat.reduceBEq,Int.natCast_zero];done)|rfl))|((with_reducible refine Qj (o':=?_) ?_ ?_ ?_);rotate_left 1;focus rfl)|((with_reducible refine Qw ?_ ?_);(focus (first|with_reducible rfl|(simp only [Zv];done)));focus (first|exact id|exact (fun h => nomatch h)|exact (fun _ => rfl)))))
  ·intro i hi
   have hi:i ≤ L.length:=hi
   have hw:=w64_succ (n:=i) (by omega)
   obtain ⟨hb1,hb2⟩:=hRi i (by omega)
   have hzml:(zs.map eSpT).length = L.length:=by rw [List.length_map,hzl]
   by_cases h:i < L.length
   ·have hz':i < zs.length:=by omega
    have i1:((i:Int) < (L.length:Int)) = True:=eq_true (by omega)
    have i2:((0:Int) ≤ (i:Int)) = True:=eq_true (by omega)
    obtain ⟨p,hp⟩:∃ p,p = zs[i]:=⟨_,rfl⟩
    have hpz:=hzz zs[i] (List.getElem_mem _)
    have hst:R (i + 1) = stepQ (R i) p:=by
     rw [hR]
     show runQ (zs.take (i + 1)) = stepQ (runQ (zs.take i)) p
     rw [List.take_succ_eq_append_getElem hz',← hp,runQ_snoc]
    have hg:(zs.map eSpT)[i]? = some (eSpT p):=by rw [map_get hz',hp]
    rw [← hp] at hpz
    obtain ⟨⟨⟨pf,pg⟩,pn⟩,⟨pF,pG⟩⟩:=p
    simp only [eSpT] at hg
    simp only at hpz
    have hpz2:=hpz.2
    have q1:=big_le (n:=(R i).length + 1) (by omega)
    have q2:=big_mul (n:=(R i).length + 1) (c:=56) (by omega) (by omega)
    by_cases h0:R i = []
    ·rw [h0,stepQ_nil] at hst
     have j1:(((0:Nat):Int) > 0) = False:=eq_false (by omega)
     rw [h0] at q1 q2 ⊢
     simp only [List.length_nil] at q1 q2
     repeat' (first|with_reducible (first|refine Q1 ?_|refine Q2 ?_|refine Q3 ?_|refine Q4 ?_|refine Q5 ?_|refine Q6 ?_|refine Q7 ?_|refine Q8 ?_|refine Q9 ?_|refine Qa ?_|refine Qb ?_|refine Qc ?_|refine Qd ?_|refine Qe ?_|refine Qf ?_)|((with_reducible refine Qo ?_ ?_);focus rfl)|((with_reducible first|refine QT 35 (l:=?_) ?_ ?_|refine QF 35 (l:=?_) ?_ ?_);rotate_left 1;focus (simp only [Zu,Nat.reduceSub,Nat.reduceBEq];with_reducible rfl))|((with_reducible first|refine QS (cfg_ok 68) TGa2 (s':=?_) ?_ ?_|refine QC (b:=?_) ?_ ?_);rotate_left 1;focus ((with_reducible refine QW ?_);simp only [Zg,seval,reduceCtorEq,Nat.reduceEqDiff,TGa2,TGa2,i1,i2,hg,hw,q1,q2,Int.toNat_natCast];with_reducible rfl))|((with_reducible refine QD (cfg_ok 68) TGa2 mixed_ok (tr:=?_) (s':=?_) ?_ ?_ ?_);rotate_left 2;(focus ((with_reducible refine QW ?_);simp only [Zg,Zd,seval,Nat.reduceEqDiff,TGa2,TGa2];with_reducible rfl));focus ((with_reducible refine QK ?_);simp only [Zk];kernel_rfl)))
     refine roundK.on (i + 1) ⟨h,by omega⟩ ?_
     rw [hst]
     (repeat' (first|with_reducible refine Qn|((with_reducible refine Qr ?_ ?_);focus (first|with_reducible rfl|(simp only [Zz,Nat.reduceBEq];done)|rfl))|((with_reducible refine Qj (o':=?_) ?_ ?_ ?_);rotate_left 1;focus rfl)|((with_reducible refine Qw ?_ ?_);(focus (first|with_reducible rfl|(simp only [Zv,eSpT];done)));focus (first|exact id|exact (fun h => nomatch h)|exact (fun _ => rfl)))))
    ·obtain ⟨qo,q,eq⟩:=snocN h0
     have hlq:(R i).length = qo.length + 1:=by rw [eq];simp
     obtain ⟨hz1,hz3⟩:=hb2 q (by rw [eq];simp)
     obtain ⟨⟨⟨qf,qg⟩,qn⟩,⟨qF,qG⟩⟩:=q
     simp only at hz1 hz3
     have j1:((((qo.length + 1:Nat)):Int) > 0) = True:=eq_true (by omega)
     have hw1:w64 (((qo.length + 1:Nat):Int) - 1) = ((qo.length:Nat):Int):=by rw [w64_eq (by omega)];omega
     have i3:((0:Int) ≤ ((qo.length:Nat):Int)) = True:=eq_true (by omega)
     have i4:(((qo.length:Nat):Int) < ((qo.length + 1:Nat):Int)) = True:=eq_true (by omega)
     have hgz:((R i).map eSpT)[qo.length]? = some [.tag qF (.sl 1 (qf.map eL)),.tag qG (.sl 1 (qg.map eL)),.int qn]:=by
      rw [eq,List.map_append,List.getElem?_append_right (by simp)];simp [eSpT]
     have hxl:((R i).map eSpT).length = qo.length + 1:=by rw [List.length_map,hlq]
     have hk2:=eq_true (And.intro hz3 hpz2)
     rw [hlq] at hb1 q1 q2 ⊢
     by_cases he:cmpS (qf,qg) (pf,pg) = 0
     ·have hd:(cmpS (qf,qg) (pf,pg) == 0) = true:=beq_iff_eq.2 he
      have hwz:=w64_eq (n:=qn + 1) (by omega)
      repeat' (first|with_reducible (first|refine Q1 ?_|refine Q2 ?_|refine Q3 ?_|refine Q4 ?_|refine Q5 ?_|refine Q6 ?_|refine Q7 ?_|refine Q8 ?_|refine Q9 ?_|refine Qa ?_|refine Qb ?_|refine Qc ?_|refine Qd ?_|refine Qe ?_|refine Qf ?_)|((with_reducible refine Qo ?_ ?_);focus rfl)|((with_reducible first|refine QT 35 (l:=?_) ?_ ?_|refine QF 35 (l:=?_) ?_ ?_);rotate_left 1;focus (simp only [Zu,Nat.reduceSub,Nat.reduceBEq];with_reducible rfl))|((with_reducible first|refine QS (cfg_ok 68) TGa2 (s':=?_) ?_ ?_|refine QC (b:=?_) ?_ ?_);rotate_left 1;focus ((with_reducible refine QW ?_);simp only [Zg,seval,reduceCtorEq,Nat.reduceEqDiff,TGa2,TGa2,i1,i2,i3,i4,hg,hgz,hw,hw1,hwz,Int.toNat_natCast];with_reducible rfl))|((with_reducible refine QD (cfg_ok 68) TGa2 mixed_ok (tr:=?_) (s':=?_) ?_ ?_ ?_);rotate_left 2;(focus ((with_reducible refine QW ?_);simp only [Zg,Zd,seval,Nat.reduceEqDiff,TGa2,TGa2,codSp_d,i3,i4,hgz,hw1,hd,j1,hk2,Int.toNat_natCast];with_reducible rfl));focus ((with_reducible refine QK ?_);simp only [Zk];kernel_rfl)))
      have hR2:R (i + 1) = qo ++ [(((qf,qg),qn + 1),(qF,qG))]:=by rw [hst,eq];exact stepQ_eq qo _ _ he
      have hse:((R i).map eSpT).set qo.length [.tag qF (.sl 1 (qf.map eL)),.tag qG (.sl 1 (qg.map eL)),.int (qn + 1)] = (R (i + 1)).map eSpT:=by
       rw [hR2,eq,List.map_append,List.set_append_right _ _ (by simp)];simp [eSpT]
      refine roundK.on (i + 1) ⟨h,by omega⟩ ?_
      have hl2:(R (i + 1)).length = qo.length + 1:=by rw [hR2];simp
      rw [hl2,← hse]
      (repeat' (first|with_reducible refine Qn|((with_reducible refine Qr ?_ ?_);focus (first|with_reducible rfl|(simp only [Zz,Nat.reduceBEq];done)|rfl))|((with_reducible refine Qj (o':=?_) ?_ ?_ ?_);rotate_left 1;focus rfl)|((with_reducible refine Qw ?_ ?_);(focus (first|with_reducible rfl|(simp only [Zv];done)));focus (first|exact id|exact (fun h => nomatch h)|exact (fun _ => rfl)))))
     ·have hd:(cmpS (qf,qg) (pf,pg) == 0) = false:=beq_eq_false_iff_ne.2 he
      repeat' (first|with_reducible (first|refine Q1 ?_|refine Q2 ?_|refine Q3 ?_|refine Q4 ?_|refine Q5 ?_|refine Q6 ?_|refine Q7 ?_|refine Q8 ?_|refine Q9 ?_|refine Qa ?_|refine Qb ?_|refine Qc ?_|refine Qd ?_|refine Qe ?_|refine Qf ?_)|((with_reducible refine Qo ?_ ?_);focus rfl)|((with_reducible first|refine QT 35 (l:=?_) ?_ ?_|refine QF 35 (l:=?_) ?_ ?_);rotate_left 1;focus (simp only [Zu,Nat.reduceSub,Nat.reduceBEq];with_reducible rfl))|((with_reducible first|refine QS (cfg_ok 68) TGa2 (s':=?_) ?_ ?_|refine QC (b:=?_) ?_ ?_);rotate_left 1;focus ((with_reducible refine QW ?_);simp only [Zg,seval,reduceCtorEq,Nat.reduceEqDiff,TGa2,TGa2,i1,i2,hg,hxl,hw,q1,q2,Int.toNat_natCast];with_reducible rfl))|((with_reducible refine QD (cfg_ok 68) TGa2 mixed_ok (tr:=?_) (s':=?_) ?_ ?_ ?_);rotate_left 2;(focus ((with_reducible refine QW ?_);simp only [Zg,Zd,seval,Nat.reduceEqDiff,TGa2,TGa2,codSp_d,i3,i4,hgz,hw1,hd,j1,hk2,Int.toNat_natCast];with_reducible rfl));focus ((with_reducible refine QK ?_);simp only [Zk];kernel_rfl)))
      have hR2:R (i + 1) = R i ++ [(((pf,pg),pn),(pF,pG))]:=by rw [hst,eq];exact stepQ_ne qo _ _ he
      refine roundK.on (i + 1) ⟨h,by omega⟩ ?_
      rw [hR2,List.length_append,hlq]
      (repeat' (first|with_reducible refine Qn|((with_reducible refine Qr ?_ ?_);focus (first|with_reducible rfl|(simp only [Zz,Nat.reduceBEq];done)|rfl))|((with_reducible refine Qj (o':=?_) ?_ ?_ ?_);rotate_left 1;focus rfl)|((with_reducible refine Qw ?_ ?_);(focus (first|with_reducible rfl|(simp only [Zv,eSpT];done)));focus (first|exact id|exact (fun h => nomatch h)|exact (fun _ => rfl)))))
   ·have i1:((i:Int) < (L.length:Int)) = False:=eq_false (by omega)
    obtain rfl:i = L.length:=by omega
    repeat' (first|with_reducible (first|refine Q1 ?_|refine Q2 ?_|refine Q3 ?_|refine Q4 ?_|refine Q5 ?_|refine Q6 ?_|refine Q7 ?_|refine Q8 ?_|refine Q9 ?_|refine Qa ?_|refine Qb ?_|refine Qc ?_|refine Qd ?_|refine Qe ?_|refine Qf ?_)|((with_reducible refine Qo ?_ ?_);focus rfl)|((with_reducible first|refine QT 35 (l:=?_) ?_ ?_|refine QF 35 (l:=?_) ?_ ?_);rotate_left 1;focus (simp only [Zu,Nat.reduceSub,Nat.reduceBEq];with_reducible rfl))|((with_reducible first|refine QS (cfg_ok 68) Tab.none (s':=?_) ?_ ?_|refine QC (b:=?_) ?_ ?_);rotate_left 1;focus ((with_reducible refine QW ?_);simp only [Zg,seval,i1];with_reducible rfl))|((with_reducible refine QD (cfg_ok 68) Tab.none mixed_ok (tr:=?_) (s':=?_) ?_ ?_ ?_);rotate_left 2;(focus ((with_reducible refine QW ?_);simp only [Zg,Zd,seval,if_true,if_false,reduceCtorEq,Nat.reduceEqDiff,i1];with_reducible rfl));focus ((with_reducible refine QK ?_);simp only [Zk];kernel_rfl)))
    refine roundK.out () trivial ?_
    (repeat' (first|with_reducible refine Qn|((with_reducible refine Qr ?_ ?_);focus (first|with_reducible rfl|(simp only [Zz,Nat.reduceBEq];done)|rfl))|((with_reducible refine Qj (o':=?_) ?_ ?_ ?_);rotate_left 1;focus rfl)|((with_reducible refine Qw ?_ ?_);(focus (first|with_reducible rfl|(simp only [Zv];done)));focus (first|exact id|exact (fun h => nomatch h)|exact (fun _ => rfl)))))
  ·rintro _ _
   have hRL:R L.length = runQ zs:=by rw [hR];show runQ (zs.take L.length) = _;rw [← hzl,List.take_length]
   obtain ⟨k1,k2,_,_⟩:=runQ_spec _ zs rfl (fun q hq => (hzz q hq).1)
   rw [hRL]
   repeat' (first|with_reducible (first|refine Q1 ?_|refine Q2 ?_|refine Q3 ?_|refine Q4 ?_|refine Q5 ?_|refine Q6 ?_|refine Q7 ?_|refine Q8 ?_|refine Q9 ?_|refine Qa ?_|refine Qb ?_|refine Qc ?_|refine Qd ?_|refine Qe ?_|refine Qf ?_)|((with_reducible refine Qo ?_ ?_);focus rfl)|((with_reducible first|refine QT 35 (l:=?_) ?_ ?_|refine QF 35 (l:=?_) ?_ ?_);rotate_left 1;focus (simp only [Zu,Nat.reduceSub,Nat.reduceBEq];with_reducible rfl))|((with_reducible first|refine QS (cfg_ok 68) Tab.none (s':=?_) ?_ ?_|refine QC (b:=?_) ?_ ?_);rotate_left 1;focus ((with_reducible refine QW ?_);simp only [Zg,seval,Nat.reduceEqDiff];with_reducible rfl))|((with_reducible refine QD (cfg_ok 68) Tab.none mixed_ok (tr:=?_) (s':=?_) ?_ ?_ ?_);rotate_left 2;(focus ((with_reducible refine QW ?_);simp only [Zg,Zd,seval,if_true,if_false,reduceCtorEq,Nat.reduceEqDiff];with_reducible rfl));focus ((with_reducible refine QK ?_);simp only [Zk];kernel_rfl)))
   refine Ends.un (by simp) hres hrts (r:=?_) (r':=.own 3 ((gathS L).map eSp) true) (l:=[]) (ks:=?_) ?_ ?_ (by simp) ?_ rfl
   rotate_left 2
   focus (simp only [aresults,ares,Zg,seval,Nat.reduceEqDiff];with_reducible rfl)
   focus simp
   have hx:gathS L = (runQ zs).map (·.1):=by
    rw [k1]
    refine IsN.ext cmpS_cmp (gathS_is L) (runsN_sorted cmpS_cmp (M:=L.map nrmS) ?_ ?_) (List.Perm.refl _)
    ·refine (hperm.map (·.1.1)).trans ?_
     have:=congrArg (List.map (·.1)) hJ.eq
     rw [List.map_map,List.map_map,List.take_length] at this
     rw [show (qs.map fun x => x.1.1) = qs.map ((fun x => x.1) ∘ fun x => x.1) from rfl,this]
     exact List.Perm.refl _
    ·exact List.pairwise_map.2 hsort
   rw [hx]
   have hp2:=(hperm.map SpT.bl).flatten
   refine ⟨((runQ zs).map SpT.bl).flatten,?_,fun b hb => hJ.mi b ?_,.inl ⟨3,_,_,rfl,rfl,tag_mkS _⟩⟩
   ·exact (hp2.nodup_iff.2 hJ.nd).sublist (sub_flatN k2)
   ·exact hp2.mem_iff.1 ((sub_flatN k2).subset hb)
end Go.Proofs.YtgngidchldajhaaGreat
namespace Go.Proofs.YtgngidchldajhaaGreat
open Go.RowKit
set_option maxRecDepth 100000 in
set_option maxHeartbeats 400000 in
theorem c_slicesGrowL (n:Nat) (w:World) (hn:n ≤ 1000000000):Calls Tryz.prog 215 #[.slice none 0 0,.int .i64 n] w (RetO (RS (RS RI)) w []):=by
 by_cases h0:n = 0
 ·subst h0
  go_enter Tryz.func215,Tryz.ntmps215
  go_wp2_with fail
  go_ret
  exact ⟨_,rfl,Own.nil _ _,Below.refl _ _⟩
 ·obtain ⟨ht,⟨i,hi,hz,hsz,hby⟩,_,_⟩:=tI64S
  have hr:=Lib.run_append_nil_zeros (P:=Tryz.prog) w 31 3 31 24 i (.slice none 0 0) .i64 .i64 ht Tryz.underlying3 hi hz n (by omega) (by omega) (by omega) (by rw [hby];omega)
  have hge:=grownCap_ge w n 0 24
  have hcm:grownCap w n 0 24 ≤ maxLen:=grownCap_le_maxLen w n 0 24 (by unfold maxLen;omega)
  obtain ⟨cp,hcp⟩:∃ cp,cp = grownCap w n 0 24:=⟨_,rfl⟩
  rw [← hcp] at hr hge hcm
  obtain ⟨cur,hcur⟩:∃ cur,cur = Builtin.zeroCells (Value.slice none 0 0).cells n ++ Builtin.zeroCells (Value.slice none 0 0).cells (cp - n):=⟨_,rfl⟩
  have hcs:cur.size = cp * 1:=by
   rw [hcur,Array.size_append,size_zeroCells,size_zeroCells]
   show n * 1 + (cp - n) * 1 = cp * 1
   omega
  rw [← hcur] at hr
  have hrow:Row (w.drew.alloc (.cells cur 24)) (.slice (some ⟨w.heap.size,0,none⟩) 0 cp) 1 0 [] (some w.heap.size) :=
   ⟨rfl,.inr ⟨w.heap.size,cp,cur,24,rfl,rfl,Go.heap_alloc_new w.drew _,Nat.zero_le _,hcm,hcs,by simp⟩⟩
  have hown:Own (RS (RS RI)) w.heap.size (w.drew.alloc (.cells cur 24)).heap.size (w.drew.alloc (.cells cur 24)) [.slice (some ⟨w.heap.size,0,none⟩) 0 cp] [] :=
   Own.mk' (og:=some w.heap.size) (F:=[]) (ds:=[]) hrow ⟨rfl,rfl⟩ (by simp) (fun b hb => by simp at hb;subst hb;simp)
  have hbel:Below w.heap.size w (w.drew.alloc (.cells cur 24)):=⟨rfl,rfl,rfl,by simp,fun k hk => Below.heap_alloc w.drew _ k hk⟩
  have HR:=Lib.hid hr
  have HO:=Lib.hid hown
  have hp:(0:Int) < (n:Int):=by omega
  have hp2:¬ ((n:Int) < 0):=by omega
  unfold maxLen at hcm
  clear hr hown hrow hcp hcur hi hz hsz hby ht hcs
  go_enter Tryz.func215,Tryz.ntmps215
  go_wp2_with (at_builtin;refine StopAt (o:=⟨some 22,_,_,_,_,_⟩) ?_)
  refine Stop.go ?_
  refine Lib.wpList_append_run w rfl _ _ _ _ rfl _ _ rfl rfl _ _ HR.out ?_
  go_wp2_with fail
  go_ret
  exact ⟨_,rfl,HO.out,hbel⟩
theorem a_slicesGrowL (n:Nat) (hn:n ≤ 1000000000):AFn Tryz.prog 215 [[.raw (.slice none 0 0)],eI n] (· = [.own 1 [] true]) :=
 AFn.of_o (xs:=[]) (encS encI) (enters_of Tryz.func215 rfl rfl) (fun w A vs ⟨v1,_,e1,h1,v2,_,e2,h2,e3⟩ => by
  subst e3;subst e2;subst e1
  rw [arg_int h2,(rdV_raw.1 h1).1]
  exact c_slicesGrowL n w hn)
def eLLL' (x:List (List Int)):List D:=[.sl 1 (x.map eL)]
def cntL (bs:List (List (List Int))):Nat:=(bs.map List.length).sum
theorem cntL_take_succ (bs:List (List (List Int))) (k:Nat) (h:k < bs.length):cntL (bs.take (k + 1)) = cntL (bs.take k) + bs[k].length:=by
 unfold cntL
 rw [List.take_succ_eq_append_getElem h,List.map_append,List.sum_append];simp
theorem cntL_flat (bs:List (List (List Int))):bs.flatten.length = cntL bs:=by simp [cntL,List.length_flatten]
theorem cntL_take (bs:List (List (List Int))) (k:Nat):cntL (bs.take k) ≤ cntL bs:=by
 rw [← cntL_flat,← cntL_flat]
 conv => rhs;rw [← List.take_append_drop k bs]
 rw [List.flatten_append,List.length_append]
 omega
set_option maxHeartbeats 4000000 in
theorem a_slicesConcatL (bs:List (List (List Int))) (hsz:cntL bs ≤ 1000000) (hl:bs.length ≤ 1000000):AFn Tryz.prog 155 [[.sl 1 (bs.map eLLL')]] (· = [.own 1 (bs.flatten.map eL) false]):=by
 refine AFn.of_runs (cfg_ok 36) Tryz.func155 rfl rfl rfl (by simp only [List.length_cons,List.length_nil];decide) ?_
 have hres:Tryz.f155.results.toList = [.tmp 2]:=rfl
 have hrts:Tryz.f155.resultTypes.toList = [31]:=rfl
 simp only [argRegs,argAV1,eL,eI,eLL,eB,Nat.zero_add,Nat.reduceAdd]
 intro M
 refine RunK.of ?_
 repeat' (first|with_reducible (first|refine Q1 ?_|refine Q2 ?_|refine Q3 ?_|refine Q4 ?_|refine Q5 ?_|refine Q6 ?_|refine Q7 ?_|refine Q8 ?_|refine Q9 ?_|refine Qa ?_|refine Qb ?_|refine Qc ?_|refine Qd ?_|refine Qe ?_|refine Qf ?_)|((with_reducible refine Qo ?_ ?_);focus rfl)|((with_reducible first|refine QT 28 (l:=?_) ?_ ?_|refine QF 28 (l:=?_) ?_ ?_);rotate_left 1;focus (simp only [Zu,Nat.reduceSub,Nat.reduceBEq];with_reducible rfl))|((with_reducible first|refine QS (cfg_ok 36) Tab.none (s':=?_) ?_ ?_|refine QC (b:=?_) ?_ ?_);rotate_left 1;focus ((with_reducible refine QW ?_);simp only [Zg,seval,if_true,if_false,reduceCtorEq,Nat.reduceEqDiff,List.length_map];with_reducible rfl)))
 refine RunK.loop (β:=Nat) (γ:=Unit) (fun i => ⟨[(0,.c (.val (.sl 1 (bs.map eLLL')))),(3,.c (.val (.int (cntL (bs.take i):Nat)))),(9,.c (.val (.sl 1 (bs.map eLLL')))),(10,.c (.val (.int bs.length))),(11,.c (.val (.int i)))],[]⟩) (fun i => i ≤ bs.length) (fun i => bs.length - i)
  (fun _ => ⟨[(0,.c (.val (.sl 1 (bs.map eLLL')))),(3,.c (.val (.int (cntL bs:Nat))))],[]⟩) (fun _ => True) 0 (Nat.zero_le _) ?_ ?_ ?_
 ·(repeat' (first|with_reducible refine Qn|((with_reducible refine Qr ?_ ?_);focus (first|with_reducible rfl|(simp only [Zz,Nat.reduceBEq,List.take_zero,show cntL [] = 0 from rfl,List.length_map];done)|rfl))|((with_reducible refine Qj (o':=?_) ?_ ?_ ?_);rotate_left 1;focus rfl)|((with_reducible refine Qw ?_ ?_);(focus (first|with_reducible rfl|(simp only [Zv,List.take_zero,show cntL [] = 0 from rfl,List.length_map];done)));focus (first|exact id|exact (fun h => nomatch h)|exact (fun _ => rfl)))))
 ·intro i hi
  have hi:i ≤ bs.length:=hi
  have hw:=w64_succ (n:=i) (by omega)
  by_cases h:i < bs.length
  ·have i1:((i:Int) < (bs.length:Int)) = True:=eq_true (by omega)
   have i2:((0:Int) ≤ (i:Int)) = True:=eq_true (by omega)
   obtain ⟨f,hf⟩:∃ f,f = bs[i]:=⟨_,rfl⟩
   have hg:(bs.map eLLL')[i]? = some [.sl 1 (f.map eL)]:=by rw [map_get h,hf];rfl
   have hst:=cntL_take_succ bs i h
   have hle:=cntL_take bs (i + 1)
   rw [← hf] at hst
   have hws:w64 ((cntL (bs.take i):Int) + (f.length:Int)) = ((cntL (bs.take (i + 1)):Nat):Int):=by rw [w64_eq (by omega)];omega
   have j1:(((cntL (bs.take (i + 1)):Nat):Int) < 0) = False:=eq_false (by omega)
   repeat' (first|with_reducible (first|refine Q1 ?_|refine Q2 ?_|refine Q3 ?_|refine Q4 ?_|refine Q5 ?_|refine Q6 ?_|refine Q7 ?_|refine Q8 ?_|refine Q9 ?_|refine Qa ?_|refine Qb ?_|refine Qc ?_|refine Qd ?_|refine Qe ?_|refine Qf ?_)|((with_reducible refine Qo ?_ ?_);focus rfl)|((with_reducible first|refine QT 28 (l:=?_) ?_ ?_|refine QF 28 (l:=?_) ?_ ?_);rotate_left 1;focus (simp only [Zu,Nat.reduceSub,Nat.reduceBEq];with_reducible rfl))|((with_reducible first|refine QS (cfg_ok 36) Tab.none (s':=?_) ?_ ?_|refine QC (b:=?_) ?_ ?_);rotate_left 1;focus ((with_reducible refine QW ?_);simp only [Zg,seval,if_true,if_false,reduceCtorEq,Nat.reduceEqDiff,i1,i2,hg,hw,hws,j1,Int.toNat_natCast,List.length_map];with_reducible rfl)))
   refine roundK.on (i + 1) ⟨h,by omega⟩ ?_
   (repeat' (first|with_reducible refine Qn|((with_reducible refine Qr ?_ ?_);focus (first|with_reducible rfl|(simp only [Zz,Nat.reduceBEq];done)|rfl))|((with_reducible refine Qj (o':=?_) ?_ ?_ ?_);rotate_left 1;focus rfl)|((with_reducible refine Qw ?_ ?_);(focus (first|with_reducible rfl|(simp only [Zv];done)));focus (first|exact id|exact (fun h => nomatch h)|exact (fun _ => rfl)))))
  ·have i1:((i:Int) < (bs.length:Int)) = False:=eq_false (by omega)
   obtain rfl:i = bs.length:=by omega
   rw [List.take_length]
   repeat' (first|with_reducible (first|refine Q1 ?_|refine Q2 ?_|refine Q3 ?_|refine Q4 ?_|refine Q5 ?_|refine Q6 ?_|refine Q7 ?_|refine Q8 ?_|refine Q9 ?_|refine Qa ?_|refine Qb ?_|refine Qc ?_|refine Qd ?_|refine Qe ?_|refine Qf ?_)|((with_reducible refine Qo ?_ ?_);focus rfl)|((with_reducible first|refine QT 28 (l:=?_) ?_ ?_|refine QF 28 (l:=?_) ?_ ?_);rotate_left 1;focus (simp only [Zu,Nat.reduceSub,Nat.reduceBEq];with_reducible rfl))|((with_reducible first|refine QS (cfg_ok 36) Tab.none (s':=?_) ?_ ?_|refine QC (b:=?_) ?_ ?_);rotate_left 1;focus ((with_reducible refine QW ?_);simp only [Zg,seval,if_true,if_false,reduceCtorEq,Nat.reduceEqDiff,i1];with_reducible rfl)))
   refine roundK.out () trivial ?_
   (repeat' (first|with_reducible refine Qn|((with_reducible refine Qr ?_ ?_);focus (first|with_reducible rfl|(simp only [Zz,Nat.reduceBEq];done)|rfl))|((with_reducible refine Qj (o':=?_) ?_ ?_ ?_);rotate_left 1;focus rfl)|((with_reducible refine Qw ?_ ?_);(focus (first|with_reducible rfl|(simp only [Zv];done)));focus (first|exact id|exact (fun h => nomatch h)|exact (fun _ => rfl)))))
 ·rintro _ _
  have hgr:=a_slicesGrowL (cntL bs) (by omega)
  repeat' (first|with_reducible (first|refine Q1 ?_|refine Q2 ?_|refine Q3 ?_|refine Q4 ?_|refine Q5 ?_|refine Q6 ?_|refine Q7 ?_|refine Q8 ?_|refine Q9 ?_|refine Qa ?_|refine Qb ?_|refine Qc ?_|refine Qd ?_|refine Qe ?_|refine Qf ?_)|((with_reducible refine Qo ?_ ?_);focus rfl)|((with_reducible first|refine QT 28 (l:=?_) ?_ ?_|refine QF 28 (l:=?_) ?_ ?_);rotate_left 1;focus (simp only [Zu,Nat.reduceSub,Nat.reduceBEq];with_reducible rfl))|((with_reducible first|refine QS (cfg_ok 36) Tab.none (s':=?_) ?_ ?_|refine QC (b:=?_) ?_ ?_);rotate_left 1;focus ((with_reducible refine QW ?_);simp only [Zg,seval,if_true,if_false,reduceCtorEq,Nat.reduceEqDiff,List.length_map];with_reducible rfl)))
  refine RunK.regCut (cfg_ok 36) Tab.none 1 (s1:=?_) ?_ ?_
  rotate_left 1
  focus (refine Work.mk ?_;simp only [Zg,seval,if_true,if_false,reduceCtorEq,Nat.reduceEqDiff];with_reducible rfl)
  simp only [List.toList_toArray,List.drop_succ_cons,List.drop_zero]
  refine ROps.callNilP (cfg_ok 36) (d:=24) (g:=215) (xs:=[]) (tx:=[]) (pre:=[]) (ys:=[.tmp 23]) (ty:=[3]) (post:=[eI (cntL bs:Nat)]) rfl (by decide) rfl rfl rfl rfl rfl rfl rfl rfl hgr rfl ?_
  refine ROps.opsT (cfg_ok 36) (T:=Tab.none) (s':=?_) ?_ ?_
  rotate_left 1
  focus (simp only [Zg,seval,if_true,if_false,reduceCtorEq,Nat.reduceEqDiff];with_reducible rfl)
  repeat' (first|with_reducible (first|refine Q1 ?_|refine Q2 ?_|refine Q3 ?_|refine Q4 ?_|refine Q5 ?_|refine Q6 ?_|refine Q7 ?_|refine Q8 ?_|refine Q9 ?_|refine Qa ?_|refine Qb ?_|refine Qc ?_|refine Qd ?_|refine Qe ?_|refine Qf ?_)|((with_reducible refine Qo ?_ ?_);focus rfl)|((with_reducible first|refine QT 28 (l:=?_) ?_ ?_|refine QF 28 (l:=?_) ?_ ?_);rotate_left 1;focus (simp only [Zu,Nat.reduceSub,Nat.reduceBEq];with_reducible rfl))|((with_reducible first|refine QS (cfg_ok 36) Tab.none (s':=?_) ?_ ?_|refine QC (b:=?_) ?_ ?_);rotate_left 1;focus ((with_reducible refine QW ?_);simp only [Zg,seval,if_true,if_false,reduceCtorEq,Nat.reduceEqDiff,List.length_map];with_reducible rfl)))
  refine RunK.loop (β:=Nat) (γ:=Unit) (fun i => ⟨[(6,.c (.own 6 (bs.take i).flatten.length)),(25,.c (.val (.sl 1 (bs.map eLLL')))),(26,.c (.val (.int bs.length))),(27,.c (.val (.int i)))],[(6,.row 1 ((bs.take i).flatten.map eL) false)]⟩) (fun i => i ≤ bs.length) (fun i => bs.length - i)
   (fun _ => ⟨[(6,.c (.own 6 bs.flatten.length))],[(6,.row 1 (bs.flatten.map eL) false)]⟩) (fun _ => True) 0 (Nat.zero_le _) ?_ ?_ ?_
  ·(repeat' (first|with_reducible refine Qn|((with_reducible refine Qr ?_ ?_);focus (first|with_reducible rfl|(simp only [Zz,Nat.reduceBEq,List.take_zero,List.flatten_nil,List.map_nil,List.length_map];done)|rfl))|((with_reducible refine Qj (o':=?_) ?_ ?_ ?_);rotate_left 1;focus rfl)|((with_reducible refine Qw ?_ ?_);(focus (first|with_reducible rfl|(simp only [Zv,List.take_zero,List.flatten_nil,List.map_nil,List.length_map];done)));focus (first|exact id|exact (fun h => nomatch h)|exact (fun _ => rfl)))))
  ·intro i hi
   have hi:i ≤ bs.length:=hi
   have hw:=w64_succ (n:=i) (by omega)
   by_cases h:i < bs.length
   ·have i1:((i:Int) < (bs.length:Int)) = True:=eq_true (by omega)
    have i2:((0:Int) ≤ (i:Int)) = True:=eq_true (by omega)
    obtain ⟨f,hf⟩:∃ f,f = bs[i]:=⟨_,rfl⟩
    have hg:(bs.map eLLL')[i]? = some [.sl 1 (f.map eL)]:=by rw [map_get h,hf];rfl
    have hst:=cntL_take_succ bs i h
    have hle:=cntL_take bs (i + 1)
    rw [← hf] at hst
    have hfl:(bs.take (i + 1)).flatten = (bs.take i).flatten ++ f:=by rw [List.take_succ_eq_append_getElem h,List.flatten_append,hf];simp
    have hcl:=cntL_flat (bs.take i)
    have q1:=big_le (n:=(bs.take i).flatten.length + f.length) (by omega)
    have q2:=big_mul (n:=(bs.take i).flatten.length + f.length) (c:=24) (by omega) (by omega)
    repeat' (first|with_reducible (first|refine Q1 ?_|refine Q2 ?_|refine Q3 ?_|refine Q4 ?_|refine Q5 ?_|refine Q6 ?_|refine Q7 ?_|refine Q8 ?_|refine Q9 ?_|refine Qa ?_|refine Qb ?_|refine Qc ?_|refine Qd ?_|refine Qe ?_|refine Qf ?_)|((with_reducible refine Qo ?_ ?_);focus rfl)|((with_reducible first|refine QT 28 (l:=?_) ?_ ?_|refine QF 28 (l:=?_) ?_ ?_);rotate_left 1;focus (simp only [Zu,Nat.reduceSub,Nat.reduceBEq];with_reducible rfl))|((with_reducible first|refine QS (cfg_ok 36) Tab.none (s':=?_) ?_ ?_|refine QC (b:=?_) ?_ ?_);rotate_left 1;focus ((with_reducible refine QW ?_);simp only [Zg,seval,if_true,if_false,reduceCtorEq,Nat.reduceEqDiff,i1,i2,hg,hw,q1,q2,Int.toNat_natCast,List.length_map];with_reducible rfl)))
    refine roundK.on (i + 1) ⟨h,by omega⟩ ?_
    rw [hfl]
    (repeat' (first|with_reducible refine Qn|((with_reducible refine Qr ?_ ?_);focus (first|with_reducible rfl|(simp only [Zz,Nat.reduceBEq];done)|rfl))|((with_reducible refine Qj (o':=?_) ?_ ?_ ?_);rotate_left 1;focus rfl)|((with_reducible refine Qw ?_ ?_);(focus (first|with_reducible rfl|(simp only [Zv];done)));focus (first|exact id|exact (fun h => nomatch h)|exact (fun _ => rfl)))))
   ·have i1:((i:Int) < (bs.length:Int)) = False:=eq_false (by omega)
    obtain rfl:i = bs.length:=by omega
    rw [List.take_length]
    repeat' (first|with_reducible (first|refine Q1 ?_|refine Q2 ?_|refine Q3 ?_|refine Q4 ?_|refine Q5 ?_|refine Q6 ?_|refine Q7 ?_|refine Q8 ?_|refine Q9 ?_|refine Qa ?_|refine Qb ?_|refine Qc ?_|refine Qd ?_|refine Qe ?_|refine Qf ?_)|((with_reducible refine Qo ?_ ?_);focus rfl)|((with_reducible first|refine QT 28 (l:=?_) ?_ ?_|refine QF 28 (l:=?_) ?_ ?_);rotate_left 1;focus (simp only [Zu,Nat.reduceSub,Nat.reduceBEq];with_reducible rfl))|((with_reducible first|refine QS (cfg_ok 36) Tab.none (s':=?_) ?_ ?_|refine QC (b:=?_) ?_ ?_);rotate_left 1;focus ((with_reducible refine QW ?_);simp only [Zg,seval,if_true,if_false,reduceCtorEq,Nat.reduceEqDiff,i1];with_reducible rfl)))
    refine roundK.out () trivial ?_
    (repeat' (first|with_reducible refine Qn|((with_reducible refine Qr ?_ ?_);focus (first|with_reducible rfl|(simp only [Zz,Nat.reduceBEq];done)|rfl))|((with_reducible refine Qj (o':=?_) ?_ ?_ ?_);rotate_left 1;focus rfl)|((with_reducible refine Qw ?_ ?_);(focus (first|with_reducible rfl|(simp only [Zv];done)));focus (first|exact id|exact (fun h => nomatch h)|exact (fun _ => rfl)))))
  ·rintro _ _
   repeat' (first|with_reducible (first|refine Q1 ?_|refine Q2 ?_|refine Q3 ?_|refine Q4 ?_|refine Q5 ?_|refine Q6 ?_|refine Q7 ?_|refine Q8 ?_|refine Q9 ?_|refine Qa ?_|refine Qb ?_|refine Qc ?_|refine Qd ?_|refine Qe ?_|refine Qf ?_)|((with_reducible refine Qo ?_ ?_);focus rfl)|((with_reducible first|refine QT 28 (l:=?_) ?_ ?_|refine QF 28 (l:=?_) ?_ ?_);rotate_left 1;focus (simp only [Zu,Nat.reduceSub,Nat.reduceBEq];with_reducible rfl))|((with_reducible first|refine QS (cfg_ok 36) Tab.none (s':=?_) ?_ ?_|refine QC (b:=?_) ?_ ?_);rotate_left 1;focus ((with_reducible refine QW ?_);simp only [Zg,seval,if_true,if_false,reduceCtorEq,Nat.reduceEqDiff];with_reducible rfl)))
   (refine Ends.mk (by simp) (rs:=?_) (ks:=?_) hres hrts ?_ ?_ ?_;rotate_left 2;(focus (simp only [Ze,Zg,seval,if_true,if_false,reduceCtorEq,Nat.reduceEqDiff];with_reducible rfl));(focus simp);focus (first|with_reducible rfl|(simp only [Zv];done)))
end Go.Proofs.YtgngidchldajhaaGreat
